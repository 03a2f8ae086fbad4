/-
  Layer 10: a graph's net, by the document.
-/
import Derived.Test.YtijlgcbnoekmeaaGrTp
import Derived.Test.YtijlgcbnoekmeaaGrH
import Derived.Test.YtijlgcbnoekmeaaNetC
namespace Go.Proofs.Ytijlgcbnoekmeaa
open Go Go.RowKit Go.Joins
set_option linter.all false

def actAt (g : Gr) (a : Int) : GAct := g.acts.getD a.toNat ⟨ByteArray.empty, 0, none, 0, []⟩
def ofArc (g : Gr) (x : GEdge) : ArcD := ⟨x.f, x.t, (shapeS (actAt g x.f).tag (actAt g x.f).xs).2.2.getD x.fp.toNat 0, (shapeS (actAt g x.t).tag (actAt g x.t).xs).2.1.getD x.tp.toNat 0, x.xs.length⟩
theorem actAt_is (g : Gr) {a : Nat} (ha : a < g.acts.length) : actAt g a = g.acts[a] := by
  unfold actAt; simp [List.getD_eq_getElem?_getD, ha]
/-- What Of answers. -/
def NetR (w : World) (g : Gr) (e : Ending) (w' : World) : Prop :=
  if (findG g).1 ≠ 0 then e = .returned (.tuple #[.agg #[I 0, .slice none 0 0], I (findG g).1]) ∧ New w w'
  else ∃ a c, e = .returned (.tuple #[.agg #[I g.acts.length, .slice a g.edges.length c], I 0]) ∧ SlAt w' a (arcsCells (g.edges.map (ofArc g))) ∧ New w w'
theorem net_cells {w : World} {C : Nat} {a0 a1 : Value} (h : w.heap[C]? = some (.cells #[a0, a1] 24 (0, 0))) :
    w.cell? ⟨C, 0, none⟩ = some a0 ∧ w.cell? ⟨C, 1, none⟩ = some a1 ∧ w.frozen? ⟨C, 0, none⟩ = false ∧ w.frozen? ⟨C, 1, none⟩ = false ∧ C < w.heap.size := by
  refine ⟨?_, ?_, unfrozen_of_block h 0, unfrozen_of_block h 1, (Array.getElem?_eq_some_iff.1 h).1⟩
  all_goals rw [cell_of_block h]; rfl
structure NtAt (w : World) (g : Gr) (P : Nat) (l : List ArcD) (a : Option Addr) (c : Nat) (w' : World) : Prop where
  row : w'.ownsRow w.heap.size 36 5 (.slice a l.length c) l.length (arcsCells l)
  bl : w'.heap[P]? = some (.cells #[I g.acts.length, .slice a l.length c] 24 (0, 0))
  hg : w'.heap[w.heap.size]? = some (.cells g.cs 63 (0, 0))
  hr : w'.heap[w.heap.size + 1]? = some (.cells #[I 0, .slice none 0 0] 24 (0, 0))
  nw : New w w'
  hP : w.heap.size + 1 < P
theorem NtAt.new {w w1 w2 : World} {g : Gr} {P c : Nat} {l : List ArcD} {a : Option Addr} (h : NtAt w g P l a c w1) (k : New w1 w2) : NtAt w g P l a c w2 :=
  ⟨k.owns h.row, Keeps.heap k h.bl (fun h => h), Keeps.heap k h.hg (fun h => h), Keeps.heap k h.hr (fun h => h), h.nw.trans k, h.hP⟩
theorem NtAt.add {w w1 w2 w3 : World} {g : Gr} {P c : Nat} {l : List ArcD} {a : Option Addr} (h : NtAt w g P l a c w1) (x : ArcD) (k12 : New w1 w2) {a' : Option Addr} {c' : Nat}
    (ho : w3.ownsRow w.heap.size 36 5 (.slice a' (l.length + 1) c') (l.length + 1) (arcsCells l ++ arcCells x)) (hk : Keeps (blk a) w2 w3) :
    (w3.cell? ⟨P, 1, none⟩ = some (.slice a l.length c) ∧ w3.frozen? ⟨P, 1, none⟩ = false ∧ P < w3.heap.size) ∧ NtAt w g P (l ++ [x]) a' c' (w3.setCell ⟨P, 1, none⟩ (.slice a' (l.length + 1) c')) := by
  have h2 := h.new k12
  have hne : ∀ {b : Nat} {cs : Array Value} {t : TypeId}, w2.heap[b]? = some (.cells cs t (0, 0)) → t ≠ 36 → ¬ blk a b := fun hb ht hx => by
    obtain ⟨cur, hc⟩ := tab_tag h2.row (own_blk hx)
    rw [hb] at hc; simp at hc; exact ht hc.2
  have hP3 := hk.heap h2.bl (hne h2.bl (by decide))
  have ks : Keeps (fun k => k = P) w3 (w3.setCell ⟨P, 1, none⟩ (.slice a' (l.length + 1) c')) := Keeps.setCell w3 _ _ rfl
  have hhP := h2.hP
  obtain ⟨p0, p1, p2, p3, hPl⟩ := net_cells hP3
  refine ⟨⟨p1, p3, hPl⟩, ⟨?_, ?_, ks.heap (hk.heap h2.hg (hne h2.hg (by decide))) (by omega), ks.heap (hk.heap h2.hr (hne h2.hr (by decide))) (by omega), ?_, hhP⟩⟩
  · have hc := ks.owns ho (fun k hk2 e => by
      subst e
      obtain ⟨cur, hc⟩ := tab_tag ho hk2
      rw [hP3] at hc; simp at hc)
    have e : arcsCells (l ++ [x]) = arcsCells l ++ arcCells x := by unfold arcsCells; rw [List.flatMap_append]; simp
    rw [e]; simpa using hc
  · rw [block_setCell hP3]; simp
  · exact New.keeps (New.keeps h2.nw hk (fun i hi hx => by have := (own_of_blk h2.row hx).1; omega)) ks (fun i hi e => by omega)
set_option maxRecDepth 100000 in
set_option maxHeartbeats 8000000 in
theorem rof_bad (w : World) (g : Gr) (hg : GrAt w g) (hl : GLen g) (h : (findG g).1 ≠ 0) :
    Calls Try.prog 28 #[g.v] w fun e w' => e = .returned (.tuple #[.agg #[I 0, .slice none 0 0], I (findG g).1]) ∧ New w w' := by
  have HC : ∀ W, New w W → Calls Try.prog 40 #[g.v] W fun en w' => en = .returned (I (findG g).1) ∧ New W w' := fun W k => rcheck_any W g (hg.new k) hl
  generalize (findG g).1 = f at h HC ⊢
  have d0 : (f != 0) = true := by simp [h]
  clear hg hl h
  simp only [Gr.v, Gr.cs] at HC ⊢
  go_enter Try.func28, Try.ntmps28
  go_wp2_with fail
  have na : New w (w.alloc (.cells #[.string g.name, .slice g.aa g.acts.length g.ac, .slice g.ea g.edges.length g.ec, .slice g.ia g.ins.length g.ic, .slice g.oa g.outs.length g.oc] 63)) := (New.refl w).alloc _
  have ha : (w.alloc (.cells #[.string g.name, .slice g.aa g.acts.length g.ac, .slice g.ea g.edges.length g.ec, .slice g.ia g.ins.length g.ic, .slice g.oa g.outs.length g.oc] 63)).heap[w.heap.size]? = some (.cells #[.string g.name, .slice g.aa g.acts.length g.ac, .slice g.ea g.edges.length g.ec, .slice g.ia g.ins.length g.ic, .slice g.oa g.outs.length g.oc] 63 (0, 0)) := heap_alloc_new w _
  have sa : (w.alloc (.cells #[.string g.name, .slice g.aa g.acts.length g.ac, .slice g.ea g.edges.length g.ec, .slice g.ia g.ins.length g.ic, .slice g.oa g.outs.length g.oc] 63)).heap.size = w.heap.size + 1 := size_alloc _ _
  generalize (w.alloc (.cells #[.string g.name, .slice g.aa g.acts.length g.ac, .slice g.ea g.edges.length g.ec, .slice g.ia g.ins.length g.ic, .slice g.oa g.outs.length g.oc] 63)) = wa at na ha sa ⊢
  have nb : New wa (wa.alloc (.cells #[I 0, .slice none 0 0] 24)) := (New.refl wa).alloc _
  have hb : (wa.alloc (.cells #[I 0, .slice none 0 0] 24)).heap[wa.heap.size]? = some (.cells #[I 0, .slice none 0 0] 24 (0, 0)) := heap_alloc_new wa _
  rw [sa] at hb
  generalize (wa.alloc (.cells #[I 0, .slice none 0 0] 24)) = wb at nb hb ⊢
  have HX := Lib.hid (Keeps.heap nb ha (fun h => h))
  have HB := Lib.hid hb
  have hN : New w wb := na.trans nb
  clear na nb ha hb sa
  refine (HC wb hN).mono ?_
  rintro e W1 ⟨rfl, k1⟩
  replace HX := Lib.hid (Keeps.heap k1 HX.out (fun h => h))
  replace HB := Lib.hid (Keeps.heap k1 HB.out (fun h => h))
  replace hN := hN.trans k1
  have hsz : w.heap.size + 1 < W1.heap.size := (Array.getElem?_eq_some_iff.1 HB.out).1
  clear k1
  obtain ⟨r0, r1, f0, f1, hBB⟩ := net_cells HB.out
  go_wp2_with fail
  exact bodyPost_ret (v := .tuple #[.agg #[I 0, .slice none 0 0], I f]) (by simp [results, Try.results28, go_sem, r0, r1, f0, f1, hBB]) rfl ⟨rfl, (hN.setCell (by simp) _).setCell (by simp) _⟩
set_option maxRecDepth 100000 in
set_option maxHeartbeats 32000000 in
theorem rof_good (w : World) (g : Gr) (hg : GrAt w g) (hl : GLen g) (h : (findG g).1 = 0) :
    Calls Try.prog 28 #[g.v] w fun e w' => ∃ a c, e = .returned (.tuple #[.agg #[I g.acts.length, .slice a g.edges.length c], I 0]) ∧ SlAt w' a (arcsCells (g.edges.map (ofArc g))) ∧ New w w' := by
  have HS := Lib.hid (gsound_of h)
  have HC : ∀ W, New w W → Calls Try.prog 40 #[g.v] W fun en w' => en = .returned (I 0) ∧ New W w' := fun W k => by
    have := rcheck_any W g (hg.new k) hl; rwa [h] at this
  obtain ⟨it, hit, hz0, hz1, hz2⟩ := info_parts Try.infoArc
  have HG := Lib.hid hg
  have hle := (gsound_of h).ne
  have hla := (gsound_of h).na
  clear hg hl h
  obtain ⟨post, hpost⟩ : ∃ post : Ending → World → Prop, (fun e w' => ∃ a c, e = .returned (.tuple #[.agg #[I g.acts.length, .slice a g.edges.length c], I 0]) ∧ SlAt w' a (arcsCells (g.edges.map (ofArc g))) ∧ New w w') = post := ⟨_, rfl⟩
  rw [hpost]
  have HP := Lib.hid hpost
  clear hpost
  obtain ⟨aA, hA⟩ : ∃ a, g.aa = a := ⟨_, rfl⟩
  obtain ⟨aE, hE⟩ : ∃ a, g.ea = a := ⟨_, rfl⟩
  have HA := Lib.hid hA
  have HE := Lib.hid hE
  clear hA hE
  simp only [Gr.v, Gr.cs] at HC ⊢
  go_enter Try.func28, Try.ntmps28
  go_wp2_with fail
  have na : New w (w.alloc (.cells #[.string g.name, .slice g.aa g.acts.length g.ac, .slice g.ea g.edges.length g.ec, .slice g.ia g.ins.length g.ic, .slice g.oa g.outs.length g.oc] 63)) := (New.refl w).alloc _
  have ha : (w.alloc (.cells #[.string g.name, .slice g.aa g.acts.length g.ac, .slice g.ea g.edges.length g.ec, .slice g.ia g.ins.length g.ic, .slice g.oa g.outs.length g.oc] 63)).heap[w.heap.size]? = some (.cells #[.string g.name, .slice g.aa g.acts.length g.ac, .slice g.ea g.edges.length g.ec, .slice g.ia g.ins.length g.ic, .slice g.oa g.outs.length g.oc] 63 (0, 0)) := heap_alloc_new w _
  have sa : (w.alloc (.cells #[.string g.name, .slice g.aa g.acts.length g.ac, .slice g.ea g.edges.length g.ec, .slice g.ia g.ins.length g.ic, .slice g.oa g.outs.length g.oc] 63)).heap.size = w.heap.size + 1 := size_alloc _ _
  generalize (w.alloc (.cells #[.string g.name, .slice g.aa g.acts.length g.ac, .slice g.ea g.edges.length g.ec, .slice g.ia g.ins.length g.ic, .slice g.oa g.outs.length g.oc] 63)) = wa at na ha sa ⊢
  have nb : New wa (wa.alloc (.cells #[I 0, .slice none 0 0] 24)) := (New.refl wa).alloc _
  have hb : (wa.alloc (.cells #[I 0, .slice none 0 0] 24)).heap[wa.heap.size]? = some (.cells #[I 0, .slice none 0 0] 24 (0, 0)) := heap_alloc_new wa _
  rw [sa] at hb
  generalize (wa.alloc (.cells #[I 0, .slice none 0 0] 24)) = wb at nb hb ⊢
  have HX := Lib.hid (Keeps.heap nb ha (fun h => h))
  have HB := Lib.hid hb
  have hN : New w wb := na.trans nb
  clear na nb ha hb sa
  refine (HC wb hN).mono ?_
  rintro e W1 ⟨rfl, k1⟩
  replace HX := Lib.hid (Keeps.heap k1 HX.out (fun h => h))
  replace HB := Lib.hid (Keeps.heap k1 HB.out (fun h => h))
  replace hN := hN.trans k1
  have hsz : w.heap.size + 1 < W1.heap.size := (Array.getElem?_eq_some_iff.1 HB.out).1
  clear k1
  obtain ⟨g0, g1, g2, g3, g4, hGl⟩ := gr_cells HX.out
  go_wp2_with fail
  have ks : New W1 (W1.alloc (.cells #[I g.acts.length, .slice none 0 0] 24)) := (New.refl W1).alloc _
  have hp : (W1.alloc (.cells #[I g.acts.length, .slice none 0 0] 24)).heap[W1.heap.size]? = some (.cells #[I g.acts.length, .slice none 0 0] 24 (0, 0)) := heap_alloc_new W1 _
  generalize (W1.alloc (.cells #[I g.acts.length, .slice none 0 0] 24)) = W2 at ks hp ⊢
  generalize W1.heap.size = P at hp hsz ⊢
  have HD : Hid (NtAt w g P ((g.edges.take 0).map (ofArc g)) none 0 W2) := Lib.hid ⟨World.ownsRow_nil _ _ _ _, hp, Keeps.heap ks HX.out (fun h => h), Keeps.heap ks HB.out (fun h => h), hN.trans ks, hsz⟩
  clear ks hp HX HB hN HC g0 g1 g2 g3 g4 hGl
  go_loopw [6] (fun i wr => ∃ (k : Nat) (a : Option Addr) (c : Nat), k ≤ g.edges.length ∧ i = .int .i64 k ∧ Hid (NtAt w g P ((g.edges.take k).map (ofArc g)) a c wr)) (fun i _ => g.edges.length - (intOf i).toNat)
  case atStart => exact ⟨0, none, 0, by omega, rfl, HD⟩
  case round =>
    clear HD
    obtain ⟨k, a, c, hk, rfl, HD⟩ := hrel
    obtain ⟨g0, g1, g2, g3, g4, hGl⟩ := gr_cells HD.out.hg
    rw [HE.out] at g2
    by_cases hk1 : k < g.edges.length
    · have hkI : (k : Int) < (g.edges.length : Int) := by omega
      have hkd : decide (k < g.edges.length) = true := decide_eq_true hk1
      obtain ⟨b, off, hab, q0, q1, q2, q3, q4⟩ := gedges_at (HG.out.new HD.out.nw).se hk1
      have hbw : b < wr.heap.size := World.block_lt_of_cell? wr _ q0
      have e : aE = some ⟨b, off, none⟩ := HE.out.symm.trans hab
      subst e
      have HIT : Hid ((g.edges.take k).map (ofArc g) ++ [ofArc g g.edges[k]] = (g.edges.take (k + 1)).map (ofArc g)) := Lib.hid (by rw [List.take_succ_eq_append_getElem hk1, List.map_append]; rfl)
      have hll : ((g.edges.take k).map (ofArc g)).length = k := by simp; omega
      obtain ⟨xf, hxf, ef, hp0, hp1, -⟩ := endE_zero (HS.out.edge k hk1).1
      obtain ⟨xt, hxt, et, ht0, ht1, -⟩ := endE_zero (HS.out.edge k hk1).2.1
      have hef := (HS.out.act xf hxf).2
      have het := (HS.out.act xt hxt).2
      have hlf := (shape_good hef).2.2
      have hlt := (shape_good het).2.2
      have hOA : Hid (ofArc g g.edges[k] = ⟨g.edges[k].f, g.edges[k].t, (shapeS g.acts[xf].tag g.acts[xf].xs).2.2.getD g.edges[k].fp.toNat 0, (shapeS g.acts[xt].tag g.acts[xt].xs).2.1.getD g.edges[k].tp.toNat 0, g.edges[k].xs.length⟩) := Lib.hid (by unfold ofArc; rw [ef, et, actAt_is g hxf, actAt_is g hxt])
      have hxl := (HS.out.edge k hk1).2.2
      have hp2 : g.edges[k].fp < ((shapeS g.acts[xf].tag g.acts[xf].xs).2.2.length : Int) := hp1
      have ht2 : g.edges[k].tp < ((shapeS g.acts[xt].tag g.acts[xt].xs).2.1.length : Int) := ht1
      have hO1 : ∀ W, New wr W → Calls Try.prog 41 #[.int .u8 g.acts[xf].tag, .slice g.acts[xf].a g.acts[xf].xs.length g.acts[xf].c] W fun e w' => ∃ a1 n1 c1 a2 c2, e = .returned (.tuple #[.slice a1 n1 c1, .slice a2 (shapeS g.acts[xf].tag g.acts[xf].xs).2.2.length c2, I 0]) ∧ SlAt w' a2 (Is (shapeS g.acts[xf].tag g.acts[xf].xs).2.2) ∧ New W w' := fun W n => (refOf_any _ _ _ _ W (((HG.out.new HD.out.nw).ax _ (List.getElem_mem hxf)).new n) (by omega)).mono (fun e w' h => by obtain ⟨a1, c1, a2, c2, h1, h2, h3, -, h4⟩ := h; rw [hef] at h1; exact ⟨a1, _, c1, a2, c2, h1, h3.sl, h4⟩)
      have hO2 : ∀ W, New wr W → Calls Try.prog 41 #[.int .u8 g.acts[xt].tag, .slice g.acts[xt].a g.acts[xt].xs.length g.acts[xt].c] W fun e w' => ∃ a1 c1 a2 n2 c2, e = .returned (.tuple #[.slice a1 (shapeS g.acts[xt].tag g.acts[xt].xs).2.1.length c1, .slice a2 n2 c2, I 0]) ∧ SlAt w' a1 (Is (shapeS g.acts[xt].tag g.acts[xt].xs).2.1) ∧ New W w' := fun W n => (refOf_any _ _ _ _ W (((HG.out.new HD.out.nw).ax _ (List.getElem_mem hxt)).new n) (by omega)).mono (fun e w' h => by obtain ⟨a1, c1, a2, c2, h1, h2, h3, -, h4⟩ := h; rw [het] at h1; exact ⟨a1, c1, a2, _, c2, h1, h2.sl, h4⟩)
      obtain ⟨ba, oa, ea, -, n1, n2⟩ := acts_at (HG.out.new HD.out.nw).sa hxf
      obtain ⟨bb, ob, eb, -, m1, m2⟩ := acts_at (HG.out.new HD.out.nw).sa hxt
      have eab := ea.symm.trans eb
      simp only [Option.some.injEq, Addr.mk.injEq, and_true] at eab
      obtain ⟨rfl, rfl⟩ := eab
      have eaa : aA = some ⟨ba, oa, none⟩ := HA.out.symm.trans ea
      subst eaa
      rw [HA.out] at g1
      clear hab ea eb hp1 ht1
      generalize (g.edges.take k).map (ofArc g) = L at HD HIT hll
      have HLL := Lib.hid hll
      clear hll
      generalize ofArc g g.edges[k] = A9 at HIT hOA
      generalize g.edges[k] = x at q0 q1 q2 q3 q4 ef et hp0 hp2 ht0 ht2 hOA hxl
      generalize (shapeS g.acts[xf].tag g.acts[xf].xs).2.2 = so at hO1 hOA hp2
      generalize (shapeS g.acts[xt].tag g.acts[xt].xs).2.1 = si at hO2 hOA ht2
      have hxfI : (xf : Int) < (g.acts.length : Int) := by omega
      have hxtI : (xt : Int) < (g.acts.length : Int) := by omega
      clear hef het
      generalize g.acts[xf] = A1 at n1 n2 hO1 hlf
      generalize g.acts[xt] = A2 at m1 m2 hO2 hlt
      obtain ⟨f1, fp, t1, tp, xa, xc, xs⟩ := x
      simp only at q0 q1 q2 q3 q4 ef et hp0 hp2 ht0 ht2 hOA hxl
      subst ef et
      obtain ⟨p, rfl⟩ : ∃ p : Nat, fp = p := ⟨fp.toNat, by omega⟩
      obtain ⟨r, rfl⟩ : ∃ r : Nat, tp = r := ⟨tp.toNat, by omega⟩
      rw [Int.toNat_natCast, Int.toNat_natCast] at hOA
      go_wp2_with fail
      have kb : New wr (wr.alloc (.cells #[I xf, I p, I xt, I r, .slice xa xs.length xc] 80)) := (New.refl wr).alloc _
      have hby : (wr.alloc (.cells #[I xf, I p, I xt, I r, .slice xa xs.length xc] 80)).heap[wr.heap.size]? = some (.cells #[I xf, I p, I xt, I r, .slice xa xs.length xc] 80 (0, 0)) := heap_alloc_new wr _
      generalize (wr.alloc (.cells #[I xf, I p, I xt, I r, .slice xa xs.length xc] 80)) = w1 at kb hby ⊢
      generalize wr.heap.size = Y at hby ⊢
      replace HD := Lib.hid (HD.out.new kb)
      have HY := Lib.hid hby
      replace g1 := kb.cell g1
      replace n1 := kb.cell n1
      replace n2 := kb.cell n2
      replace m1 := kb.cell m1
      replace m2 := kb.cell m2
      have hO1' := fun W (n : New w1 W) => hO1 W (kb.trans n)
      have hO2' := fun W (n : New w1 W) => hO2 W (kb.trans n)
      clear hby kb hbw q0 q1 q2 q3 q4 g0 g2 g3 g4 hGl hO1 hO2
      obtain ⟨y0, y1, y2, y3, y4, hYl⟩ := edge_cells HY.out
      go_region_held3 (fun w' : World => w'.cell? ⟨w.heap.size, 1, none⟩ = some (.slice (some ⟨ba, oa, none⟩) g.acts.length g.ac) ∧ w'.cell? ⟨Y, 0, none⟩ = some (I xf) ∧ w'.cell? ⟨ba, oa + xf * 3 + 1, none⟩ = some (.int .u8 A1.tag) ∧ w'.cell? ⟨ba, oa + xf * 3 + 2, none⟩ = some (.slice A1.a A1.xs.length A1.c) ∧ New w1 w')
        ((refine ⟨New.cell (w := w1) ?_ g1, New.cell (w := w1) ?_ y0, New.cell (w := w1) ?_ n1, New.cell (w := w1) ?_ n2, ?_⟩ <;> (repeat (first | exact New.refl w1 | exact r4 | refine New.drew ?_))))
        ((go_at_call 41; (first | refine (hO1' _ (New.refl w1)).mono ?_ | refine (hO1' _ ((New.refl w1).drew)).mono ?_); rintro e w4 ⟨a1, l1, c1, a2, c2, rfl, s2, r4'⟩; have r4 : New w1 w4 := by first | exact r4' | exact ((New.refl w1).drew).trans r4'))
      rename_i hH9
      simp only [Exit.then]
      clear hH9
      replace g1 := r4.cell g1
      replace y2 := r4.cell y2
      replace m1 := r4.cell m1
      replace m2 := r4.cell m2
      go_wp2_with fail
      go_region_held3 (fun w' : World => w'.cell? ⟨w.heap.size, 1, none⟩ = some (.slice (some ⟨ba, oa, none⟩) g.acts.length g.ac) ∧ w'.cell? ⟨Y, 2, none⟩ = some (I xt) ∧ w'.cell? ⟨ba, oa + xt * 3 + 1, none⟩ = some (.int .u8 A2.tag) ∧ w'.cell? ⟨ba, oa + xt * 3 + 2, none⟩ = some (.slice A2.a A2.xs.length A2.c) ∧ New w4 w')
        ((refine ⟨New.cell (w := w4) ?_ g1, New.cell (w := w4) ?_ y2, New.cell (w := w4) ?_ m1, New.cell (w := w4) ?_ m2, ?_⟩ <;> (repeat (first | exact New.refl w4 | exact r5 | refine New.drew ?_))))
        ((go_at_call 41; (first | refine (hO2' _ r4).mono ?_ | refine (hO2' _ r4.drew).mono ?_); rintro e w5 ⟨b1, d1, b2, l2, d2, rfl, s3, r5'⟩; have r5 : New w4 w5 := by first | exact r5' | exact ((New.refl w4).drew).trans r5'))
      rename_i hH10
      simp only [Exit.then]
      clear hH10 g1 y0 y1 y2 y3 y4 hYl n1 n2 m1 m2 hO1' hO2'
      have r6 := r4.trans r5
      replace HD := Lib.hid (HD.out.new r6)
      replace HY := Lib.hid (Keeps.heap r6 HY.out (fun h => h))
      obtain ⟨bo, oo, eo, co⟩ := Is_at (s2.new r5) (i := p) (by omega)
      obtain ⟨bi, oq, ei, ci⟩ := Is_at s3 (i := r) (by omega)
      subst eo ei
      have hA9 : A9 = ⟨xf, xt, so[p]'(by omega), si[r]'(by omega), xs.length⟩ := by rw [hOA.out]; simp [List.getD_eq_getElem?_getD, show p < so.length by omega, show r < si.length by omega]
      generalize so[p]'(by omega) = v1 at co hA9
      generalize si[r]'(by omega) = v2 at ci hA9
      subst hA9
      have hpI : (p : Int) < (so.length : Int) := by omega
      have hrI : (r : Int) < (si.length : Int) := by omega
      clear s2 s3 r4 r5 r6 hOA
      obtain ⟨y0, y1, y2, y3, y4, hYl⟩ := edge_cells HY.out
      obtain ⟨-, p1, -, -, hPl⟩ := net_cells HD.out.bl
      go_wp2_with fail
      have hdr : New w5 w5.drew := (New.refl w5).drew
      have HSn : ∀ V, New w5 V → (fun w' : World => w'.cell? ⟨P, 1, none⟩ = some (.slice a L.length c) ∧ P < w'.heap.size ∧ w'.cell? ⟨Y, 0, none⟩ = some (I xf) ∧ w'.cell? ⟨Y, 1, none⟩ = some (I p) ∧ w'.cell? ⟨Y, 2, none⟩ = some (I xt) ∧ w'.cell? ⟨Y, 3, none⟩ = some (I r) ∧ w'.cell? ⟨Y, 4, none⟩ = some (.slice xa xs.length xc) ∧ w'.cell? ⟨bo, oo + p, none⟩ = some (I v1) ∧ w'.cell? ⟨bi, oq + r, none⟩ = some (I v2)) V := fun V kv => ⟨kv.cell p1, Nat.lt_of_lt_of_le hPl kv.size, kv.cell y0, kv.cell y1, kv.cell y2, kv.cell y3, kv.cell y4, kv.cell co, kv.cell ci⟩
      have hS0 := HSn _ hdr
      clear p1 hPl y0 y1 y2 y3 y4 hYl co ci
      refine wp_region_X (fun w' : World => w'.cell? ⟨P, 1, none⟩ = some (.slice a L.length c) ∧ P < w'.heap.size ∧ w'.cell? ⟨Y, 0, none⟩ = some (I xf) ∧ w'.cell? ⟨Y, 1, none⟩ = some (I p) ∧ w'.cell? ⟨Y, 2, none⟩ = some (I xt) ∧ w'.cell? ⟨Y, 3, none⟩ = some (I r) ∧ w'.cell? ⟨Y, 4, none⟩ = some (.slice xa xs.length xc) ∧ w'.cell? ⟨bo, oo + p, none⟩ = some (I v1) ∧ w'.cell? ⟨bi, oq + r, none⟩ = some (I v2)) [21, 22, 23] (by kernel_rfl) hS0 ?_
      generalize w5.drew = wd at hdr hS0 ⊢
      refine anyX_take 0 (by kernel_rfl) (by kernel_rfl) (by kernel_rfl) (by kernel_rfl) (by kernel_rfl) hS0 ?_
      intro oi ho; simp only [List.getElem?_toArray, List.getElem?_cons_succ, List.getElem?_cons_zero, Option.some.injEq] at ho; subst ho
      refine ⟨?_, fun _ _ _ h => h, Or.inl ⟨by rfl, ?_⟩, ?_⟩; rotate_left 1
      · (intro wS hSw; (try dsimp only at hSw); go_simp; try with_reducible rfl)
      simp only [Act.put, List.setIfInBounds_toArray, List.set_cons_zero, List.set_cons_succ]
      refine anyX_take 1 (by kernel_rfl) (by kernel_rfl) (by kernel_rfl) (by kernel_rfl) (by kernel_rfl) hS0 ?_
      intro oi ho; simp only [List.getElem?_toArray, List.getElem?_cons_succ, List.getElem?_cons_zero, Option.some.injEq] at ho; subst ho
      refine ⟨?_, fun _ _ _ h => h, Or.inl ⟨by rfl, ?_⟩, ?_⟩; rotate_left 1
      · (intro wS hSw; (try dsimp only at hSw); go_simp; try with_reducible rfl)
      simp only [Act.put, List.setIfInBounds_toArray, List.set_cons_zero, List.set_cons_succ]
      refine anyX_take 2 (by kernel_rfl) (by kernel_rfl) (by kernel_rfl) (by kernel_rfl) (by kernel_rfl) hS0 ?_
      intro oi ho; simp only [List.getElem?_toArray, List.getElem?_cons_succ, List.getElem?_cons_zero, Option.some.injEq] at ho; subst ho
      refine ⟨?_, fun _ _ _ h => h, Or.inl ⟨by rfl, ?_⟩, ?_⟩; rotate_left 1
      · (intro wS hSw; (try dsimp only at hSw); go_simp; try with_reducible rfl)
      simp only [Act.put, List.setIfInBounds_toArray, List.set_cons_zero, List.set_cons_succ]
      refine anyX_take 3 (by kernel_rfl) (by kernel_rfl) (by kernel_rfl) (by kernel_rfl) (by kernel_rfl) hS0 ?_
      intro oi ho; simp only [List.getElem?_toArray, List.getElem?_cons_succ, List.getElem?_cons_zero, Option.some.injEq] at ho; subst ho
      refine ⟨?_, fun _ _ _ h => h, Or.inl ⟨by rfl, ?_⟩, ?_⟩; rotate_left 1
      · (intro wS hSw; (try dsimp only at hSw); go_simp; try with_reducible rfl)
      simp only [Act.put, List.setIfInBounds_toArray, List.set_cons_zero, List.set_cons_succ]
      refine anyX_take 4 (by kernel_rfl) (by kernel_rfl) (by kernel_rfl) (by kernel_rfl) (by kernel_rfl) hS0 ?_
      intro oi ho; simp only [List.getElem?_toArray, List.getElem?_cons_succ, List.getElem?_cons_zero, Option.some.injEq] at ho; subst ho
      refine ⟨?_, fun _ _ _ h => h, Or.inl ⟨by rfl, ?_⟩, ?_⟩; rotate_left 1
      · (intro wS hSw; (try dsimp only at hSw); go_simp; try with_reducible rfl)
      simp only [Act.put, List.setIfInBounds_toArray, List.set_cons_zero, List.set_cons_succ]
      refine anyX_take 5 (by kernel_rfl) (by kernel_rfl) (by kernel_rfl) (by kernel_rfl) (by kernel_rfl) hS0 ?_
      intro oi ho; simp only [List.getElem?_toArray, List.getElem?_cons_succ, List.getElem?_cons_zero, Option.some.injEq] at ho; subst ho
      refine ⟨?_, fun _ _ _ h => h, Or.inl ⟨by rfl, ?_⟩, ?_⟩; rotate_left 1
      · (intro wS hSw; (try dsimp only at hSw); go_simp; try with_reducible rfl)
      simp only [Act.put, List.setIfInBounds_toArray, List.set_cons_zero, List.set_cons_succ]
      refine anyX_take 6 (by kernel_rfl) (by kernel_rfl) (by kernel_rfl) (by kernel_rfl) (by kernel_rfl) hS0 ?_
      intro oi ho; simp only [List.getElem?_toArray, List.getElem?_cons_succ, List.getElem?_cons_zero, Option.some.injEq] at ho; subst ho
      refine ⟨?_, fun _ _ _ h => h, Or.inl ⟨by rfl, ?_⟩, ?_⟩; rotate_left 1
      · (intro wS hSw; (try dsimp only at hSw); go_simp; try with_reducible rfl)
      simp only [Act.put, List.setIfInBounds_toArray, List.set_cons_zero, List.set_cons_succ]
      refine anyX_take 7 (by kernel_rfl) (by kernel_rfl) (by kernel_rfl) (by kernel_rfl) (by kernel_rfl) hS0 ?_
      intro oi ho; simp only [List.getElem?_toArray, List.getElem?_cons_succ, List.getElem?_cons_zero, Option.some.injEq] at ho; subst ho
      refine ⟨?_, fun _ _ _ h => h, Or.inl ⟨by rfl, ?_⟩, ?_⟩; rotate_left 1
      · (intro wS hSw; (try dsimp only at hSw); go_simp; try with_reducible rfl)
      simp only [Act.put, List.setIfInBounds_toArray, List.set_cons_zero, List.set_cons_succ]
      refine anyX_take 8 (by kernel_rfl) (by kernel_rfl) (by kernel_rfl) (by kernel_rfl) (by kernel_rfl) hS0 ?_
      intro oi ho; simp only [List.getElem?_toArray, List.getElem?_cons_succ, List.getElem?_cons_zero, Option.some.injEq] at ho; subst ho
      refine ⟨?_, fun _ _ _ h => h, Or.inl ⟨by rfl, ?_⟩, ?_⟩; rotate_left 1
      · (intro wS hSw; (try dsimp only at hSw); go_simp; try with_reducible rfl)
      simp only [Act.put, List.setIfInBounds_toArray, List.set_cons_zero, List.set_cons_succ]
      refine anyX_take 9 (by kernel_rfl) (by kernel_rfl) (by kernel_rfl) (by kernel_rfl) (by kernel_rfl) hS0 ?_
      intro oi ho; simp only [List.getElem?_toArray, List.getElem?_cons_succ, List.getElem?_cons_zero, Option.some.injEq] at ho; subst ho
      refine ⟨?_, fun _ _ _ h => h, Or.inl ⟨by rfl, ?_⟩, ?_⟩; rotate_left 1
      · (intro wS hSw; (try dsimp only at hSw); go_simp; try with_reducible rfl)
      simp only [Act.put, List.setIfInBounds_toArray, List.set_cons_zero, List.set_cons_succ]
      refine anyX_take 10 (by kernel_rfl) (by kernel_rfl) (by kernel_rfl) (by kernel_rfl) (by kernel_rfl) hS0 ?_
      intro oi ho; simp only [List.getElem?_toArray, List.getElem?_cons_succ, List.getElem?_cons_zero, Option.some.injEq] at ho; subst ho
      refine ⟨?_, fun _ _ _ h => h, Or.inl ⟨by rfl, ?_⟩, ?_⟩; rotate_left 1
      · (intro wS hSw; (try dsimp only at hSw); go_simp; try with_reducible rfl)
      simp only [Act.put, List.setIfInBounds_toArray, List.set_cons_zero, List.set_cons_succ]
      refine anyX_take 11 (by kernel_rfl) (by kernel_rfl) (by kernel_rfl) (by kernel_rfl) (by kernel_rfl) hS0 ?_
      intro oi ho; simp only [List.getElem?_toArray, List.getElem?_cons_succ, List.getElem?_cons_zero, Option.some.injEq] at ho; subst ho
      refine ⟨?_, fun _ _ _ h => h, Or.inl ⟨by rfl, ?_⟩, ?_⟩; rotate_left 1
      · (intro wS hSw; (try dsimp only at hSw); go_simp; try with_reducible rfl)
      simp only [Act.put, List.setIfInBounds_toArray, List.set_cons_zero, List.set_cons_succ]
      refine anyX_take 12 (by kernel_rfl) (by kernel_rfl) (by kernel_rfl) (by kernel_rfl) (by kernel_rfl) hS0 ?_
      intro oi ho; simp only [List.getElem?_toArray, List.getElem?_cons_succ, List.getElem?_cons_zero, Option.some.injEq] at ho; subst ho
      refine ⟨?_, fun _ _ _ h => h, Or.inl ⟨by rfl, ?_⟩, ?_⟩; rotate_left 1
      · (intro wS hSw; (try dsimp only at hSw); go_simp; try with_reducible rfl)
      simp only [Act.put, List.setIfInBounds_toArray, List.set_cons_zero, List.set_cons_succ]
      refine anyX_take 13 (by kernel_rfl) (by kernel_rfl) (by kernel_rfl) (by kernel_rfl) (by kernel_rfl) hS0 ?_
      intro oi ho; simp only [List.getElem?_toArray, List.getElem?_cons_succ, List.getElem?_cons_zero, Option.some.injEq] at ho; subst ho
      refine ⟨?_, fun _ _ _ h => h, Or.inl ⟨by rfl, ?_⟩, ?_⟩; rotate_left 1
      · (intro wS hSw; (try dsimp only at hSw); go_simp; try with_reducible rfl)
      simp only [Act.put, List.setIfInBounds_toArray, List.set_cons_zero, List.set_cons_succ]
      refine anyX_take 14 (by kernel_rfl) (by kernel_rfl) (by kernel_rfl) (by kernel_rfl) (by kernel_rfl) hS0 ?_
      intro oi ho; simp only [List.getElem?_toArray, List.getElem?_cons_succ, List.getElem?_cons_zero, Option.some.injEq] at ho; subst ho
      refine ⟨?_, fun _ _ _ h => h, Or.inl ⟨by rfl, ?_⟩, ?_⟩; rotate_left 1
      · (intro wS hSw; (try dsimp only at hSw); go_simp; try with_reducible rfl)
      simp only [Act.put, List.setIfInBounds_toArray, List.set_cons_zero, List.set_cons_succ]
      refine anyX_take 15 (by kernel_rfl) (by kernel_rfl) (by kernel_rfl) (by kernel_rfl) (by kernel_rfl) hS0 ?_
      intro oi ho; simp only [List.getElem?_toArray, List.getElem?_cons_succ, List.getElem?_cons_zero, Option.some.injEq] at ho; subst ho
      refine ⟨?_, fun _ _ _ h => h, Or.inl ⟨by rfl, ?_⟩, ?_⟩; rotate_left 1
      · (intro wS hSw; (try dsimp only at hSw); go_simp; try with_reducible rfl)
      simp only [Act.put, List.setIfInBounds_toArray, List.set_cons_zero, List.set_cons_succ]
      refine anyX_take 16 (by kernel_rfl) (by kernel_rfl) (by kernel_rfl) (by kernel_rfl) (by kernel_rfl) hS0 ?_
      intro oi ho; simp only [List.getElem?_toArray, List.getElem?_cons_succ, List.getElem?_cons_zero, Option.some.injEq] at ho; subst ho
      refine ⟨?_, fun _ _ _ h => h, Or.inl ⟨by rfl, ?_⟩, ?_⟩; rotate_left 1
      · (intro wS hSw; (try dsimp only at hSw); go_simp; try with_reducible rfl)
      simp only [Act.put, List.setIfInBounds_toArray, List.set_cons_zero, List.set_cons_succ]
      refine anyX_take 17 (by kernel_rfl) (by kernel_rfl) (by kernel_rfl) (by kernel_rfl) (by kernel_rfl) hS0 ?_
      intro oi ho; simp only [List.getElem?_toArray, List.getElem?_cons_succ, List.getElem?_cons_zero, Option.some.injEq] at ho; subst ho
      refine ⟨?_, fun _ _ _ h => h, Or.inl ⟨by rfl, ?_⟩, ?_⟩; rotate_left 1
      · (intro wS hSw; (try dsimp only at hSw); go_simp; try with_reducible rfl)
      simp only [Act.put, List.setIfInBounds_toArray, List.set_cons_zero, List.set_cons_succ]
      refine anyX_take 18 (by kernel_rfl) (by kernel_rfl) (by kernel_rfl) (by kernel_rfl) (by kernel_rfl) hS0 ?_
      intro oi ho; simp only [List.getElem?_toArray, List.getElem?_cons_succ, List.getElem?_cons_zero, Option.some.injEq] at ho; subst ho
      refine ⟨?_, fun _ _ _ h => h, Or.inl ⟨by rfl, ?_⟩, ?_⟩; rotate_left 1
      · (intro wS hSw; (try dsimp only at hSw); go_simp; try with_reducible rfl)
      simp only [Act.put, List.setIfInBounds_toArray, List.set_cons_zero, List.set_cons_succ]
      refine anyX_take 19 (by kernel_rfl) (by kernel_rfl) (by kernel_rfl) (by kernel_rfl) (by kernel_rfl) hS0 ?_
      intro oi ho; simp only [List.getElem?_toArray, List.getElem?_cons_succ, List.getElem?_cons_zero, Option.some.injEq] at ho; subst ho
      refine ⟨?_, fun _ _ _ h => h, Or.inl ⟨by rfl, ?_⟩, ?_⟩; rotate_left 1
      · (intro wS hSw; (try dsimp only at hSw); go_simp; try with_reducible rfl)
      simp only [Act.put, List.setIfInBounds_toArray, List.set_cons_zero, List.set_cons_succ]
      refine anyX_one 20 (by kernel_rfl) ?_
      intro oi ho; simp only [List.getElem?_toArray, List.getElem?_cons_succ, List.getElem?_cons_zero, Option.some.injEq] at ho; subst ho; intro K hK
      (try simp only [Act.put, List.setIfInBounds_toArray, List.set_cons_zero, List.set_cons_succ])
      go_simp
      have kl : New wd (wd.alloc (.cells #[I xf, I xt, I v1, I v2, I xs.length] 36)) := (New.refl wd).alloc _
      have hlit : SlAt (wd.alloc (.cells #[I xf, I xt, I v1, I v2, I xs.length] 36)) (some ⟨wd.heap.size, 0, none⟩) (arcCells (⟨xf, xt, v1, v2, xs.length⟩ : ArcD)) := SlAt.lit wd _ _
      have kz := hdr.trans kl
      refine hK _ _ (fun _ => HSn _ kz) ?_
      clear hK K
      generalize (wd.alloc (.cells #[I xf, I xt, I v1, I v2, I xs.length] 36)) = VZ at kl hlit kz ⊢
      generalize wd.heap.size = Z at hlit ⊢
      refine anyX_one 21 (by kernel_rfl) ?_
      intro oi ho; simp only [List.getElem?_toArray, List.getElem?_cons_succ, List.getElem?_cons_zero, Option.some.injEq] at ho; subst ho; intro K hK
      refine step_app rfl _ _ 22 rfl w.heap.size 36 it _ 5 40 Try.underlying22 hit hz0 hz1 hz2 rfl (by decide) a L.length c (arcsCells L) rfl (HD.out.new kz).row (some ⟨Z, 0, none⟩) 1 1 (arcCells (⟨xf, xt, v1, v2, xs.length⟩ : ArcD)) rfl rfl hlit (by intro u hu; simp only [arcCells, List.mem_cons, List.not_mem_nil, or_false] at hu; rcases hu with rfl | rfl | rfl | rfl | rfl <;> rfl) (by unfold maxLen; have := HLL.out; omega) (by have := HLL.out; omega) (Nat.le_trans HD.out.nw.size kz.size) ?_
      intro a' c' wq hown' hk' hmv
      obtain ⟨⟨hv0, hfz, hPl2⟩, hDn⟩ := HD.out.add (⟨xf, xt, v1, v2, xs.length⟩ : ArcD) kz hown' hk'
      rw [HIT.out] at hDn
      have HDn := Lib.hid hDn
      refine hK _ _ (fun hx => by cases hx) ?_
      clear hK K hDn hown' hk' hmv
      refine anyX_one 22 (by kernel_rfl) ?_
      intro oi ho; simp only [List.getElem?_toArray, List.getElem?_cons_succ, List.getElem?_cons_zero, Option.some.injEq] at ho; subst ho; intro K hK
      (try simp only [Act.put, List.setIfInBounds_toArray, List.set_cons_zero, List.set_cons_succ])
      go_simp
      refine hK _ _ (fun hx => by cases hx) ?_
      clear hK K
      refine anyX_one 23 (by kernel_rfl) ?_
      intro oi ho; simp only [List.getElem?_toArray, List.getElem?_cons_succ, List.getElem?_cons_zero, Option.some.injEq] at ho; subst ho; intro K hK
      (try simp only [Act.put, List.setIfInBounds_toArray, List.set_cons_zero, List.set_cons_succ])
      go_simp
      refine hK _ _ (fun hx => by cases hx) ?_
      clear hK K
      refine anyX_done (by kernel_rfl) ?_
      (try simp only [Act.put, List.setIfInBounds_toArray, List.set_cons_zero, List.set_cons_succ])
      clear hS0 HSn
      (try simp only [Exit.then])
      go_wp2_with fail
      go_roundw
      case rel => exact ⟨k + 1, _, _, by omega, by go_num, HDn⟩
      case measure => simp [intOf]; omega
    · have hke : k = g.edges.length := by omega
      have hkd : decide (k < g.edges.length) = false := decide_eq_false hk1
      have hkI : (g.edges.length : Int) ≤ (k : Int) := by omega
      rw [hke, List.take_length] at HD
      clear hke hk hk1
      have hrow := HD.out.row
      have hbl := HD.out.bl
      rw [List.length_map] at hbl
      obtain ⟨p0, p1, -, -, hPl⟩ := net_cells hbl
      obtain ⟨r0, r1, f0, f1, hBB⟩ := net_cells HD.out.hr
      have HFIN : Hid (∀ u v : Value, post (.returned (.tuple #[.agg #[I g.acts.length, .slice a g.edges.length c], I 0])) ((wr.setCell ⟨w.heap.size + 1, 0, none⟩ u).setCell ⟨w.heap.size + 1, 1, none⟩ v)) := Lib.hid (fun u v => by
        rw [← HP.out]
        have kk : Keeps (fun k => k = w.heap.size + 1) wr ((wr.setCell ⟨w.heap.size + 1, 0, none⟩ u).setCell ⟨w.heap.size + 1, 1, none⟩ v) := (Keeps.setCell (S := fun k => k = w.heap.size + 1) wr _ _ rfl).trans (Keeps.setCell (S := fun k => k = w.heap.size + 1) _ _ _ rfl) (fun _ _ h => h)
        refine ⟨a, c, rfl, SlAt.of_owns (kk.owns hrow (fun k hk e => ?_)), (HD.out.nw.setCell (by simp) _).setCell (by simp) _⟩
        subst e
        obtain ⟨cur, hc⟩ := tab_tag hrow hk
        rw [HD.out.hr] at hc; simp at hc)
      clear HD HP hrow hbl
      go_wp2_with fail
      exact bodyPost_ret (v := .tuple #[.agg #[I g.acts.length, .slice a g.edges.length c], I 0]) (by simp [results, Try.results28, go_sem, r0, r1, f0, f1, hBB]) rfl (HFIN.out _ _)
end Go.Proofs.Ytijlgcbnoekmeaa
