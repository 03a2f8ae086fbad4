/-
  Layer 10: a graph's net, by the program.
-/
import Derived.Test.YtijlgcbnoekmeaaNetO
namespace Go.Proofs.Ytijlgcbnoekmeaa
open Go Go.RowKit Go.Joins
set_option linter.all false

theorem act_stored {w : World} {P : Nat} {a b c : Value} (h : w.heap[P]? = some (.cells #[a, b, c] 85 (0, 0))) (u v x : Value) :
    (((w.setCell ⟨P, 0, none⟩ u).setCell ⟨P, 1, none⟩ v).setCell ⟨P, 2, none⟩ x).heap[P]? = some (.cells #[u, v, x] 85 (0, 0)) ∧ Keeps (fun k => k = P) w (((w.setCell ⟨P, 0, none⟩ u).setCell ⟨P, 1, none⟩ v).setCell ⟨P, 2, none⟩ x) := by
  refine ⟨?_, ((Keeps.setCell (S := fun k => k = P) w _ _ rfl).trans (Keeps.setCell (S := fun k => k = P) _ _ _ rfl) (fun _ _ h => h)).trans (Keeps.setCell (S := fun k => k = P) _ _ _ rfl) (fun _ _ h => h)⟩
  have := block_setCell (i := 2) (block_setCell (i := 1) (block_setCell (i := 0) h u) v) x
  simpa using this
set_option maxRecDepth 100000 in
set_option maxHeartbeats 8000000 in
theorem cof_bad (w : World) (g : Gr) (hg : GrAt w g) (hl : GLen g) (h : (findG g).1 ≠ 0) :
    Calls Try.prog 29 #[g.v] w fun e w' => e = .returned (.tuple #[.agg #[I 0, .slice none 0 0], I (findG g).1]) ∧ New w w' := by
  have HC : ∀ W, New w W → Calls Try.prog 42 #[g.v] W fun en w' => en = .returned (I (findG g).1) ∧ New W w' := fun W k => ccheck_any W g (hg.new k) hl
  generalize (findG g).1 = f at h HC ⊢
  have d0 : (f != 0) = true := by simp [h]
  clear hg hl h
  simp only [Gr.v, Gr.cs] at HC ⊢
  go_enter Try.func29, Try.ntmps29
  go_wp2_with fail
  have na : New w (w.alloc (.cells #[.string g.name, .slice g.aa g.acts.length g.ac, .slice g.ea g.edges.length g.ec, .slice g.ia g.ins.length g.ic, .slice g.oa g.outs.length g.oc] 63)) := (New.refl w).alloc _
  have ha : (w.alloc (.cells #[.string g.name, .slice g.aa g.acts.length g.ac, .slice g.ea g.edges.length g.ec, .slice g.ia g.ins.length g.ic, .slice g.oa g.outs.length g.oc] 63)).heap[w.heap.size]? = some (.cells #[.string g.name, .slice g.aa g.acts.length g.ac, .slice g.ea g.edges.length g.ec, .slice g.ia g.ins.length g.ic, .slice g.oa g.outs.length g.oc] 63 (0, 0)) := heap_alloc_new w _
  have sa : (w.alloc (.cells #[.string g.name, .slice g.aa g.acts.length g.ac, .slice g.ea g.edges.length g.ec, .slice g.ia g.ins.length g.ic, .slice g.oa g.outs.length g.oc] 63)).heap.size = w.heap.size + 1 := size_alloc _ _
  generalize (w.alloc (.cells #[.string g.name, .slice g.aa g.acts.length g.ac, .slice g.ea g.edges.length g.ec, .slice g.ia g.ins.length g.ic, .slice g.oa g.outs.length g.oc] 63)) = wa at na ha sa ⊢
  have nb : New wa (wa.alloc (.cells #[I 0, .slice none 0 0] 24)) := (New.refl wa).alloc _
  have hb : (wa.alloc (.cells #[I 0, .slice none 0 0] 24)).heap[wa.heap.size]? = some (.cells #[I 0, .slice none 0 0] 24 (0, 0)) := heap_alloc_new wa _
  rw [sa] at hb
  generalize (wa.alloc (.cells #[I 0, .slice none 0 0] 24)) = wb at nb hb ⊢
  have HX := Lib.hid (Keeps.heap nb ha (fun h => h))
  have HB := Lib.hid hb
  have hN : New w wb := na.trans nb
  clear na nb ha hb sa
  refine (HC wb hN).mono ?_
  rintro e W1 ⟨rfl, k1⟩
  replace HX := Lib.hid (Keeps.heap k1 HX.out (fun h => h))
  replace HB := Lib.hid (Keeps.heap k1 HB.out (fun h => h))
  replace hN := hN.trans k1
  have hsz : w.heap.size + 1 < W1.heap.size := (Array.getElem?_eq_some_iff.1 HB.out).1
  clear k1
  obtain ⟨r0, r1, f0, f1, hBB⟩ := net_cells HB.out
  go_wp2_with fail
  exact bodyPost_ret (v := .tuple #[.agg #[I 0, .slice none 0 0], I f]) (by simp [results, Try.results29, go_sem, r0, r1, f0, f1, hBB]) rfl ⟨rfl, (hN.setCell (by simp) _).setCell (by simp) _⟩
set_option maxRecDepth 100000 in
set_option maxHeartbeats 32000000 in
theorem cof_good (w : World) (g : Gr) (hg : GrAt w g) (hl : GLen g) (h : (findG g).1 = 0) :
    Calls Try.prog 29 #[g.v] w fun e w' => ∃ a c, e = .returned (.tuple #[.agg #[I g.acts.length, .slice a g.edges.length c], I 0]) ∧ SlAt w' a (arcsCells (g.edges.map (ofArc g))) ∧ New w w' := by
  have HS := Lib.hid (gsound_of h)
  have HC : ∀ W, New w W → Calls Try.prog 42 #[g.v] W fun en w' => en = .returned (I 0) ∧ New W w' := fun W k => by
    have := ccheck_any W g (hg.new k) hl; rwa [h] at this
  obtain ⟨it, hit, hz0, hz1, hz2⟩ := info_parts Try.infoArc
  have HG := Lib.hid hg
  have hle := (gsound_of h).ne
  have hla := (gsound_of h).na
  clear hg hl h
  obtain ⟨post, hpost⟩ : ∃ post : Ending → World → Prop, (fun e w' => ∃ a c, e = .returned (.tuple #[.agg #[I g.acts.length, .slice a g.edges.length c], I 0]) ∧ SlAt w' a (arcsCells (g.edges.map (ofArc g))) ∧ New w w') = post := ⟨_, rfl⟩
  rw [hpost]
  have HP := Lib.hid hpost
  clear hpost
  obtain ⟨aA, hA⟩ : ∃ a, g.aa = a := ⟨_, rfl⟩
  obtain ⟨aE, hE⟩ : ∃ a, g.ea = a := ⟨_, rfl⟩
  have HA := Lib.hid hA
  have HE := Lib.hid hE
  clear hA hE
  simp only [Gr.v, Gr.cs] at HC ⊢
  go_enter Try.func29, Try.ntmps29
  go_wp2_with fail
  have na : New w (w.alloc (.cells #[.string g.name, .slice g.aa g.acts.length g.ac, .slice g.ea g.edges.length g.ec, .slice g.ia g.ins.length g.ic, .slice g.oa g.outs.length g.oc] 63)) := (New.refl w).alloc _
  have ha : (w.alloc (.cells #[.string g.name, .slice g.aa g.acts.length g.ac, .slice g.ea g.edges.length g.ec, .slice g.ia g.ins.length g.ic, .slice g.oa g.outs.length g.oc] 63)).heap[w.heap.size]? = some (.cells #[.string g.name, .slice g.aa g.acts.length g.ac, .slice g.ea g.edges.length g.ec, .slice g.ia g.ins.length g.ic, .slice g.oa g.outs.length g.oc] 63 (0, 0)) := heap_alloc_new w _
  have sa : (w.alloc (.cells #[.string g.name, .slice g.aa g.acts.length g.ac, .slice g.ea g.edges.length g.ec, .slice g.ia g.ins.length g.ic, .slice g.oa g.outs.length g.oc] 63)).heap.size = w.heap.size + 1 := size_alloc _ _
  generalize (w.alloc (.cells #[.string g.name, .slice g.aa g.acts.length g.ac, .slice g.ea g.edges.length g.ec, .slice g.ia g.ins.length g.ic, .slice g.oa g.outs.length g.oc] 63)) = wa at na ha sa ⊢
  have nb : New wa (wa.alloc (.cells #[I 0, .slice none 0 0] 24)) := (New.refl wa).alloc _
  have hb : (wa.alloc (.cells #[I 0, .slice none 0 0] 24)).heap[wa.heap.size]? = some (.cells #[I 0, .slice none 0 0] 24 (0, 0)) := heap_alloc_new wa _
  rw [sa] at hb
  generalize (wa.alloc (.cells #[I 0, .slice none 0 0] 24)) = wb at nb hb ⊢
  have HX := Lib.hid (Keeps.heap nb ha (fun h => h))
  have HB := Lib.hid hb
  have hN : New w wb := na.trans nb
  clear na nb ha hb sa
  refine (HC wb hN).mono ?_
  rintro e W1 ⟨rfl, k1⟩
  replace HX := Lib.hid (Keeps.heap k1 HX.out (fun h => h))
  replace HB := Lib.hid (Keeps.heap k1 HB.out (fun h => h))
  replace hN := hN.trans k1
  have hsz : w.heap.size + 1 < W1.heap.size := (Array.getElem?_eq_some_iff.1 HB.out).1
  clear k1
  obtain ⟨g0, g1, g2, g3, g4, hGl⟩ := gr_cells HX.out
  rw [HE.out] at g2
  go_wp2_with fail
  have ks : New W1 (W1.alloc (.cells #[I g.acts.length, .slice none 0 0] 24)) := (New.refl W1).alloc _
  have hp : (W1.alloc (.cells #[I g.acts.length, .slice none 0 0] 24)).heap[W1.heap.size]? = some (.cells #[I g.acts.length, .slice none 0 0] 24 (0, 0)) := heap_alloc_new W1 _
  generalize (W1.alloc (.cells #[I g.acts.length, .slice none 0 0] 24)) = W2 at ks hp ⊢
  generalize W1.heap.size = P at hp hsz ⊢
  have HD : Hid (NtAt w g P ((g.edges.take 0).map (ofArc g)) none 0 W2) := Lib.hid ⟨World.ownsRow_nil _ _ _ _, hp, Keeps.heap ks HX.out (fun h => h), Keeps.heap ks HB.out (fun h => h), hN.trans ks, hsz⟩
  clear ks hp HX HB hN HC g0 g1 g2 g3 g4 hGl
  go_loopw [29] (fun i wr => ∃ (k : Nat) (a : Option Addr) (c : Nat), k ≤ g.edges.length ∧ i = .int .i64 k ∧ Hid (NtAt w g P ((g.edges.take k).map (ofArc g)) a c wr)) (fun i _ => g.edges.length - (intOf i).toNat)
  case atStart => exact ⟨0, none, 0, by omega, rfl, HD⟩
  case round =>
    clear HD
    obtain ⟨k, a, c, hk, rfl, HD⟩ := hrel
    obtain ⟨g0, g1, g2, g3, g4, hGl⟩ := gr_cells HD.out.hg
    rw [HE.out] at g2
    by_cases hk1 : k < g.edges.length
    · have hkI : (k : Int) < (g.edges.length : Int) := by omega
      have hkd : decide (k < g.edges.length) = true := decide_eq_true hk1
      obtain ⟨b, off, hab, q0, q1, q2, q3, q4⟩ := gedges_at (HG.out.new HD.out.nw).se hk1
      have hbw : b < wr.heap.size := World.block_lt_of_cell? wr _ q0
      have e : aE = some ⟨b, off, none⟩ := HE.out.symm.trans hab
      subst e
      have HIT : Hid ((g.edges.take k).map (ofArc g) ++ [ofArc g g.edges[k]] = (g.edges.take (k + 1)).map (ofArc g)) := Lib.hid (by rw [List.take_succ_eq_append_getElem hk1, List.map_append]; rfl)
      have hll : ((g.edges.take k).map (ofArc g)).length = k := by simp; omega
      obtain ⟨xf, hxf, ef, hp0, hp1, -⟩ := endE_zero (HS.out.edge k hk1).1
      obtain ⟨xt, hxt, et, ht0, ht1, -⟩ := endE_zero (HS.out.edge k hk1).2.1
      have hef := (HS.out.act xf hxf).2
      have het := (HS.out.act xt hxt).2
      have hlf := (shape_good hef).2.2
      have hlt := (shape_good het).2.2
      have hOA : Hid (ofArc g g.edges[k] = ⟨g.edges[k].f, g.edges[k].t, (shapeS g.acts[xf].tag g.acts[xf].xs).2.2.getD g.edges[k].fp.toNat 0, (shapeS g.acts[xt].tag g.acts[xt].xs).2.1.getD g.edges[k].tp.toNat 0, g.edges[k].xs.length⟩) := Lib.hid (by unfold ofArc; rw [ef, et, actAt_is g hxf, actAt_is g hxt])
      have hxl := (HS.out.edge k hk1).2.2
      have hp2 : g.edges[k].fp < ((shapeS g.acts[xf].tag g.acts[xf].xs).2.2.length : Int) := hp1
      have ht2 : g.edges[k].tp < ((shapeS g.acts[xt].tag g.acts[xt].xs).2.1.length : Int) := ht1
      have hO1 : ∀ W, New wr W → Calls Try.prog 43 #[.int .u8 g.acts[xf].tag, .slice g.acts[xf].a g.acts[xf].xs.length g.acts[xf].c] W fun e w' => ∃ a1 n1 c1 a2 c2, e = .returned (.tuple #[.slice a1 n1 c1, .slice a2 (shapeS g.acts[xf].tag g.acts[xf].xs).2.2.length c2, I 0]) ∧ SlAt w' a2 (Is (shapeS g.acts[xf].tag g.acts[xf].xs).2.2) ∧ New W w' := fun W n => (shOf_any _ _ _ _ W (((HG.out.new HD.out.nw).ax _ (List.getElem_mem hxf)).new n) (by omega)).mono (fun e w' h => by obtain ⟨a1, c1, a2, c2, h1, h2, h3, -, h4⟩ := h; rw [hef] at h1; exact ⟨a1, _, c1, a2, c2, h1, h3.sl, h4⟩)
      have hO2 : ∀ W, New wr W → Calls Try.prog 43 #[.int .u8 g.acts[xt].tag, .slice g.acts[xt].a g.acts[xt].xs.length g.acts[xt].c] W fun e w' => ∃ a1 c1 a2 n2 c2, e = .returned (.tuple #[.slice a1 (shapeS g.acts[xt].tag g.acts[xt].xs).2.1.length c1, .slice a2 n2 c2, I 0]) ∧ SlAt w' a1 (Is (shapeS g.acts[xt].tag g.acts[xt].xs).2.1) ∧ New W w' := fun W n => (shOf_any _ _ _ _ W (((HG.out.new HD.out.nw).ax _ (List.getElem_mem hxt)).new n) (by omega)).mono (fun e w' h => by obtain ⟨a1, c1, a2, c2, h1, h2, h3, -, h4⟩ := h; rw [het] at h1; exact ⟨a1, c1, a2, _, c2, h1, h2.sl, h4⟩)
      obtain ⟨ba, oa, ea, n0, n1, n2⟩ := acts_at (HG.out.new HD.out.nw).sa hxf
      obtain ⟨bb, ob, eb, m0, m1, m2⟩ := acts_at (HG.out.new HD.out.nw).sa hxt
      have eab := ea.symm.trans eb
      simp only [Option.some.injEq, Addr.mk.injEq, and_true] at eab
      obtain ⟨rfl, rfl⟩ := eab
      have eaa : aA = some ⟨ba, oa, none⟩ := HA.out.symm.trans ea
      subst eaa
      rw [HA.out] at g1
      clear hab ea eb hp1 ht1
      generalize (g.edges.take k).map (ofArc g) = L at HD HIT hll
      have HLL := Lib.hid hll
      clear hll
      generalize ofArc g g.edges[k] = A9 at HIT hOA
      generalize g.edges[k] = x at q0 q1 q2 q3 q4 ef et hp0 hp2 ht0 ht2 hOA hxl
      generalize (shapeS g.acts[xf].tag g.acts[xf].xs).2.2 = so at hO1 hOA hp2
      generalize (shapeS g.acts[xt].tag g.acts[xt].xs).2.1 = si at hO2 hOA ht2
      have hxfI : (xf : Int) < (g.acts.length : Int) := by omega
      have hxtI : (xt : Int) < (g.acts.length : Int) := by omega
      clear hef het
      generalize g.acts[xf] = A1 at n0 n1 n2 hO1 hlf
      generalize g.acts[xt] = A2 at m0 m1 m2 hO2 hlt
      obtain ⟨f1, fp, t1, tp, xa, xc, xs⟩ := x
      simp only at q0 q1 q2 q3 q4 ef et hp0 hp2 ht0 ht2 hOA hxl
      subst ef et
      obtain ⟨p, rfl⟩ : ∃ p : Nat, fp = p := ⟨fp.toNat, by omega⟩
      obtain ⟨r, rfl⟩ : ∃ r : Nat, tp = r := ⟨tp.toNat, by omega⟩
      rw [Int.toNat_natCast, Int.toNat_natCast] at hOA
      go_wp2_with fail
      have kb : New wr (wr.alloc (.cells #[I xf, I p, I xt, I r, .slice xa xs.length xc] 80)) := (New.refl wr).alloc _
      have hby : (wr.alloc (.cells #[I xf, I p, I xt, I r, .slice xa xs.length xc] 80)).heap[wr.heap.size]? = some (.cells #[I xf, I p, I xt, I r, .slice xa xs.length xc] 80 (0, 0)) := heap_alloc_new wr _
      generalize (wr.alloc (.cells #[I xf, I p, I xt, I r, .slice xa xs.length xc] 80)) = w1 at kb hby ⊢
      generalize wr.heap.size = Y at hby ⊢
      replace HD := Lib.hid (HD.out.new kb)
      have HY := Lib.hid hby
      replace g1 := kb.cell g1
      replace n0 := kb.cell n0
      replace m0 := kb.cell m0
      replace n1 := kb.cell n1
      replace n2 := kb.cell n2
      replace m1 := kb.cell m1
      replace m2 := kb.cell m2
      have hO1' := fun W (n : New w1 W) => hO1 W (kb.trans n)
      have hO2' := fun W (n : New w1 W) => hO2 W (kb.trans n)
      clear hby kb hbw q0 q1 q2 q3 q4 g0 g2 g3 g4 hGl hO1 hO2
      obtain ⟨y0, y1, y2, y3, y4, hYl⟩ := edge_cells HY.out
      go_cut [8, 9] (fun p q w' => ∃ (B8 B9 : Nat), p = .pointer (some ⟨B8, 0, none⟩) ∧ q = .pointer (some ⟨B9, 0, none⟩) ∧ Hid (w'.heap[B8]? = some (.cells #[.string A1.name, .int .u8 A1.tag, .slice A1.a A1.xs.length A1.c] 85 (0, 0)) ∧ w'.heap[B9]? = some (.cells #[.string A2.name, .int .u8 A2.tag, .slice A2.a A2.xs.length A2.c] 85 (0, 0)) ∧ New w1 w'))
      case first =>
        have hdr : New w1 w1.drew := (New.refl w1).drew
        have HSn : ∀ V, New w1 V → (fun w' : World => w'.cell? ⟨w.heap.size, 1, none⟩ = some (.slice (some ⟨ba, oa, none⟩) g.acts.length g.ac) ∧ w'.cell? ⟨Y, 0, none⟩ = some (I xf) ∧ w'.cell? ⟨Y, 2, none⟩ = some (I xt) ∧ w'.cell? ⟨ba, oa + xf * 3, none⟩ = some (.string A1.name) ∧ w'.cell? ⟨ba, oa + xf * 3 + 1, none⟩ = some (.int .u8 A1.tag) ∧ w'.cell? ⟨ba, oa + xf * 3 + 2, none⟩ = some (.slice A1.a A1.xs.length A1.c) ∧ w'.cell? ⟨ba, oa + xt * 3, none⟩ = some (.string A2.name) ∧ w'.cell? ⟨ba, oa + xt * 3 + 1, none⟩ = some (.int .u8 A2.tag) ∧ w'.cell? ⟨ba, oa + xt * 3 + 2, none⟩ = some (.slice A2.a A2.xs.length A2.c) ∧ New w1 w') V := fun V kv => ⟨kv.cell g1, kv.cell y0, kv.cell y2, kv.cell n0, kv.cell n1, kv.cell n2, kv.cell m0, kv.cell m1, kv.cell m2, kv⟩
        have hS0 := HSn _ hdr
        refine wp_region_X (fun w' : World => w'.cell? ⟨w.heap.size, 1, none⟩ = some (.slice (some ⟨ba, oa, none⟩) g.acts.length g.ac) ∧ w'.cell? ⟨Y, 0, none⟩ = some (I xf) ∧ w'.cell? ⟨Y, 2, none⟩ = some (I xt) ∧ w'.cell? ⟨ba, oa + xf * 3, none⟩ = some (.string A1.name) ∧ w'.cell? ⟨ba, oa + xf * 3 + 1, none⟩ = some (.int .u8 A1.tag) ∧ w'.cell? ⟨ba, oa + xf * 3 + 2, none⟩ = some (.slice A1.a A1.xs.length A1.c) ∧ w'.cell? ⟨ba, oa + xt * 3, none⟩ = some (.string A2.name) ∧ w'.cell? ⟨ba, oa + xt * 3 + 1, none⟩ = some (.int .u8 A2.tag) ∧ w'.cell? ⟨ba, oa + xt * 3 + 2, none⟩ = some (.slice A2.a A2.xs.length A2.c) ∧ New w1 w') [15] (by kernel_rfl) hS0 ?_
        generalize w1.drew = wd at hdr hS0 ⊢
        refine anyX_take 0 (by kernel_rfl) (by kernel_rfl) (by kernel_rfl) (by kernel_rfl) (by kernel_rfl) hS0 ?_
        intro oi ho; simp only [List.getElem?_toArray, List.getElem?_cons_succ, List.getElem?_cons_zero, Option.some.injEq] at ho; subst ho
        refine ⟨?_, fun _ _ _ h => h, Or.inl ⟨by rfl, ?_⟩, ?_⟩; rotate_left 1
        · (intro wS hSw; (try dsimp only at hSw); go_simp; try with_reducible rfl)
        simp only [Act.put, List.setIfInBounds_toArray, List.set_cons_zero, List.set_cons_succ]
        refine anyX_take 1 (by kernel_rfl) (by kernel_rfl) (by kernel_rfl) (by kernel_rfl) (by kernel_rfl) hS0 ?_
        intro oi ho; simp only [List.getElem?_toArray, List.getElem?_cons_succ, List.getElem?_cons_zero, Option.some.injEq] at ho; subst ho
        refine ⟨?_, fun _ _ _ h => h, Or.inl ⟨by rfl, ?_⟩, ?_⟩; rotate_left 1
        · (intro wS hSw; (try dsimp only at hSw); go_simp; try with_reducible rfl)
        simp only [Act.put, List.setIfInBounds_toArray, List.set_cons_zero, List.set_cons_succ]
        refine anyX_take 2 (by kernel_rfl) (by kernel_rfl) (by kernel_rfl) (by kernel_rfl) (by kernel_rfl) hS0 ?_
        intro oi ho; simp only [List.getElem?_toArray, List.getElem?_cons_succ, List.getElem?_cons_zero, Option.some.injEq] at ho; subst ho
        refine ⟨?_, fun _ _ _ h => h, Or.inl ⟨by rfl, ?_⟩, ?_⟩; rotate_left 1
        · (intro wS hSw; (try dsimp only at hSw); go_simp; try with_reducible rfl)
        simp only [Act.put, List.setIfInBounds_toArray, List.set_cons_zero, List.set_cons_succ]
        refine anyX_take 3 (by kernel_rfl) (by kernel_rfl) (by kernel_rfl) (by kernel_rfl) (by kernel_rfl) hS0 ?_
        intro oi ho; simp only [List.getElem?_toArray, List.getElem?_cons_succ, List.getElem?_cons_zero, Option.some.injEq] at ho; subst ho
        refine ⟨?_, fun _ _ _ h => h, Or.inl ⟨by rfl, ?_⟩, ?_⟩; rotate_left 1
        · (intro wS hSw; (try dsimp only at hSw); go_simp; try with_reducible rfl)
        simp only [Act.put, List.setIfInBounds_toArray, List.set_cons_zero, List.set_cons_succ]
        refine anyX_take 4 (by kernel_rfl) (by kernel_rfl) (by kernel_rfl) (by kernel_rfl) (by kernel_rfl) hS0 ?_
        intro oi ho; simp only [List.getElem?_toArray, List.getElem?_cons_succ, List.getElem?_cons_zero, Option.some.injEq] at ho; subst ho
        refine ⟨?_, fun _ _ _ h => h, Or.inl ⟨by rfl, ?_⟩, ?_⟩; rotate_left 1
        · (intro wS hSw; (try dsimp only at hSw); go_simp; try with_reducible rfl)
        simp only [Act.put, List.setIfInBounds_toArray, List.set_cons_zero, List.set_cons_succ]
        refine anyX_take 5 (by kernel_rfl) (by kernel_rfl) (by kernel_rfl) (by kernel_rfl) (by kernel_rfl) hS0 ?_
        intro oi ho; simp only [List.getElem?_toArray, List.getElem?_cons_succ, List.getElem?_cons_zero, Option.some.injEq] at ho; subst ho
        refine ⟨?_, fun _ _ _ h => h, Or.inl ⟨by rfl, ?_⟩, ?_⟩; rotate_left 1
        · (intro wS hSw; (try dsimp only at hSw); go_simp; try with_reducible rfl)
        simp only [Act.put, List.setIfInBounds_toArray, List.set_cons_zero, List.set_cons_succ]
        refine anyX_take 6 (by kernel_rfl) (by kernel_rfl) (by kernel_rfl) (by kernel_rfl) (by kernel_rfl) hS0 ?_
        intro oi ho; simp only [List.getElem?_toArray, List.getElem?_cons_succ, List.getElem?_cons_zero, Option.some.injEq] at ho; subst ho
        refine ⟨?_, fun _ _ _ h => h, Or.inl ⟨by rfl, ?_⟩, ?_⟩; rotate_left 1
        · (intro wS hSw; (try dsimp only at hSw); go_simp; try with_reducible rfl)
        simp only [Act.put, List.setIfInBounds_toArray, List.set_cons_zero, List.set_cons_succ]
        refine anyX_take 7 (by kernel_rfl) (by kernel_rfl) (by kernel_rfl) (by kernel_rfl) (by kernel_rfl) hS0 ?_
        intro oi ho; simp only [List.getElem?_toArray, List.getElem?_cons_succ, List.getElem?_cons_zero, Option.some.injEq] at ho; subst ho
        refine ⟨?_, fun _ _ _ h => h, Or.inl ⟨by rfl, ?_⟩, ?_⟩; rotate_left 1
        · (intro wS hSw; (try dsimp only at hSw); go_simp; try with_reducible rfl)
        simp only [Act.put, List.setIfInBounds_toArray, List.set_cons_zero, List.set_cons_succ]
        refine anyX_take 8 (by kernel_rfl) (by kernel_rfl) (by kernel_rfl) (by kernel_rfl) (by kernel_rfl) hS0 ?_
        intro oi ho; simp only [List.getElem?_toArray, List.getElem?_cons_succ, List.getElem?_cons_zero, Option.some.injEq] at ho; subst ho
        refine ⟨?_, fun _ _ _ h => h, Or.inl ⟨by rfl, ?_⟩, ?_⟩; rotate_left 1
        · (intro wS hSw; (try dsimp only at hSw); go_simp; try with_reducible rfl)
        simp only [Act.put, List.setIfInBounds_toArray, List.set_cons_zero, List.set_cons_succ]
        refine anyX_take 9 (by kernel_rfl) (by kernel_rfl) (by kernel_rfl) (by kernel_rfl) (by kernel_rfl) hS0 ?_
        intro oi ho; simp only [List.getElem?_toArray, List.getElem?_cons_succ, List.getElem?_cons_zero, Option.some.injEq] at ho; subst ho
        refine ⟨?_, fun _ _ _ h => h, Or.inl ⟨by rfl, ?_⟩, ?_⟩; rotate_left 1
        · (intro wS hSw; (try dsimp only at hSw); go_simp; try with_reducible rfl)
        simp only [Act.put, List.setIfInBounds_toArray, List.set_cons_zero, List.set_cons_succ]
        refine anyX_take 10 (by kernel_rfl) (by kernel_rfl) (by kernel_rfl) (by kernel_rfl) (by kernel_rfl) hS0 ?_
        intro oi ho; simp only [List.getElem?_toArray, List.getElem?_cons_succ, List.getElem?_cons_zero, Option.some.injEq] at ho; subst ho
        refine ⟨?_, fun _ _ _ h => h, Or.inl ⟨by rfl, ?_⟩, ?_⟩; rotate_left 1
        · (intro wS hSw; (try dsimp only at hSw); go_simp; try with_reducible rfl)
        simp only [Act.put, List.setIfInBounds_toArray, List.set_cons_zero, List.set_cons_succ]
        refine anyX_take 11 (by kernel_rfl) (by kernel_rfl) (by kernel_rfl) (by kernel_rfl) (by kernel_rfl) hS0 ?_
        intro oi ho; simp only [List.getElem?_toArray, List.getElem?_cons_succ, List.getElem?_cons_zero, Option.some.injEq] at ho; subst ho
        refine ⟨?_, fun _ _ _ h => h, Or.inl ⟨by rfl, ?_⟩, ?_⟩; rotate_left 1
        · (intro wS hSw; (try dsimp only at hSw); go_simp; try with_reducible rfl)
        simp only [Act.put, List.setIfInBounds_toArray, List.set_cons_zero, List.set_cons_succ]
        refine anyX_two 12 13 (by kernel_rfl) ?_ ?_
        · intro oi ho; simp only [List.getElem?_toArray, List.getElem?_cons_succ, List.getElem?_cons_zero, Option.some.injEq] at ho; subst ho; intro K hK
          (try simp only [Act.put, List.setIfInBounds_toArray, List.set_cons_zero, List.set_cons_succ])
          go_simp
          have k1 : New wd (wd.alloc (.cells #[.string ⟨#[]⟩, .int .u8 0, .slice none 0 0] 85)) := (New.refl wd).alloc _
          have h1 : (wd.alloc (.cells #[.string ⟨#[]⟩, .int .u8 0, .slice none 0 0] 85)).heap[wd.heap.size]? = some (.cells #[.string ⟨#[]⟩, .int .u8 0, .slice none 0 0] 85 (0, 0)) := heap_alloc_new wd _
          have l1 : w1.heap.size ≤ wd.heap.size := hdr.size
          have r1 := hdr.trans k1
          refine hK _ _ (fun _ => HSn _ r1) ?_
          clear hK K
          generalize (wd.alloc (.cells #[.string ⟨#[]⟩, .int .u8 0, .slice none 0 0] 85)) = VA at k1 h1 r1 ⊢
          generalize wd.heap.size = B8 at h1 l1 ⊢
          refine anyX_one 13 (by kernel_rfl) ?_
          intro oi ho; simp only [List.getElem?_toArray, List.getElem?_cons_succ, List.getElem?_cons_zero, Option.some.injEq] at ho; subst ho; intro K hK
          (try simp only [Act.put, List.setIfInBounds_toArray, List.set_cons_zero, List.set_cons_succ])
          go_simp
          have k2 : New VA (VA.alloc (.cells #[.string ⟨#[]⟩, .int .u8 0, .slice none 0 0] 85)) := (New.refl VA).alloc _
          have h2 : (VA.alloc (.cells #[.string ⟨#[]⟩, .int .u8 0, .slice none 0 0] 85)).heap[VA.heap.size]? = some (.cells #[.string ⟨#[]⟩, .int .u8 0, .slice none 0 0] 85 (0, 0)) := heap_alloc_new VA _
          have l2 : B8 < VA.heap.size := (Array.getElem?_eq_some_iff.1 h1).1
          have r2 := r1.trans k2
          replace h1 := Keeps.heap k2 h1 (fun h => h)
          refine hK _ _ (fun _ => HSn _ r2) ?_
          clear hK K
          generalize (VA.alloc (.cells #[.string ⟨#[]⟩, .int .u8 0, .slice none 0 0] 85)) = VB at k2 h1 h2 r2 ⊢
          generalize VA.heap.size = B9 at h2 l2 ⊢
          obtain ⟨z0, z1, z2, hZl⟩ := act_cells h1
          have fz0 := unfrozen_of_block h1 0
          have fz1 := unfrozen_of_block h1 1
          have fz2 := unfrozen_of_block h1 2
          obtain ⟨s8, k8⟩ := act_stored h1 (.string A1.name) (.int .u8 A1.tag) (.slice A1.a A1.xs.length A1.c)
          refine anyX_one 14 (by kernel_rfl) ?_
          intro oi ho; simp only [List.getElem?_toArray, List.getElem?_cons_succ, List.getElem?_cons_zero, Option.some.injEq] at ho; subst ho; intro K hK
          (try simp only [Act.put, List.setIfInBounds_toArray, List.set_cons_zero, List.set_cons_succ])
          go_simp
          have r3 : New w1 (((VB.setCell ⟨B8, 0, none⟩ (.string A1.name)).setCell ⟨B8, 1, none⟩ (.int .u8 A1.tag)).setCell ⟨B8, 2, none⟩ (.slice A1.a A1.xs.length A1.c)) := New.keeps r2 k8 (fun i hi e => by omega)
          refine hK _ _ (fun _ => HSn _ r3) ?_
          clear hK K z0 z1 z2 hZl fz0 fz1 fz2
          replace h2 := k8.heap h2 (by omega)
          generalize (((VB.setCell ⟨B8, 0, none⟩ (.string A1.name)).setCell ⟨B8, 1, none⟩ (.int .u8 A1.tag)).setCell ⟨B8, 2, none⟩ (.slice A1.a A1.xs.length A1.c)) = VC at s8 k8 h2 r3 ⊢
          obtain ⟨z0, z1, z2, hZl⟩ := act_cells h2
          have fz0 := unfrozen_of_block h2 0
          have fz1 := unfrozen_of_block h2 1
          have fz2 := unfrozen_of_block h2 2
          obtain ⟨s9, k9⟩ := act_stored h2 (.string A2.name) (.int .u8 A2.tag) (.slice A2.a A2.xs.length A2.c)
          refine anyX_one 15 (by kernel_rfl) ?_
          intro oi ho; simp only [List.getElem?_toArray, List.getElem?_cons_succ, List.getElem?_cons_zero, Option.some.injEq] at ho; subst ho; intro K hK
          (try simp only [Act.put, List.setIfInBounds_toArray, List.set_cons_zero, List.set_cons_succ])
          go_simp
          refine hK _ _ (fun hx => by cases hx) ?_
          clear hK K
          refine anyX_done (by kernel_rfl) ?_
          (try simp only [Act.put, List.setIfInBounds_toArray, List.set_cons_zero, List.set_cons_succ])
          (try simp only [Exit.then])
          go_wp2
          go_meet
          case rel => exact ⟨B8, B9, rfl, rfl, Lib.hid ⟨k9.heap s8 (by omega), s9, New.keeps r3 k9 (fun i hi e => by omega)⟩⟩
        · intro oi ho; simp only [List.getElem?_toArray, List.getElem?_cons_succ, List.getElem?_cons_zero, Option.some.injEq] at ho; subst ho; intro K hK
          (try simp only [Act.put, List.setIfInBounds_toArray, List.set_cons_zero, List.set_cons_succ])
          go_simp
          have k1 : New wd (wd.alloc (.cells #[.string ⟨#[]⟩, .int .u8 0, .slice none 0 0] 85)) := (New.refl wd).alloc _
          have h1 : (wd.alloc (.cells #[.string ⟨#[]⟩, .int .u8 0, .slice none 0 0] 85)).heap[wd.heap.size]? = some (.cells #[.string ⟨#[]⟩, .int .u8 0, .slice none 0 0] 85 (0, 0)) := heap_alloc_new wd _
          have l1 : w1.heap.size ≤ wd.heap.size := hdr.size
          have r1 := hdr.trans k1
          refine hK _ _ (fun _ => HSn _ r1) ?_
          clear hK K
          generalize (wd.alloc (.cells #[.string ⟨#[]⟩, .int .u8 0, .slice none 0 0] 85)) = VA at k1 h1 r1 ⊢
          generalize wd.heap.size = B9 at h1 l1 ⊢
          refine anyX_one 12 (by kernel_rfl) ?_
          intro oi ho; simp only [List.getElem?_toArray, List.getElem?_cons_succ, List.getElem?_cons_zero, Option.some.injEq] at ho; subst ho; intro K hK
          (try simp only [Act.put, List.setIfInBounds_toArray, List.set_cons_zero, List.set_cons_succ])
          go_simp
          have k2 : New VA (VA.alloc (.cells #[.string ⟨#[]⟩, .int .u8 0, .slice none 0 0] 85)) := (New.refl VA).alloc _
          have h2 : (VA.alloc (.cells #[.string ⟨#[]⟩, .int .u8 0, .slice none 0 0] 85)).heap[VA.heap.size]? = some (.cells #[.string ⟨#[]⟩, .int .u8 0, .slice none 0 0] 85 (0, 0)) := heap_alloc_new VA _
          have l2 : B9 < VA.heap.size := (Array.getElem?_eq_some_iff.1 h1).1
          have r2 := r1.trans k2
          replace h1 := Keeps.heap k2 h1 (fun h => h)
          refine hK _ _ (fun _ => HSn _ r2) ?_
          clear hK K
          generalize (VA.alloc (.cells #[.string ⟨#[]⟩, .int .u8 0, .slice none 0 0] 85)) = VB at k2 h1 h2 r2 ⊢
          generalize VA.heap.size = B8 at h2 l2 ⊢
          obtain ⟨z0, z1, z2, hZl⟩ := act_cells h2
          have fz0 := unfrozen_of_block h2 0
          have fz1 := unfrozen_of_block h2 1
          have fz2 := unfrozen_of_block h2 2
          obtain ⟨s8, k8⟩ := act_stored h2 (.string A1.name) (.int .u8 A1.tag) (.slice A1.a A1.xs.length A1.c)
          refine anyX_one 14 (by kernel_rfl) ?_
          intro oi ho; simp only [List.getElem?_toArray, List.getElem?_cons_succ, List.getElem?_cons_zero, Option.some.injEq] at ho; subst ho; intro K hK
          (try simp only [Act.put, List.setIfInBounds_toArray, List.set_cons_zero, List.set_cons_succ])
          go_simp
          have r3 : New w1 (((VB.setCell ⟨B8, 0, none⟩ (.string A1.name)).setCell ⟨B8, 1, none⟩ (.int .u8 A1.tag)).setCell ⟨B8, 2, none⟩ (.slice A1.a A1.xs.length A1.c)) := New.keeps r2 k8 (fun i hi e => by omega)
          refine hK _ _ (fun _ => HSn _ r3) ?_
          clear hK K z0 z1 z2 hZl fz0 fz1 fz2
          replace h1 := k8.heap h1 (by omega)
          generalize (((VB.setCell ⟨B8, 0, none⟩ (.string A1.name)).setCell ⟨B8, 1, none⟩ (.int .u8 A1.tag)).setCell ⟨B8, 2, none⟩ (.slice A1.a A1.xs.length A1.c)) = VC at s8 k8 h1 r3 ⊢
          obtain ⟨z0, z1, z2, hZl⟩ := act_cells h1
          have fz0 := unfrozen_of_block h1 0
          have fz1 := unfrozen_of_block h1 1
          have fz2 := unfrozen_of_block h1 2
          obtain ⟨s9, k9⟩ := act_stored h1 (.string A2.name) (.int .u8 A2.tag) (.slice A2.a A2.xs.length A2.c)
          refine anyX_one 15 (by kernel_rfl) ?_
          intro oi ho; simp only [List.getElem?_toArray, List.getElem?_cons_succ, List.getElem?_cons_zero, Option.some.injEq] at ho; subst ho; intro K hK
          (try simp only [Act.put, List.setIfInBounds_toArray, List.set_cons_zero, List.set_cons_succ])
          go_simp
          refine hK _ _ (fun hx => by cases hx) ?_
          clear hK K
          refine anyX_done (by kernel_rfl) ?_
          (try simp only [Act.put, List.setIfInBounds_toArray, List.set_cons_zero, List.set_cons_succ])
          (try simp only [Exit.then])
          go_wp2
          go_meet
          case rel => exact ⟨B8, B9, rfl, rfl, Lib.hid ⟨k9.heap s8 (by omega), s9, New.keeps r3 k9 (fun i hi e => by omega)⟩⟩
      obtain ⟨B8, B9, rfl, rfl, HBB⟩ := hcut
      clear g1 y0 y1 y2 y3 y4 hYl n0 n1 n2 m0 m1 m2
      obtain ⟨-, z1, z2, hZl⟩ := act_cells HBB.out.1
      go_wp2_with fail
      refine (hO1' wc HBB.out.2.2).mono ?_
      rintro e w4 ⟨a1, l1, c1, a2, c2, rfl, s2, n4⟩
      clear z1 z2 hZl
      obtain ⟨-, z1, z2, hZl⟩ := act_cells (Keeps.heap n4 HBB.out.2.1 (fun h => h))
      have r4 := HBB.out.2.2.trans n4
      go_wp2_with fail
      refine (hO2' w4 r4).mono ?_
      rintro e w5 ⟨b1, d1, b2, l2, d2, rfl, s3, r5⟩
      clear z1 z2 hZl hO1' hO2' HBB n4
      have r6 := r4.trans r5
      replace HD := Lib.hid (HD.out.new r6)
      replace HY := Lib.hid (Keeps.heap r6 HY.out (fun h => h))
      obtain ⟨bo, oo, eo, co⟩ := Is_at (s2.new r5) (i := p) (by omega)
      obtain ⟨bi, oq, ei, ci⟩ := Is_at s3 (i := r) (by omega)
      subst eo ei
      have hA9 : A9 = ⟨xf, xt, so[p]'(by omega), si[r]'(by omega), xs.length⟩ := by rw [hOA.out]; simp [List.getD_eq_getElem?_getD, show p < so.length by omega, show r < si.length by omega]
      generalize so[p]'(by omega) = v1 at co hA9
      generalize si[r]'(by omega) = v2 at ci hA9
      subst hA9
      have hpI : (p : Int) < (so.length : Int) := by omega
      have hrI : (r : Int) < (si.length : Int) := by omega
      clear s2 s3 r4 r5 r6 hOA
      obtain ⟨y0, y1, y2, y3, y4, hYl⟩ := edge_cells HY.out
      obtain ⟨-, p1, -, -, hPl⟩ := net_cells HD.out.bl
      go_wp2_with fail
      have hdr : New w5 w5.drew := (New.refl w5).drew
      have HSn : ∀ V, New w5 V → (fun w' : World => w'.cell? ⟨P, 1, none⟩ = some (.slice a L.length c) ∧ P < w'.heap.size ∧ w'.cell? ⟨Y, 0, none⟩ = some (I xf) ∧ w'.cell? ⟨Y, 1, none⟩ = some (I p) ∧ w'.cell? ⟨Y, 2, none⟩ = some (I xt) ∧ w'.cell? ⟨Y, 3, none⟩ = some (I r) ∧ w'.cell? ⟨Y, 4, none⟩ = some (.slice xa xs.length xc) ∧ w'.cell? ⟨bo, oo + p, none⟩ = some (I v1) ∧ w'.cell? ⟨bi, oq + r, none⟩ = some (I v2)) V := fun V kv => ⟨kv.cell p1, Nat.lt_of_lt_of_le hPl kv.size, kv.cell y0, kv.cell y1, kv.cell y2, kv.cell y3, kv.cell y4, kv.cell co, kv.cell ci⟩
      have hS0 := HSn _ hdr
      clear p1 hPl y0 y1 y2 y3 y4 hYl co ci
      refine wp_region_X (fun w' : World => w'.cell? ⟨P, 1, none⟩ = some (.slice a L.length c) ∧ P < w'.heap.size ∧ w'.cell? ⟨Y, 0, none⟩ = some (I xf) ∧ w'.cell? ⟨Y, 1, none⟩ = some (I p) ∧ w'.cell? ⟨Y, 2, none⟩ = some (I xt) ∧ w'.cell? ⟨Y, 3, none⟩ = some (I r) ∧ w'.cell? ⟨Y, 4, none⟩ = some (.slice xa xs.length xc) ∧ w'.cell? ⟨bo, oo + p, none⟩ = some (I v1) ∧ w'.cell? ⟨bi, oq + r, none⟩ = some (I v2)) [21, 22, 23] (by kernel_rfl) hS0 ?_
      generalize w5.drew = wd at hdr hS0 ⊢
      refine anyX_take 0 (by kernel_rfl) (by kernel_rfl) (by kernel_rfl) (by kernel_rfl) (by kernel_rfl) hS0 ?_
      intro oi ho; simp only [List.getElem?_toArray, List.getElem?_cons_succ, List.getElem?_cons_zero, Option.some.injEq] at ho; subst ho
      refine ⟨?_, fun _ _ _ h => h, Or.inl ⟨by rfl, ?_⟩, ?_⟩; rotate_left 1
      · (intro wS hSw; (try dsimp only at hSw); go_simp; try with_reducible rfl)
      simp only [Act.put, List.setIfInBounds_toArray, List.set_cons_zero, List.set_cons_succ]
      refine anyX_take 1 (by kernel_rfl) (by kernel_rfl) (by kernel_rfl) (by kernel_rfl) (by kernel_rfl) hS0 ?_
      intro oi ho; simp only [List.getElem?_toArray, List.getElem?_cons_succ, List.getElem?_cons_zero, Option.some.injEq] at ho; subst ho
      refine ⟨?_, fun _ _ _ h => h, Or.inl ⟨by rfl, ?_⟩, ?_⟩; rotate_left 1
      · (intro wS hSw; (try dsimp only at hSw); go_simp; try with_reducible rfl)
      simp only [Act.put, List.setIfInBounds_toArray, List.set_cons_zero, List.set_cons_succ]
      refine anyX_take 2 (by kernel_rfl) (by kernel_rfl) (by kernel_rfl) (by kernel_rfl) (by kernel_rfl) hS0 ?_
      intro oi ho; simp only [List.getElem?_toArray, List.getElem?_cons_succ, List.getElem?_cons_zero, Option.some.injEq] at ho; subst ho
      refine ⟨?_, fun _ _ _ h => h, Or.inl ⟨by rfl, ?_⟩, ?_⟩; rotate_left 1
      · (intro wS hSw; (try dsimp only at hSw); go_simp; try with_reducible rfl)
      simp only [Act.put, List.setIfInBounds_toArray, List.set_cons_zero, List.set_cons_succ]
      refine anyX_take 3 (by kernel_rfl) (by kernel_rfl) (by kernel_rfl) (by kernel_rfl) (by kernel_rfl) hS0 ?_
      intro oi ho; simp only [List.getElem?_toArray, List.getElem?_cons_succ, List.getElem?_cons_zero, Option.some.injEq] at ho; subst ho
      refine ⟨?_, fun _ _ _ h => h, Or.inl ⟨by rfl, ?_⟩, ?_⟩; rotate_left 1
      · (intro wS hSw; (try dsimp only at hSw); go_simp; try with_reducible rfl)
      simp only [Act.put, List.setIfInBounds_toArray, List.set_cons_zero, List.set_cons_succ]
      refine anyX_take 4 (by kernel_rfl) (by kernel_rfl) (by kernel_rfl) (by kernel_rfl) (by kernel_rfl) hS0 ?_
      intro oi ho; simp only [List.getElem?_toArray, List.getElem?_cons_succ, List.getElem?_cons_zero, Option.some.injEq] at ho; subst ho
      refine ⟨?_, fun _ _ _ h => h, Or.inl ⟨by rfl, ?_⟩, ?_⟩; rotate_left 1
      · (intro wS hSw; (try dsimp only at hSw); go_simp; try with_reducible rfl)
      simp only [Act.put, List.setIfInBounds_toArray, List.set_cons_zero, List.set_cons_succ]
      refine anyX_take 5 (by kernel_rfl) (by kernel_rfl) (by kernel_rfl) (by kernel_rfl) (by kernel_rfl) hS0 ?_
      intro oi ho; simp only [List.getElem?_toArray, List.getElem?_cons_succ, List.getElem?_cons_zero, Option.some.injEq] at ho; subst ho
      refine ⟨?_, fun _ _ _ h => h, Or.inl ⟨by rfl, ?_⟩, ?_⟩; rotate_left 1
      · (intro wS hSw; (try dsimp only at hSw); go_simp; try with_reducible rfl)
      simp only [Act.put, List.setIfInBounds_toArray, List.set_cons_zero, List.set_cons_succ]
      refine anyX_take 6 (by kernel_rfl) (by kernel_rfl) (by kernel_rfl) (by kernel_rfl) (by kernel_rfl) hS0 ?_
      intro oi ho; simp only [List.getElem?_toArray, List.getElem?_cons_succ, List.getElem?_cons_zero, Option.some.injEq] at ho; subst ho
      refine ⟨?_, fun _ _ _ h => h, Or.inl ⟨by rfl, ?_⟩, ?_⟩; rotate_left 1
      · (intro wS hSw; (try dsimp only at hSw); go_simp; try with_reducible rfl)
      simp only [Act.put, List.setIfInBounds_toArray, List.set_cons_zero, List.set_cons_succ]
      refine anyX_take 7 (by kernel_rfl) (by kernel_rfl) (by kernel_rfl) (by kernel_rfl) (by kernel_rfl) hS0 ?_
      intro oi ho; simp only [List.getElem?_toArray, List.getElem?_cons_succ, List.getElem?_cons_zero, Option.some.injEq] at ho; subst ho
      refine ⟨?_, fun _ _ _ h => h, Or.inl ⟨by rfl, ?_⟩, ?_⟩; rotate_left 1
      · (intro wS hSw; (try dsimp only at hSw); go_simp; try with_reducible rfl)
      simp only [Act.put, List.setIfInBounds_toArray, List.set_cons_zero, List.set_cons_succ]
      refine anyX_take 8 (by kernel_rfl) (by kernel_rfl) (by kernel_rfl) (by kernel_rfl) (by kernel_rfl) hS0 ?_
      intro oi ho; simp only [List.getElem?_toArray, List.getElem?_cons_succ, List.getElem?_cons_zero, Option.some.injEq] at ho; subst ho
      refine ⟨?_, fun _ _ _ h => h, Or.inl ⟨by rfl, ?_⟩, ?_⟩; rotate_left 1
      · (intro wS hSw; (try dsimp only at hSw); go_simp; try with_reducible rfl)
      simp only [Act.put, List.setIfInBounds_toArray, List.set_cons_zero, List.set_cons_succ]
      refine anyX_take 9 (by kernel_rfl) (by kernel_rfl) (by kernel_rfl) (by kernel_rfl) (by kernel_rfl) hS0 ?_
      intro oi ho; simp only [List.getElem?_toArray, List.getElem?_cons_succ, List.getElem?_cons_zero, Option.some.injEq] at ho; subst ho
      refine ⟨?_, fun _ _ _ h => h, Or.inl ⟨by rfl, ?_⟩, ?_⟩; rotate_left 1
      · (intro wS hSw; (try dsimp only at hSw); go_simp; try with_reducible rfl)
      simp only [Act.put, List.setIfInBounds_toArray, List.set_cons_zero, List.set_cons_succ]
      refine anyX_take 10 (by kernel_rfl) (by kernel_rfl) (by kernel_rfl) (by kernel_rfl) (by kernel_rfl) hS0 ?_
      intro oi ho; simp only [List.getElem?_toArray, List.getElem?_cons_succ, List.getElem?_cons_zero, Option.some.injEq] at ho; subst ho
      refine ⟨?_, fun _ _ _ h => h, Or.inl ⟨by rfl, ?_⟩, ?_⟩; rotate_left 1
      · (intro wS hSw; (try dsimp only at hSw); go_simp; try with_reducible rfl)
      simp only [Act.put, List.setIfInBounds_toArray, List.set_cons_zero, List.set_cons_succ]
      refine anyX_take 11 (by kernel_rfl) (by kernel_rfl) (by kernel_rfl) (by kernel_rfl) (by kernel_rfl) hS0 ?_
      intro oi ho; simp only [List.getElem?_toArray, List.getElem?_cons_succ, List.getElem?_cons_zero, Option.some.injEq] at ho; subst ho
      refine ⟨?_, fun _ _ _ h => h, Or.inl ⟨by rfl, ?_⟩, ?_⟩; rotate_left 1
      · (intro wS hSw; (try dsimp only at hSw); go_simp; try with_reducible rfl)
      simp only [Act.put, List.setIfInBounds_toArray, List.set_cons_zero, List.set_cons_succ]
      refine anyX_take 12 (by kernel_rfl) (by kernel_rfl) (by kernel_rfl) (by kernel_rfl) (by kernel_rfl) hS0 ?_
      intro oi ho; simp only [List.getElem?_toArray, List.getElem?_cons_succ, List.getElem?_cons_zero, Option.some.injEq] at ho; subst ho
      refine ⟨?_, fun _ _ _ h => h, Or.inl ⟨by rfl, ?_⟩, ?_⟩; rotate_left 1
      · (intro wS hSw; (try dsimp only at hSw); go_simp; try with_reducible rfl)
      simp only [Act.put, List.setIfInBounds_toArray, List.set_cons_zero, List.set_cons_succ]
      refine anyX_take 13 (by kernel_rfl) (by kernel_rfl) (by kernel_rfl) (by kernel_rfl) (by kernel_rfl) hS0 ?_
      intro oi ho; simp only [List.getElem?_toArray, List.getElem?_cons_succ, List.getElem?_cons_zero, Option.some.injEq] at ho; subst ho
      refine ⟨?_, fun _ _ _ h => h, Or.inl ⟨by rfl, ?_⟩, ?_⟩; rotate_left 1
      · (intro wS hSw; (try dsimp only at hSw); go_simp; try with_reducible rfl)
      simp only [Act.put, List.setIfInBounds_toArray, List.set_cons_zero, List.set_cons_succ]
      refine anyX_take 14 (by kernel_rfl) (by kernel_rfl) (by kernel_rfl) (by kernel_rfl) (by kernel_rfl) hS0 ?_
      intro oi ho; simp only [List.getElem?_toArray, List.getElem?_cons_succ, List.getElem?_cons_zero, Option.some.injEq] at ho; subst ho
      refine ⟨?_, fun _ _ _ h => h, Or.inl ⟨by rfl, ?_⟩, ?_⟩; rotate_left 1
      · (intro wS hSw; (try dsimp only at hSw); go_simp; try with_reducible rfl)
      simp only [Act.put, List.setIfInBounds_toArray, List.set_cons_zero, List.set_cons_succ]
      refine anyX_take 15 (by kernel_rfl) (by kernel_rfl) (by kernel_rfl) (by kernel_rfl) (by kernel_rfl) hS0 ?_
      intro oi ho; simp only [List.getElem?_toArray, List.getElem?_cons_succ, List.getElem?_cons_zero, Option.some.injEq] at ho; subst ho
      refine ⟨?_, fun _ _ _ h => h, Or.inl ⟨by rfl, ?_⟩, ?_⟩; rotate_left 1
      · (intro wS hSw; (try dsimp only at hSw); go_simp; try with_reducible rfl)
      simp only [Act.put, List.setIfInBounds_toArray, List.set_cons_zero, List.set_cons_succ]
      refine anyX_take 16 (by kernel_rfl) (by kernel_rfl) (by kernel_rfl) (by kernel_rfl) (by kernel_rfl) hS0 ?_
      intro oi ho; simp only [List.getElem?_toArray, List.getElem?_cons_succ, List.getElem?_cons_zero, Option.some.injEq] at ho; subst ho
      refine ⟨?_, fun _ _ _ h => h, Or.inl ⟨by rfl, ?_⟩, ?_⟩; rotate_left 1
      · (intro wS hSw; (try dsimp only at hSw); go_simp; try with_reducible rfl)
      simp only [Act.put, List.setIfInBounds_toArray, List.set_cons_zero, List.set_cons_succ]
      refine anyX_take 17 (by kernel_rfl) (by kernel_rfl) (by kernel_rfl) (by kernel_rfl) (by kernel_rfl) hS0 ?_
      intro oi ho; simp only [List.getElem?_toArray, List.getElem?_cons_succ, List.getElem?_cons_zero, Option.some.injEq] at ho; subst ho
      refine ⟨?_, fun _ _ _ h => h, Or.inl ⟨by rfl, ?_⟩, ?_⟩; rotate_left 1
      · (intro wS hSw; (try dsimp only at hSw); go_simp; try with_reducible rfl)
      simp only [Act.put, List.setIfInBounds_toArray, List.set_cons_zero, List.set_cons_succ]
      refine anyX_take 18 (by kernel_rfl) (by kernel_rfl) (by kernel_rfl) (by kernel_rfl) (by kernel_rfl) hS0 ?_
      intro oi ho; simp only [List.getElem?_toArray, List.getElem?_cons_succ, List.getElem?_cons_zero, Option.some.injEq] at ho; subst ho
      refine ⟨?_, fun _ _ _ h => h, Or.inl ⟨by rfl, ?_⟩, ?_⟩; rotate_left 1
      · (intro wS hSw; (try dsimp only at hSw); go_simp; try with_reducible rfl)
      simp only [Act.put, List.setIfInBounds_toArray, List.set_cons_zero, List.set_cons_succ]
      refine anyX_take 19 (by kernel_rfl) (by kernel_rfl) (by kernel_rfl) (by kernel_rfl) (by kernel_rfl) hS0 ?_
      intro oi ho; simp only [List.getElem?_toArray, List.getElem?_cons_succ, List.getElem?_cons_zero, Option.some.injEq] at ho; subst ho
      refine ⟨?_, fun _ _ _ h => h, Or.inl ⟨by rfl, ?_⟩, ?_⟩; rotate_left 1
      · (intro wS hSw; (try dsimp only at hSw); go_simp; try with_reducible rfl)
      simp only [Act.put, List.setIfInBounds_toArray, List.set_cons_zero, List.set_cons_succ]
      refine anyX_one 20 (by kernel_rfl) ?_
      intro oi ho; simp only [List.getElem?_toArray, List.getElem?_cons_succ, List.getElem?_cons_zero, Option.some.injEq] at ho; subst ho; intro K hK
      (try simp only [Act.put, List.setIfInBounds_toArray, List.set_cons_zero, List.set_cons_succ])
      go_simp
      have kl : New wd (wd.alloc (.cells #[I xf, I xt, I v1, I v2, I xs.length] 36)) := (New.refl wd).alloc _
      have hlit : SlAt (wd.alloc (.cells #[I xf, I xt, I v1, I v2, I xs.length] 36)) (some ⟨wd.heap.size, 0, none⟩) (arcCells (⟨xf, xt, v1, v2, xs.length⟩ : ArcD)) := SlAt.lit wd _ _
      have kz := hdr.trans kl
      refine hK _ _ (fun _ => HSn _ kz) ?_
      clear hK K
      generalize (wd.alloc (.cells #[I xf, I xt, I v1, I v2, I xs.length] 36)) = VZ at kl hlit kz ⊢
      generalize wd.heap.size = Z at hlit ⊢
      refine anyX_one 21 (by kernel_rfl) ?_
      intro oi ho; simp only [List.getElem?_toArray, List.getElem?_cons_succ, List.getElem?_cons_zero, Option.some.injEq] at ho; subst ho; intro K hK
      refine step_app rfl _ _ 22 rfl w.heap.size 36 it _ 5 40 Try.underlying22 hit hz0 hz1 hz2 rfl (by decide) a L.length c (arcsCells L) rfl (HD.out.new kz).row (some ⟨Z, 0, none⟩) 1 1 (arcCells (⟨xf, xt, v1, v2, xs.length⟩ : ArcD)) rfl rfl hlit (by intro u hu; simp only [arcCells, List.mem_cons, List.not_mem_nil, or_false] at hu; rcases hu with rfl | rfl | rfl | rfl | rfl <;> rfl) (by unfold maxLen; have := HLL.out; omega) (by have := HLL.out; omega) (Nat.le_trans HD.out.nw.size kz.size) ?_
      intro a' c' wq hown' hk' hmv
      obtain ⟨⟨hv0, hfz, hPl2⟩, hDn⟩ := HD.out.add (⟨xf, xt, v1, v2, xs.length⟩ : ArcD) kz hown' hk'
      rw [HIT.out] at hDn
      have HDn := Lib.hid hDn
      refine hK _ _ (fun hx => by cases hx) ?_
      clear hK K hDn hown' hk' hmv
      refine anyX_one 22 (by kernel_rfl) ?_
      intro oi ho; simp only [List.getElem?_toArray, List.getElem?_cons_succ, List.getElem?_cons_zero, Option.some.injEq] at ho; subst ho; intro K hK
      (try simp only [Act.put, List.setIfInBounds_toArray, List.set_cons_zero, List.set_cons_succ])
      go_simp
      refine hK _ _ (fun hx => by cases hx) ?_
      clear hK K
      refine anyX_one 23 (by kernel_rfl) ?_
      intro oi ho; simp only [List.getElem?_toArray, List.getElem?_cons_succ, List.getElem?_cons_zero, Option.some.injEq] at ho; subst ho; intro K hK
      (try simp only [Act.put, List.setIfInBounds_toArray, List.set_cons_zero, List.set_cons_succ])
      go_simp
      refine hK _ _ (fun hx => by cases hx) ?_
      clear hK K
      refine anyX_done (by kernel_rfl) ?_
      (try simp only [Act.put, List.setIfInBounds_toArray, List.set_cons_zero, List.set_cons_succ])
      clear hS0 HSn
      (try simp only [Exit.then])
      go_wp2_with fail
      go_roundw
      case rel => exact ⟨k + 1, _, _, by omega, by go_num, HDn⟩
      case measure => simp [intOf]; omega
    · have hke : k = g.edges.length := by omega
      have hkd : decide (k < g.edges.length) = false := decide_eq_false hk1
      have hkI : (g.edges.length : Int) ≤ (k : Int) := by omega
      rw [hke, List.take_length] at HD
      clear hke hk hk1
      have hrow := HD.out.row
      have hbl := HD.out.bl
      rw [List.length_map] at hbl
      obtain ⟨p0, p1, -, -, hPl⟩ := net_cells hbl
      obtain ⟨r0, r1, f0, f1, hBB⟩ := net_cells HD.out.hr
      have HFIN : Hid (∀ u v : Value, post (.returned (.tuple #[.agg #[I g.acts.length, .slice a g.edges.length c], I 0])) ((wr.setCell ⟨w.heap.size + 1, 0, none⟩ u).setCell ⟨w.heap.size + 1, 1, none⟩ v)) := Lib.hid (fun u v => by
        rw [← HP.out]
        have kk : Keeps (fun k => k = w.heap.size + 1) wr ((wr.setCell ⟨w.heap.size + 1, 0, none⟩ u).setCell ⟨w.heap.size + 1, 1, none⟩ v) := (Keeps.setCell (S := fun k => k = w.heap.size + 1) wr _ _ rfl).trans (Keeps.setCell (S := fun k => k = w.heap.size + 1) _ _ _ rfl) (fun _ _ h => h)
        refine ⟨a, c, rfl, SlAt.of_owns (kk.owns hrow (fun k hk e => ?_)), (HD.out.nw.setCell (by simp) _).setCell (by simp) _⟩
        subst e
        obtain ⟨cur, hc⟩ := tab_tag hrow hk
        rw [HD.out.hr] at hc; simp at hc)
      clear HD HP hrow hbl
      go_wp2_with fail
      exact bodyPost_ret (v := .tuple #[.agg #[I g.acts.length, .slice a g.edges.length c], I 0]) (by simp [results, Try.results29, go_sem, r0, r1, f0, f1, hBB]) rfl (HFIN.out _ _)
theorem rof_any (w : World) (g : Gr) (hg : GrAt w g) (hl : GLen g) : Calls Try.prog 28 #[g.v] w (NetR w g) := by
  by_cases h : (findG g).1 = 0
  · refine (rof_good w g hg hl h).mono fun e w' hh => ?_
    unfold NetR; rw [if_neg (fun hn => hn h)]; exact hh
  · refine (rof_bad w g hg hl h).mono fun e w' hh => ?_
    unfold NetR; rw [if_pos h]; exact hh
theorem cof_any (w : World) (g : Gr) (hg : GrAt w g) (hl : GLen g) : Calls Try.prog 29 #[g.v] w (NetR w g) := by
  by_cases h : (findG g).1 = 0
  · refine (cof_good w g hg hl h).mono fun e w' hh => ?_
    unfold NetR; rw [if_neg (fun hn => hn h)]; exact hh
  · refine (cof_bad w g hg hl h).mono fun e w' hh => ?_
    unfold NetR; rw [if_pos h]; exact hh
/-- What Of answers, in one form. -/
def netN (g : Gr) : Int := if (findG g).1 ≠ 0 then 0 else g.acts.length
def netL (g : Gr) : List ArcD := if (findG g).1 ≠ 0 then [] else g.edges.map (ofArc g)
theorem NetR.uni {w w' : World} {g : Gr} {e : Ending} (h : NetR w g e w') : ∃ a c, e = .returned (.tuple #[.agg #[I (netN g), .slice a (netL g).length c], I (findG g).1]) ∧ SlAt w' a (arcsCells (netL g)) ∧ New w w' := by
  unfold NetR at h
  unfold netN netL
  by_cases h0 : (findG g).1 = 0
  · rw [if_neg (fun hn => hn h0)] at h
    obtain ⟨a, c, h1, h2, h3⟩ := h
    rw [if_neg (fun hn => hn h0), if_neg (fun hn => hn h0), List.length_map, h0]
    exact ⟨a, c, h1, h2, h3⟩
  · rw [if_pos h0] at h
    rw [if_pos h0, if_pos h0]
    exact ⟨none, 0, h.1, SlAt.nil _ _, h.2⟩
theorem netL_len (g : Gr) : (netL g).length ≤ 96 := by
  unfold netL
  by_cases h0 : (findG g).1 = 0
  · rw [if_neg (fun hn => hn h0), List.length_map]
    exact (gsound_of h0).ne
  · rw [if_pos h0]; simp
end Go.Proofs.Ytijlgcbnoekmeaa
