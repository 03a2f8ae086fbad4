/-
  Layer 8: a graph as it was lent; KeptGraph.
-/
import Derived.Test.YtpljnapglbmdlaaGsG
import Derived.Test.YtpljnapglbmdlaaGsA
namespace Go.Proofs.Ytpljnapglbmdlaa
open Go Go.RowKit Go.Joins
set_option linter.all false

/-- A graph as it was lent: own is what LentGraph answered for g. -/
structure Lended (w : World) (B : Nat) (g q : Gr) : Prop where
  bare : q.bare = g.bare
  ow : GrOwn w B (qL q q.aa q.ac (q.acts ++ [mkAct]) q.ea q.ec (q.edges ++ [mkEdge]))
  la : ∀ x ∈ q.acts, LtB w x.a x.c x.xs
  le : ∀ x ∈ q.edges, LtB w x.a x.c x.xs
  io : w.ownsRow B 60 3 (.slice q.ia (q.ins.length + 1) q.ic) (q.ins.length + 1) ((q.ins ++ [mkPort]).flatMap portCells)
  oo : w.ownsRow B 60 3 (.slice q.oa (q.outs.length + 1) q.oc) (q.outs.length + 1) ((q.outs ++ [mkPort]).flatMap portCells)
theorem LtB.sl {w : World} {a : Option Addr} {c : Nat} {xs : List Int} (h : LtB w a c xs) : SlAt w a (Is xs) := by
  obtain ⟨b, rfl, rfl, hb⟩ := h
  have := (SlAt.block hb).take xs.length
  have hl : (Is xs).length = xs.length := by simp [Is]
  rw [← hl, List.take_left] at this
  exact this
theorem SlAt.left {w : World} {a : Option Addr} {xs ys : List Value} (h : SlAt w a (xs ++ ys)) : SlAt w a xs := by
  have := h.take xs.length
  rwa [List.take_left] at this
theorem SlAt.snoc {α : Type} {f : α → List Value} {w : World} {a : Option Addr} {l : List α} {x : α} (h : SlAt w a ((l ++ [x]).flatMap f)) : SlAt w a (l.flatMap f) := by
  rw [List.flatMap_append] at h
  exact h.left
theorem Lended.at {w : World} {B : Nat} {g q : Gr} (h : Lended w B g q) : GrAt w q :=
  ⟨(SlAt.of_owns h.ow.ao).snoc, (SlAt.of_owns h.ow.eo).snoc, (SlAt.of_owns h.io).snoc, (SlAt.of_owns h.oo).snoc, fun x hx => (h.la x hx).sl, fun x hx => (h.le x hx).sl⟩
theorem Lended.new {w w' : World} {B : Nat} {g q : Gr} (h : Lended w B g q) (k : New w w') : Lended w' B g q :=
  ⟨h.bare, h.ow.new k, fun x hx => (h.la x hx).new k, fun x hx => (h.le x hx).new k, k.owns h.io, k.owns h.oo⟩
theorem map_len {α β : Type} {f : α → β} {l m : List α} (h : l.map f = m.map f) : l.length = m.length := by
  have := congrArg List.length h; simpa using this
theorem LentG.lended {w w' : World} {g : Gr} {e : Ending} (h : LentG w g e w') : ∃ q, e = .returned q.v ∧ Lended w' w.heap.size g q ∧ New w w' := by
  obtain ⟨a, c, l, b, d, m, ia, ic, oa, oc, rfl, hown, hl, hm, hla, hle, hi, ho, k⟩ := h
  refine ⟨⟨g.name, a, c, l, b, d, m, ia, ic, g.ins, oa, oc, g.outs⟩, ?_, ⟨?_, hown, hla, hle, hi, ho⟩, k⟩
  · simp only [Gr.v, Gr.cs]
    rw [map_len hl, map_len hm]
  · unfold Gr.bare
    simp only [hl, hm]
theorem mark_row {α : Type} {f : α → List Value} {n : Nat} (hf : ∀ x, (f x).length = n) (hn : 0 < n) {w : World} {B : Nat} {t : TypeId} {a : Option Addr} {c : Nat} {l : List α} {x : α} (h : w.ownsRow B t n (.slice a (l.length + 1) c) (l.length + 1) ((l ++ [x]).flatMap f)) :
    ∃ b, a = some ⟨b, 0, none⟩ ∧ l.length + 1 ≤ c ∧ ∀ j (hj : j < n), w.cell? ⟨b, l.length * n + j, none⟩ = (f x)[j]? := by
  have hS := SlAt.of_owns h
  rcases h.2 with ⟨h0, -⟩ | ⟨g9, cap, cur, h0, hb, hg, hnc, -⟩
  · simp at h0
  · simp only [Value.slice.injEq] at h0
    obtain ⟨rfl, -, rfl⟩ := h0
    refine ⟨g9, rfl, hnc, fun j hj => ?_⟩
    obtain ⟨b, off, e, k⟩ := row_at (n := n) (l := l ++ [x]) (i := l.length) hf hn hS (by simp)
    cases e
    have := k j hj
    simpa using this
theorem GLen.bare {q g : Gr} (h : GLen g) (e : q.bare = g.bare) : GLen q := by
  obtain ⟨h1, h2, h3, h4, h5⟩ := bare_parts e
  refine ⟨by rw [map_len h2]; exact h.a, by rw [map_len h3]; exact h.e, by rw [h4]; exact h.i, by rw [h5]; exact h.o, fun x hx => ?_, fun x hx => ?_, by rw [h4]; exact h.ix, by rw [h5]; exact h.ox, by rw [h1]; exact h.n⟩
  · have hm : x.bare ∈ g.acts.map GAct.bare := h2 ▸ List.mem_map_of_mem hx
    obtain ⟨y, hy, he⟩ := List.mem_map.1 hm
    have e1 : y.xs = x.xs := by have := congrArg GAct.xs he; exact this
    have e2 : y.name = x.name := by have := congrArg GAct.name he; exact this
    rw [← e1, ← e2]; exact h.ax y hy
  · have hm : x.bare ∈ g.edges.map GEdge.bare := h3 ▸ List.mem_map_of_mem hx
    obtain ⟨y, hy, he⟩ := List.mem_map.1 hm
    have e1 : y.xs = x.xs := by have := congrArg GEdge.xs he; exact this
    rw [← e1]; exact h.ex y hy
theorem GFew.bare {q g : Gr} (h : GFew g) (e : q.bare = g.bare) : GFew q := by
  obtain ⟨h1, h2, h3, h4, h5⟩ := bare_parts e
  refine ⟨by rw [map_len h2, map_len h3, h4, h5]; exact h.n, fun x hx => ?_, fun x hx => ?_⟩
  · have hm : x.bare ∈ g.acts.map GAct.bare := h2 ▸ List.mem_map_of_mem hx
    obtain ⟨y, hy, he⟩ := List.mem_map.1 hm
    have e1 : y.xs = x.xs := by have := congrArg GAct.xs he; exact this
    rw [← e1]; exact h.ax y hy
  · have hm : x.bare ∈ g.edges.map GEdge.bare := h3 ▸ List.mem_map_of_mem hx
    obtain ⟨y, hy, he⟩ := List.mem_map.1 hm
    have e1 : y.xs = x.xs := by have := congrArg GEdge.xs he; exact this
    rw [← e1]; exact h.ex y hy
set_option maxRecDepth 100000 in
set_option maxHeartbeats 16000000 in
theorem keptGraph_any (w : World) (g q : Gr) (B : Nat) (hg : GrAt w g) (hq : Lended w B g q) (hf : GFew g) (hl : GLen g) :
    Calls Try.prog 14 #[q.v, g.v] w fun e w' => e = .returned (.bool true) ∧ New w w' := by
  obtain ⟨h1, h2, h3, h4, h5⟩ := bare_parts hq.bare
  have l2 := (map_len h2).symm
  have l3 := (map_len h3).symm
  have hfn := (hf.bare hq.bare).n
  have HFA := Lib.hid (hf.bare hq.bare).ax
  have HFE := Lib.hid (hf.bare hq.bare).ex
  have HSG := Lib.hid (fun W (k : New w W) => sameGraph_yes W q g (hq.at.new k) (hg.new k) hq.bare (hl.bare hq.bare))
  clear hf hl
  have HGA := Lib.hid hg.sa
  have HGE := Lib.hid hg.se
  have HGX := Lib.hid hg.ax
  have HGY := Lib.hid hg.ex
  obtain ⟨b1, f1, cA, mA⟩ := mark_row (n := 3) (l := q.acts) (fun _ => rfl) (by decide) (by simpa using hq.ow.ao)
  obtain ⟨b2, f2, cE, mE⟩ := mark_row (n := 5) (l := q.edges) (fun _ => rfl) (by decide) (by simpa using hq.ow.eo)
  obtain ⟨b3, f3, cI, mI⟩ := mark_row (n := 3) (fun _ => rfl) (by decide) hq.io
  obtain ⟨b4, f4, cO, mO⟩ := mark_row (n := 3) (fun _ => rfl) (by decide) hq.oo
  have MA := Lib.hid (mA 1 (by decide))
  have ME := Lib.hid (mE 0 (by decide))
  have MI := Lib.hid (mI 1 (by decide))
  have MO := Lib.hid (mO 1 (by decide))
  clear mA mE mI mO
  have HQA := Lib.hid hq.at.sa
  have HQE := Lib.hid hq.at.se
  have HLA := Lib.hid hq.la
  have HLE := Lib.hid hq.le
  clear hg hq
  obtain ⟨qn, qaa, qac, qacts, qea, qec, qedges, qia, qic, qins, qoa, qoc, qouts⟩ := q
  obtain ⟨gn, gaa, gac, gacts, gea, gec, gedges, gia, gic, gins, goa, goc, gouts⟩ := g
  simp only [Gr.v, Gr.cs] at h1 h2 h3 h4 h5 l2 l3 hfn HFA HFE f1 f2 f3 f4 cA cE cI cO MA ME MI MO HQA HQE HLA HLE HGA HGE HGX HGY HSG ⊢
  subst h1 h4 h5 f1 f2 f3 f4
  rw [l2, l3] at HSG ⊢
  have H2 := Lib.hid h2
  have H3 := Lib.hid h3
  have HL2 := Lib.hid l2
  have HL3 := Lib.hid l3
  clear h2 h3 l2 l3
  go_enter Try.func14, Try.ntmps14
  have na : New w (w.alloc (.cells #[.string qn, .slice (some ⟨b1, 0, none⟩) qacts.length qac, .slice (some ⟨b2, 0, none⟩) qedges.length qec, .slice (some ⟨b3, 0, none⟩) qins.length qic, .slice (some ⟨b4, 0, none⟩) qouts.length qoc] 26)) := (New.refl w).alloc _
  have ha : (w.alloc (.cells #[.string qn, .slice (some ⟨b1, 0, none⟩) qacts.length qac, .slice (some ⟨b2, 0, none⟩) qedges.length qec, .slice (some ⟨b3, 0, none⟩) qins.length qic, .slice (some ⟨b4, 0, none⟩) qouts.length qoc] 26)).heap[w.heap.size]? = some (.cells #[.string qn, .slice (some ⟨b1, 0, none⟩) qacts.length qac, .slice (some ⟨b2, 0, none⟩) qedges.length qec, .slice (some ⟨b3, 0, none⟩) qins.length qic, .slice (some ⟨b4, 0, none⟩) qouts.length qoc] 26 (0, 0)) := heap_alloc_new w _
  have sa : (w.alloc (.cells #[.string qn, .slice (some ⟨b1, 0, none⟩) qacts.length qac, .slice (some ⟨b2, 0, none⟩) qedges.length qec, .slice (some ⟨b3, 0, none⟩) qins.length qic, .slice (some ⟨b4, 0, none⟩) qouts.length qoc] 26)).heap.size = w.heap.size + 1 := size_alloc _ _
  have nb : New (w.alloc (.cells #[.string qn, .slice (some ⟨b1, 0, none⟩) qacts.length qac, .slice (some ⟨b2, 0, none⟩) qedges.length qec, .slice (some ⟨b3, 0, none⟩) qins.length qic, .slice (some ⟨b4, 0, none⟩) qouts.length qoc] 26)) ((w.alloc (.cells #[.string qn, .slice (some ⟨b1, 0, none⟩) qacts.length qac, .slice (some ⟨b2, 0, none⟩) qedges.length qec, .slice (some ⟨b3, 0, none⟩) qins.length qic, .slice (some ⟨b4, 0, none⟩) qouts.length qoc] 26)).alloc (.cells #[.string qn, .slice gaa qacts.length gac, .slice gea qedges.length gec, .slice gia qins.length gic, .slice goa qouts.length goc] 26)) := (New.refl _).alloc _
  have hb : ((w.alloc (.cells #[.string qn, .slice (some ⟨b1, 0, none⟩) qacts.length qac, .slice (some ⟨b2, 0, none⟩) qedges.length qec, .slice (some ⟨b3, 0, none⟩) qins.length qic, .slice (some ⟨b4, 0, none⟩) qouts.length qoc] 26)).alloc (.cells #[.string qn, .slice gaa qacts.length gac, .slice gea qedges.length gec, .slice gia qins.length gic, .slice goa qouts.length goc] 26)).heap[w.heap.size + 1]? = some (.cells #[.string qn, .slice gaa qacts.length gac, .slice gea qedges.length gec, .slice gia qins.length gic, .slice goa qouts.length goc] 26 (0, 0)) := by
    have := heap_alloc_new (w.alloc (.cells #[.string qn, .slice (some ⟨b1, 0, none⟩) qacts.length qac, .slice (some ⟨b2, 0, none⟩) qedges.length qec, .slice (some ⟨b3, 0, none⟩) qins.length qic, .slice (some ⟨b4, 0, none⟩) qouts.length qoc] 26)) (.cells #[.string qn, .slice gaa qacts.length gac, .slice gea qedges.length gec, .slice gia qins.length gic, .slice goa qouts.length goc] 26); rwa [sa] at this
  replace ha := Keeps.heap nb ha (fun h => h)
  have kA := na.trans nb
  clear na nb sa
  go_wp2_with fail
  generalize ((w.alloc (.cells #[.string qn, .slice (some ⟨b1, 0, none⟩) qacts.length qac, .slice (some ⟨b2, 0, none⟩) qedges.length qec, .slice (some ⟨b3, 0, none⟩) qins.length qic, .slice (some ⟨b4, 0, none⟩) qouts.length qoc] 26)).alloc (.cells #[.string qn, .slice gaa qacts.length gac, .slice gea qedges.length gec, .slice gia qins.length gic, .slice goa qouts.length goc] 26)) = W at kA ha hb ⊢
  have HA := Lib.hid ha
  have HB := Lib.hid hb
  clear ha hb
  refine (HSG.out W kA).mono ?_
  rintro e W2 ⟨rfl, k2⟩
  replace HA := Lib.hid (Keeps.heap k2 HA.out (fun h => h))
  replace HB := Lib.hid (Keeps.heap k2 HB.out (fun h => h))
  have HN2 := Lib.hid (kA.trans k2)
  clear kA k2 HSG
  go_wp2_with fail
  go_loopw [5] (fun i wr => ∃ k : Nat, k ≤ qacts.length ∧ i = .int .i64 k ∧ New W2 wr) (fun i _ => qacts.length - (intOf i).toNat)
  case atStart => exact ⟨0, by omega, rfl, New.refl _⟩
  case round =>
    obtain ⟨k, hk, rfl, hN⟩ := hrel
    obtain ⟨c0, c1, c2, c3, c4, hCl⟩ := gr_cells (Keeps.heap hN HA.out (fun h => h))
    obtain ⟨d0, d1, d2, d3, d4, hDl⟩ := gr_cells (Keeps.heap hN HB.out (fun h => h))
    have hNw := HN2.out.trans hN
    by_cases hk1 : k < qacts.length
    · have hk2 : k < gacts.length := by have := HL2.out; omega
      obtain ⟨bq, oq, e1, q0, q1, q2⟩ := acts_at (HQA.out.new hNw) hk1
      obtain ⟨bg, og, e2, p0, p1, p2⟩ := acts_at (HGA.out.new hNw) hk2
      cases e1
      subst e2
      obtain ⟨lb, la, lc, lh⟩ := (HLA.out _ (List.getElem_mem hk1)).new hNw
      have hgs := (HGX.out _ (List.getElem_mem hk2)).new hNw
      have he := map_at H2.out k hk1 hk2
      have hxl := HFA.out _ (List.getElem_mem hk1)
      have hk0 : (k : Int) < (qacts.length : Int) := by omega
      have hkd : decide (k < qacts.length) = true := decide_eq_true hk1
      generalize qacts[k] = x at q0 q1 q2 la lc lh hxl he
      generalize gacts[k] = y at p0 p1 p2 hgs he
      obtain ⟨xn, xt, xa, xc, xxs⟩ := x
      obtain ⟨yn, yt, ya, yc, yxs⟩ := y
      simp only [GAct.bare, GAct.mk.injEq, true_and] at he
      obtain ⟨rfl, rfl, rfl⟩ := he
      simp only [Nat.zero_add] at q0 q1 q2 p0 p1 p2 la lc lh hxl hgs
      subst la lc
      have hbq : b1 < wr.heap.size := World.block_lt_of_cell? wr _ q0
      have hbg : bg < wr.heap.size := World.block_lt_of_cell? wr _ p0
      have hkc := fun n => kept_any lb ya yc xxs (wr.drewN n) (Keeps.heap ((New.refl wr).drewN n) lh (fun h => h)) (hgs.new ((New.refl wr).drewN n)) (by omega)
      clear lh hgs
      go_wp2_with fail
      go_quiet ((go_at_call 28; exact Calls.quiet_of (hkc _)))
      go_wp2_with fail
      go_roundw
      case rel => exact ⟨k + 1, by omega, by go_num, by first | exact hN | exact hN.drewN _⟩
      case measure => simp [intOf]; omega
    · have hkd : decide (k < qacts.length) = false := decide_eq_false hk1
      have hkI : (qacts.length : Int) ≤ (k : Int) := by omega
      clear hk hk1
      replace HA := Lib.hid (Keeps.heap hN HA.out (fun h => h))
      replace HB := Lib.hid (Keeps.heap hN HB.out (fun h => h))
      replace HN2 := Lib.hid hNw
      clear hN hNw
      obtain ⟨W2, rfl⟩ : ∃ z, z = wr := ⟨_, rfl⟩
      go_wp2_with fail
      go_loopw [6] (fun i wr => ∃ k : Nat, k ≤ qedges.length ∧ i = .int .i64 k ∧ New W2 wr) (fun i _ => qedges.length - (intOf i).toNat)
      case atStart => exact ⟨0, by omega, rfl, New.refl _⟩
      case round =>
        obtain ⟨k, hk, rfl, hN⟩ := hrel
        obtain ⟨c0, c1, c2, c3, c4, hCl⟩ := gr_cells (Keeps.heap hN HA.out (fun h => h))
        obtain ⟨d0, d1, d2, d3, d4, hDl⟩ := gr_cells (Keeps.heap hN HB.out (fun h => h))
        have hNw := HN2.out.trans hN
        by_cases hk1 : k < qedges.length
        · have hk2 : k < gedges.length := by have := HL3.out; omega
          obtain ⟨bq, oq, e1, q0, q1, q2, q3, q4⟩ := gedges_at (HQE.out.new hNw) hk1
          obtain ⟨bg, og, e2, p0, p1, p2, p3, p4⟩ := gedges_at (HGE.out.new hNw) hk2
          cases e1
          subst e2
          obtain ⟨lb, la, lc, lh⟩ := (HLE.out _ (List.getElem_mem hk1)).new hNw
          have hgs := (HGY.out _ (List.getElem_mem hk2)).new hNw
          have he := map_at H3.out k hk1 hk2
          have hxl := HFE.out _ (List.getElem_mem hk1)
          have hk0 : (k : Int) < (qedges.length : Int) := by omega
          have hkd : decide (k < qedges.length) = true := decide_eq_true hk1
          generalize qedges[k] = x at q0 q1 q2 q3 q4 la lc lh hxl he
          generalize gedges[k] = y at p0 p1 p2 p3 p4 hgs he
          obtain ⟨xf, xfp, xt, xtp, xa, xc, xxs⟩ := x
          obtain ⟨yf, yfp, yt, ytp, ya, yc, yxs⟩ := y
          simp only [GEdge.bare, GEdge.mk.injEq, true_and] at he
          obtain ⟨rfl, rfl, rfl, rfl, rfl⟩ := he
          simp only [Nat.zero_add] at q0 q1 q2 q3 q4 p0 p1 p2 p3 p4 la lc lh hxl hgs
          subst la lc
          have hbq : b2 < wr.heap.size := World.block_lt_of_cell? wr _ q0
          have hbg : bg < wr.heap.size := World.block_lt_of_cell? wr _ p0
          have hkc := fun n => kept_any lb ya yc xxs (wr.drewN n) (Keeps.heap ((New.refl wr).drewN n) lh (fun h => h)) (hgs.new ((New.refl wr).drewN n)) (by omega)
          clear lh hgs
          go_wp2_with fail
          go_quiet ((go_at_call 28; exact Calls.quiet_of (hkc _)))
          go_wp2_with fail
          go_roundw
          case rel => exact ⟨k + 1, by omega, by go_num, by first | exact hN | exact hN.drewN _⟩
          case measure => simp [intOf]; omega
        · have hkd : decide (k < qedges.length) = false := decide_eq_false hk1
          have hkI : (qedges.length : Int) ≤ (k : Int) := by omega
          clear hk hk1
          replace HA := Lib.hid (Keeps.heap hN HA.out (fun h => h))
          replace HB := Lib.hid (Keeps.heap hN HB.out (fun h => h))
          replace HN2 := Lib.hid hNw
          clear hN hNw
          obtain ⟨W2, rfl⟩ : ∃ z, z = wr := ⟨_, rfl⟩
          have mA : W2.cell? ⟨b1, qacts.length * 3 + 1, none⟩ = some (.int .u8 99) := New.cell HN2.out MA.out
          have mE : W2.cell? ⟨b2, qedges.length * 5, none⟩ = some (I (-7770777)) := New.cell HN2.out ME.out
          have mI : W2.cell? ⟨b3, qins.length * 3 + 1, none⟩ = some (I (-7770777)) := New.cell HN2.out MI.out
          have mO : W2.cell? ⟨b4, qouts.length * 3 + 1, none⟩ = some (I (-7770777)) := New.cell HN2.out MO.out
          go_wp2_with fail
          go_ret
          exact ⟨rfl, HN2.out⟩
end Go.Proofs.Ytpljnapglbmdlaa
