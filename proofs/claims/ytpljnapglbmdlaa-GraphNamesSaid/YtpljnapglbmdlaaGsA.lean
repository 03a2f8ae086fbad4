/-
  Layer 8: the same graphs are told the same.
-/
import Derived.Test.YtpljnapglbmdlaaGrZ
namespace Go.Proofs.Ytpljnapglbmdlaa
open Go Go.RowKit Go.Joins
set_option linter.all false

theorem map_at {α β : Type} {f : α → β} {l m : List α} (h : l.map f = m.map f) (k : Nat) (hk : k < l.length) (hm : k < m.length) : f l[k] = f m[k] := by
  have h1 : (l.map f)[k]? = (m.map f)[k]? := by rw [h]
  simpa [hk, hm] using h1
set_option maxRecDepth 100000 in
set_option maxHeartbeats 4000000 in
theorem samePorts_yes (w : World) (a b : Option Addr) (c d : Nat) (l : List GPort) (ha : SlAt w a (l.flatMap portCells)) (hb : SlAt w b (l.flatMap portCells)) (hl : l.length ≤ 9223372036854775807) :
    Calls Try.prog 37 #[.slice a l.length c, .slice b l.length d] w fun e w' => e = .returned (.bool true) ∧ New w w' := by
  have HA := Lib.hid ha
  have HB := Lib.hid hb
  clear ha hb
  go_enter Try.func37, Try.ntmps37
  go_wp2_with fail
  go_loopw [5] (fun i wr => ∃ k : Nat, k ≤ l.length ∧ i = .int .i64 k ∧ New w wr) (fun i _ => l.length - (intOf i).toNat)
  case atStart => exact ⟨0, by omega, rfl, New.refl _⟩
  case round =>
    obtain ⟨k, hk, rfl, hN⟩ := hrel
    by_cases hk1 : k < l.length
    · obtain ⟨b1, o1, e1, q0, q1, q2⟩ := ports_at (HA.out.new hN) hk1
      obtain ⟨b2, o2, e2, p0, p1, p2⟩ := ports_at (HB.out.new hN) hk1
      subst e1 e2
      have hb1 : b1 < wr.heap.size := World.block_lt_of_cell? wr _ q0
      have hb2 : b2 < wr.heap.size := World.block_lt_of_cell? wr _ p0
      have hk0 : (k : Int) < (l.length : Int) := by omega
      have hkd : decide (k < l.length) = true := decide_eq_true hk1
      generalize l[k] = x at q0 q1 q2 p0 p1 p2
      go_wp2_with fail
      go_quiet (fail)
      go_wp2_with fail
      go_roundw
      case rel => exact ⟨k + 1, by omega, by go_num, by first | exact hN | exact hN.drewN _ | (repeat (first | exact hN | refine New.alloc ?_ _ | refine New.drew ?_))⟩
      case measure => simp [intOf]; omega
    · have hkd : decide (k < l.length) = false := decide_eq_false hk1
      go_wp2_with fail
      go_ret
      exact ⟨rfl, hN⟩
theorem bare_parts {p q : Gr} (h : p.bare = q.bare) : p.name = q.name ∧ p.acts.map GAct.bare = q.acts.map GAct.bare ∧ p.edges.map GEdge.bare = q.edges.map GEdge.bare ∧ p.ins = q.ins ∧ p.outs = q.outs := by
  unfold Gr.bare at h
  simp only [Gr.mk.injEq, true_and] at h
  exact h
set_option maxRecDepth 100000 in
set_option maxHeartbeats 8000000 in
theorem sameGraph_yes (w : World) (p q : Gr) (hp : GrAt w p) (hq : GrAt w q) (h : p.bare = q.bare) (hl : GLen p) :
    Calls Try.prog 20 #[p.v, q.v] w fun e w' => e = .returned (.bool true) ∧ New w w' := by
  obtain ⟨h1, h2, h3, h4, h5⟩ := bare_parts h
  have l2 : q.acts.length = p.acts.length := by have := congrArg List.length h2; simpa using this.symm
  have l3 : q.edges.length = p.edges.length := by have := congrArg List.length h3; simpa using this.symm
  clear h
  have hpsa := Lib.hid hp.sa
  have hpse := Lib.hid hp.se
  have hpsi := Lib.hid hp.si
  have hpso := Lib.hid hp.so
  have hpax := Lib.hid hp.ax
  have hpex := Lib.hid hp.ex
  have hqsa := Lib.hid hq.sa
  have hqse := Lib.hid hq.se
  have hqsi := Lib.hid hq.si
  have hqso := Lib.hid hq.so
  have hqax := Lib.hid hq.ax
  have hqex := Lib.hid hq.ex
  have la := hl.a
  have le := hl.e
  have li := hl.i
  have lo := hl.o
  have lax := Lib.hid hl.ax
  have lex := Lib.hid hl.ex
  clear hp hq hl
  obtain ⟨pn, paa, pac, pacts, pea, pec, pedges, pia, pic, pins, poa, poc, pouts⟩ := p
  obtain ⟨qn, qaa, qac, qacts, qea, qec, qedges, qia, qic, qins, qoa, qoc, qouts⟩ := q
  simp only at *
  subst h1 h4 h5
  simp only [Gr.v, Gr.cs]
  rw [l2, l3]
  have L2 := Lib.hid l2
  have L3 := Lib.hid l3
  have H2 := Lib.hid h2
  have H3 := Lib.hid h3
  clear l2 l3 h2 h3
  go_enter Try.func20, Try.ntmps20
  have na : New w (w.alloc (.cells #[.string pn, .slice paa pacts.length pac, .slice pea pedges.length pec, .slice pia pins.length pic, .slice poa pouts.length poc] 26)) := (New.refl w).alloc _
  have ha : (w.alloc (.cells #[.string pn, .slice paa pacts.length pac, .slice pea pedges.length pec, .slice pia pins.length pic, .slice poa pouts.length poc] 26)).heap[w.heap.size]? = some (.cells #[.string pn, .slice paa pacts.length pac, .slice pea pedges.length pec, .slice pia pins.length pic, .slice poa pouts.length poc] 26 (0, 0)) := heap_alloc_new w _
  have sa : (w.alloc (.cells #[.string pn, .slice paa pacts.length pac, .slice pea pedges.length pec, .slice pia pins.length pic, .slice poa pouts.length poc] 26)).heap.size = w.heap.size + 1 := size_alloc _ _
  have nb : New (w.alloc (.cells #[.string pn, .slice paa pacts.length pac, .slice pea pedges.length pec, .slice pia pins.length pic, .slice poa pouts.length poc] 26)) ((w.alloc (.cells #[.string pn, .slice paa pacts.length pac, .slice pea pedges.length pec, .slice pia pins.length pic, .slice poa pouts.length poc] 26)).alloc (.cells #[.string pn, .slice qaa pacts.length qac, .slice qea pedges.length qec, .slice qia pins.length qic, .slice qoa pouts.length qoc] 26)) := (New.refl _).alloc _
  have hb : ((w.alloc (.cells #[.string pn, .slice paa pacts.length pac, .slice pea pedges.length pec, .slice pia pins.length pic, .slice poa pouts.length poc] 26)).alloc (.cells #[.string pn, .slice qaa pacts.length qac, .slice qea pedges.length qec, .slice qia pins.length qic, .slice qoa pouts.length qoc] 26)).heap[w.heap.size + 1]? = some (.cells #[.string pn, .slice qaa pacts.length qac, .slice qea pedges.length qec, .slice qia pins.length qic, .slice qoa pouts.length qoc] 26 (0, 0)) := by
    have := heap_alloc_new (w.alloc (.cells #[.string pn, .slice paa pacts.length pac, .slice pea pedges.length pec, .slice pia pins.length pic, .slice poa pouts.length poc] 26)) (.cells #[.string pn, .slice qaa pacts.length qac, .slice qea pedges.length qec, .slice qia pins.length qic, .slice qoa pouts.length qoc] 26); rwa [sa] at this
  replace ha := Keeps.heap nb ha (fun h => h)
  have kA := na.trans nb
  clear na nb sa
  go_wp2_with fail
  generalize ((w.alloc (.cells #[.string pn, .slice paa pacts.length pac, .slice pea pedges.length pec, .slice pia pins.length pic, .slice poa pouts.length poc] 26)).alloc (.cells #[.string pn, .slice qaa pacts.length qac, .slice qea pedges.length qec, .slice qia pins.length qic, .slice qoa pouts.length qoc] 26)) = W at kA ha hb ⊢
  have HA := Lib.hid ha
  have HB := Lib.hid hb
  clear ha hb
  go_loopw [5] (fun i wr => ∃ k : Nat, k ≤ pacts.length ∧ i = .int .i64 k ∧ New W wr) (fun i _ => pacts.length - (intOf i).toNat)
  case atStart => exact ⟨0, by omega, rfl, New.refl _⟩
  case round =>
    obtain ⟨k, hk, rfl, hN⟩ := hrel
    obtain ⟨c0, c1, c2, c3, c4, hCl⟩ := gr_cells (Keeps.heap hN HA.out (fun h => h))
    obtain ⟨d0, d1, d2, d3, d4, hDl⟩ := gr_cells (Keeps.heap hN HB.out (fun h => h))
    have hNw := kA.trans hN
    by_cases hk1 : k < pacts.length
    · have hk2 : k < qacts.length := by have := L2.out; omega
      obtain ⟨b1, o1, e1, q0, q1, q2⟩ := acts_at (hpsa.out.new hNw) hk1
      obtain ⟨b2, o2, e2, p0, p1, p2⟩ := acts_at (hqsa.out.new hNw) hk2
      subst e1 e2
      have hb1 : b1 < wr.heap.size := World.block_lt_of_cell? wr _ q0
      have hb2 : b2 < wr.heap.size := World.block_lt_of_cell? wr _ p0
      have hx := fun W (n : New wr W) => (hpax.out _ (List.getElem_mem hk1)).new (hNw.trans n)
      have hy := fun W (n : New wr W) => (hqax.out _ (List.getElem_mem hk2)).new (hNw.trans n)
      have he := map_at H2.out k hk1 hk2
      have hxl := (lax.out _ (List.getElem_mem hk1)).1
      have hk0 : (k : Int) < (pacts.length : Int) := by omega
      have hkd : decide (k < pacts.length) = true := decide_eq_true hk1
      generalize pacts[k] = x at q0 q1 q2 hx he hxl
      generalize qacts[k] = y at p0 p1 p2 hy he
      obtain ⟨xn, xt, xa, xc, xs⟩ := x
      obtain ⟨yn, yt, ya, yc, ys⟩ := y
      simp only [GAct.bare, GAct.mk.injEq, true_and] at he
      obtain ⟨rfl, rfl, rfl⟩ := he
      simp only at q0 q1 q2 p0 p1 p2 hx hy hxl
      have hsi : ∀ W (n : New wr W), Calls Try.prog 36 #[.slice xa xs.length xc, .slice ya xs.length yc] W fun e w' => e = .returned (.bool true) ∧ ∃ n, w' = W.drewN n := fun W n => sameInts_is W _ _ _ _ _ _ _ _ (hx W n) (hy W n) rfl rfl true (decide_eq_true rfl) hxl
      clear hx hy
      go_wp2_with fail
      refine (hsi _ (((New.refl wr).alloc _).alloc _)).mono ?_
      rintro e w9 ⟨rfl, n9, rfl⟩
      go_wp2_with fail
      go_roundw
      case rel => exact ⟨k + 1, by omega, by go_num, ((hN.alloc _).alloc _).drewN _⟩
      case measure => simp [intOf]; omega
    · have hkd : decide (k < pacts.length) = false := decide_eq_false hk1
      clear hk hk1
      replace kA := kA.trans hN
      have HA2 := Lib.hid (Keeps.heap hN HA.out (fun h => h))
      have HB2 := Lib.hid (Keeps.heap hN HB.out (fun h => h))
      replace HA := HA2
      replace HB := HB2
      clear HA2 HB2 hN
      go_wp2_with fail
      clear c0 c1 c2 c3 c4 hCl d0 d1 d2 d3 d4 hDl
      obtain ⟨v1, hv1⟩ : ∃ v, v = wr := ⟨_, rfl⟩
      subst hv1
      go_loopw [8] (fun i wr => ∃ k : Nat, k ≤ pedges.length ∧ i = .int .i64 k ∧ New v1 wr) (fun i _ => pedges.length - (intOf i).toNat)
      case atStart => exact ⟨0, by omega, rfl, New.refl _⟩
      case round =>
        obtain ⟨k, hk, rfl, hN⟩ := hrel
        obtain ⟨c0, c1, c2, c3, c4, hCl⟩ := gr_cells (Keeps.heap hN HA.out (fun h => h))
        obtain ⟨d0, d1, d2, d3, d4, hDl⟩ := gr_cells (Keeps.heap hN HB.out (fun h => h))
        have hNw := kA.trans hN
        by_cases hk1 : k < pedges.length
        · have hk2 : k < qedges.length := by have := L3.out; omega
          obtain ⟨b1, o1, e1, q0, q1, q2, q3, q4⟩ := gedges_at (hpse.out.new hNw) hk1
          obtain ⟨b2, o2, e2, p0, p1, p2, p3, p4⟩ := gedges_at (hqse.out.new hNw) hk2
          subst e1 e2
          have hb1 : b1 < wr.heap.size := World.block_lt_of_cell? wr _ q0
          have hb2 : b2 < wr.heap.size := World.block_lt_of_cell? wr _ p0
          have hx := fun W (n : New wr W) => (hpex.out _ (List.getElem_mem hk1)).new (hNw.trans n)
          have hy := fun W (n : New wr W) => (hqex.out _ (List.getElem_mem hk2)).new (hNw.trans n)
          have he := map_at H3.out k hk1 hk2
          have hxl := (lex.out _ (List.getElem_mem hk1))
          have hk0 : (k : Int) < (pedges.length : Int) := by omega
          have hkd : decide (k < pedges.length) = true := decide_eq_true hk1
          generalize pedges[k] = x at q0 q1 q2 q3 q4 hx he hxl
          generalize qedges[k] = y at p0 p1 p2 p3 p4 hy he
          obtain ⟨xf, xfp, xt, xtp, xa, xc, xs⟩ := x
          obtain ⟨yf, yfp, yt, ytp, ya, yc, ys⟩ := y
          simp only [GEdge.bare, GEdge.mk.injEq, true_and] at he
          obtain ⟨rfl, rfl, rfl, rfl, rfl⟩ := he
          simp only at q0 q1 q2 q3 q4 p0 p1 p2 p3 p4 hx hy hxl
          have hsi : ∀ W (n : New wr W), Calls Try.prog 36 #[.slice xa xs.length xc, .slice ya xs.length yc] W fun e w' => e = .returned (.bool true) ∧ ∃ n, w' = W.drewN n := fun W n => sameInts_is W _ _ _ _ _ _ _ _ (hx W n) (hy W n) rfl rfl true (decide_eq_true rfl) hxl
          clear hx hy
          go_wp2_with fail
          refine (hsi _ (((New.refl wr).alloc _).alloc _)).mono ?_
          rintro e w9 ⟨rfl, n9, rfl⟩
          go_wp2_with fail
          go_roundw
          case rel => exact ⟨k + 1, by omega, by go_num, ((hN.alloc _).alloc _).drewN _⟩
          case measure => simp [intOf]; omega
        · have hkd : decide (k < pedges.length) = false := decide_eq_false hk1
          clear hk hk1
          have hpi := fun W (n : New wr W) => samePorts_yes W pia qia pic qic pins (hpsi.out.new (hNw.trans n)) (hqsi.out.new (hNw.trans n)) li
          have hpo := fun W (n : New wr W) => samePorts_yes W poa qoa poc qoc pouts (hpso.out.new (hNw.trans n)) (hqso.out.new (hNw.trans n)) lo
          have HAw := Lib.hid (Keeps.heap hN HA.out (fun h => h))
          have HBw := Lib.hid (Keeps.heap hN HB.out (fun h => h))
          go_wp2_with fail
          refine (hpi _ (New.refl _)).mono ?_
          rintro e w8 ⟨rfl, n8⟩
          clear c0 c1 c2 c3 c4 hCl d0 d1 d2 d3 d4 hDl
          obtain ⟨c0, c1, c2, c3, c4, hCl⟩ := gr_cells (Keeps.heap n8 HAw.out (fun h => h))
          obtain ⟨d0, d1, d2, d3, d4, hDl⟩ := gr_cells (Keeps.heap n8 HBw.out (fun h => h))
          go_wp2_with fail
          refine (hpo _ n8).mono ?_
          rintro e w9 ⟨rfl, n9⟩
          go_wp2_with fail
          go_ret
          exact ⟨rfl, (hNw.trans n8).trans n9⟩
end Go.Proofs.Ytpljnapglbmdlaa
