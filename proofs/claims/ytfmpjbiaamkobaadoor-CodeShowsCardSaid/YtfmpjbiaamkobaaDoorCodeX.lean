/-
  Layer 20: the same programs are told the same.
-/
import Derived.Test.YtfmpjbiaamkobaaDoorCodeV
namespace Go.Proofs.YtfmpjbiaamkobaaDoor
open Go Go.RowKit Go.Joins
set_option linter.all false

set_option maxRecDepth 100000 in
set_option maxHeartbeats 4000000 in
theorem sameOps_yes (w : World) (a b : Option Addr) (c d : Nat) (l : List OpD) (ha : SlAt w a (l.flatMap opCells)) (hb : SlAt w b (l.flatMap opCells)) (hl : l.length ≤ 9223372036854775807) :
    Calls Tryd.prog 25 #[.slice a l.length c, .slice b l.length d] w fun e w' => e = .returned (.bool true) ∧ New w w' := by
  go_enter Tryd.func25, Tryd.ntmps25
  go_wp2_with fail
  go_loopw [5] (fun i wr => ∃ k : Nat, k ≤ l.length ∧ i = .int .i64 k ∧ New w wr) (fun i _ => l.length - (intOf i).toNat)
  case atStart => exact ⟨0, by omega, rfl, New.refl _⟩
  case round =>
    obtain ⟨k, hk, rfl, hN⟩ := hrel
    by_cases hk1 : k < l.length
    · obtain ⟨b1, o1, rfl, q0, q1, q2⟩ := ops_at (ha.new hN) hk1
      obtain ⟨b2, o2, rfl, p0, p1, p2⟩ := ops_at (hb.new hN) hk1
      have hk0 : (k : Int) < (l.length : Int) := by omega
      generalize l[k] = x at q0 q1 q2 p0 p1 p2
      go_wp2_with fail
      go_quiet (fail)
      go_wp2_with fail
      go_roundw
      case rel => exact ⟨k + 1, by omega, by go_num, by first | exact hN | exact hN.drewN _⟩
      case measure => simp [intOf]; omega
    · go_wp2_with fail
      go_ret
      exact ⟨rfl, hN⟩

theorem bare_parts {p q : Pg} (h : p.bare = q.bare) : p.mem = q.mem ∧ p.ctr = q.ctr ∧ p.ins = q.ins ∧ p.outs = q.outs ∧ p.parts.map PartD.bare = q.parts.map PartD.bare ∧ p.lines.map LineD.bare = q.lines.map LineD.bare ∧ p.ops = q.ops := by
  unfold Pg.bare at h
  simp only [Pg.mk.injEq, true_and] at h
  obtain ⟨a, b, c, d, e, f, g⟩ := h
  exact ⟨a, b, c, d, e, f, g⟩
theorem map_at {α β : Type} {f : α → β} {l m : List α} (h : l.map f = m.map f) (k : Nat) (hk : k < l.length) (hm : k < m.length) : f l[k] = f m[k] := by
  have h1 : (l.map f)[k]? = (m.map f)[k]? := by rw [h]
  simpa [hk, hm] using h1

set_option maxRecDepth 100000 in
set_option maxHeartbeats 8000000 in
theorem sameProg_yes (w : World) (p q : Pg) (hp : PgAt w p) (hq : PgAt w q) (h : p.bare = q.bare) (hl : Lens p) :
    Calls Tryd.prog 13 #[p.v, q.v] w fun e w' => e = .returned (.bool true) ∧ New w w' := by
  obtain ⟨h1, h2, h3, h4, h5, h6, h7⟩ := bare_parts h
  have l5 : q.parts.length = p.parts.length := by have := congrArg List.length h5; simpa using this.symm
  have l6 : q.lines.length = p.lines.length := by have := congrArg List.length h6; simpa using this.symm
  clear h
  have hpo := hp.po
  have hpp := hp.pp
  have hpl := hp.pl
  have HPX := Lib.hid hp.px
  have HLX := Lib.hid hp.lx
  have hqo := hq.po
  have hqp := hq.pp
  have hql := hq.pl
  have HQX := Lib.hid hq.px
  have HMX := Lib.hid hq.lx
  clear hp hq
  obtain ⟨np, nl, no, npx, nlx⟩ := hl
  obtain ⟨pmem, pctr, pins, pouts, ppa, ppc, pparts, pla, plc, plines, poa, poc, pops⟩ := p
  obtain ⟨qmem, qctr, qins, qouts, qpa, qpc, qparts, qla, qlc, qlines, qoa, qoc, qops⟩ := q
  simp only at *
  subst h1 h2 h3 h4 h7
  simp only [Pg.v, Pg.cs]
  rw [l5, l6]
  have L5 := Lib.hid l5
  have L6 := Lib.hid l6
  have H5 := Lib.hid h5
  have H6 := Lib.hid h6
  have NPX := Lib.hid npx
  have NLX := Lib.hid nlx
  clear l5 l6 h5 h6 npx nlx
  have kA : New w ((w.alloc (.cells #[I pmem, I pctr, I pins, I pouts, .slice ppa pparts.length ppc, .slice pla plines.length plc, .slice poa pops.length poc] 39)).alloc (.cells #[I pmem, I pctr, I pins, I pouts, .slice qpa pparts.length qpc, .slice qla plines.length qlc, .slice qoa pops.length qoc] 39)) := ((New.refl w).alloc _).alloc _
  have b1 : ((w.alloc (.cells #[I pmem, I pctr, I pins, I pouts, .slice ppa pparts.length ppc, .slice pla plines.length plc, .slice poa pops.length poc] 39)).alloc (.cells #[I pmem, I pctr, I pins, I pouts, .slice qpa pparts.length qpc, .slice qla plines.length qlc, .slice qoa pops.length qoc] 39)).heap[w.heap.size]? = some (.cells #[I pmem, I pctr, I pins, I pouts, .slice ppa pparts.length ppc, .slice pla plines.length plc, .slice poa pops.length poc] 39 (0, 0)) := Keeps.heap (Keeps.alloc (S := fun _ => False) _ _) (heap_alloc_new w _) (fun h => h)
  have b2 : ((w.alloc (.cells #[I pmem, I pctr, I pins, I pouts, .slice ppa pparts.length ppc, .slice pla plines.length plc, .slice poa pops.length poc] 39)).alloc (.cells #[I pmem, I pctr, I pins, I pouts, .slice qpa pparts.length qpc, .slice qla plines.length qlc, .slice qoa pops.length qoc] 39)).heap[w.heap.size + 1]? = some (.cells #[I pmem, I pctr, I pins, I pouts, .slice qpa pparts.length qpc, .slice qla plines.length qlc, .slice qoa pops.length qoc] 39 (0, 0)) := by
    have := heap_alloc_new (w.alloc (.cells #[I pmem, I pctr, I pins, I pouts, .slice ppa pparts.length ppc, .slice pla plines.length plc, .slice poa pops.length poc] 39)) (.cells #[I pmem, I pctr, I pins, I pouts, .slice qpa pparts.length qpc, .slice qla plines.length qlc, .slice qoa pops.length qoc] 39)
    simpa using this
  go_enter Tryd.func13, Tryd.ntmps13
  go_wp2_with fail
  generalize ((w.alloc (.cells #[I pmem, I pctr, I pins, I pouts, .slice ppa pparts.length ppc, .slice pla plines.length plc, .slice poa pops.length poc] 39)).alloc (.cells #[I pmem, I pctr, I pins, I pouts, .slice qpa pparts.length qpc, .slice qla plines.length qlc, .slice qoa pops.length qoc] 39)) = W at kA b1 b2 ⊢
  have c4 := cell_of_block b1 4
  have c5 := cell_of_block b1 5
  have c6 := cell_of_block b1 6
  have d4 := cell_of_block b2 4
  have d5 := cell_of_block b2 5
  have d6 := cell_of_block b2 6
  simp only [List.getElem?_toArray, List.getElem?_cons_zero, List.getElem?_cons_succ] at c4 c5 c6 d4 d5 d6
  clear b1 b2
  go_loopw [5] (fun i wr => ∃ k : Nat, k ≤ pparts.length ∧ i = .int .i64 k ∧ New W wr) (fun i _ => pparts.length - (intOf i).toNat)
  case atStart => exact ⟨0, by omega, rfl, New.refl _⟩
  case round =>
    obtain ⟨k, hk, rfl, hN⟩ := hrel
    have e4 := hN.cell c4
    have f4 := hN.cell d4
    have hNw := kA.trans hN
    by_cases hk1 : k < pparts.length
    · have hk2 : k < qparts.length := by have := L5.out; omega
      obtain ⟨b1, o1, rfl, q0, q1⟩ := parts_at (hpp.new hNw) hk1
      obtain ⟨b2, o2, rfl, p0, p1⟩ := parts_at (hqp.new hNw) hk2
      have hx := (HPX.out _ (List.getElem_mem hk1)).new hNw
      have hy := (HQX.out _ (List.getElem_mem hk2)).new hNw
      have he := map_at H5.out k hk1 hk2
      have hxl := NPX.out _ (List.getElem_mem hk1)
      have hk0 : (k : Int) < (pparts.length : Int) := by omega
      generalize pparts[k] = x at q0 q1 hx he hxl
      generalize qparts[k] = y at p0 p1 hy he
      obtain ⟨xt, xa, xc, xs⟩ := x
      obtain ⟨yt, ya, yc, ys⟩ := y
      simp only [PartD.bare, PartD.mk.injEq, true_and] at he
      obtain ⟨rfl, rfl⟩ := he
      simp only at q0 q1 p0 p1 hx hy hxl
      go_wp2_with fail
      go_quiet ((go_at_call 24; exact Calls.quiet_of (sameInts_is _ _ _ _ _ _ _ _ _ (hx.drewN _) (hy.drewN _) rfl rfl true (decide_eq_true rfl) hxl)))
      go_wp2_with fail
      go_roundw
      case rel => exact ⟨k + 1, by omega, by go_num, by first | exact hN | exact hN.drewN _⟩
      case measure => simp [intOf]; omega
    · have e5 := hN.cell c5
      have f5 := hN.cell d5
      clear hk
      have hk9 : pparts.length ≤ k := by omega
      clear hk1
      go_wp2_with fail
      obtain ⟨wo, rfl⟩ : ∃ wo : World, wo = wr := ⟨_, rfl⟩
      clear hk9
      go_loopw [6] (fun i wr => ∃ k : Nat, k ≤ plines.length ∧ i = .int .i64 k ∧ New wo wr) (fun i _ => plines.length - (intOf i).toNat)
      case atStart => exact ⟨0, by omega, rfl, New.refl _⟩
      case round =>
        obtain ⟨k, hk, rfl, hN2⟩ := hrel
        have e5 := hN2.cell e5
        have f5 := hN2.cell f5
        have hNw2 := hNw.trans hN2
        by_cases hk1 : k < plines.length
        · have hk2 : k < qlines.length := by have := L6.out; omega
          obtain ⟨b1, o1, rfl, q0, q1, q2⟩ := lines_at (hpl.new hNw2) hk1
          obtain ⟨b2, o2, rfl, p0, p1, p2⟩ := lines_at (hql.new hNw2) hk2
          have hx := (HLX.out _ (List.getElem_mem hk1)).new hNw2
          have hy := (HMX.out _ (List.getElem_mem hk2)).new hNw2
          have he := map_at H6.out k hk1 hk2
          have hxl := NLX.out _ (List.getElem_mem hk1)
          have hk0 : (k : Int) < (plines.length : Int) := by omega
          generalize plines[k] = x at q0 q1 q2 hx he hxl
          generalize qlines[k] = y at p0 p1 p2 hy he
          obtain ⟨xb, xz, xa, xc, xs⟩ := x
          obtain ⟨yb, yz, ya, yc, ys⟩ := y
          simp only [LineD.bare, LineD.mk.injEq, true_and] at he
          obtain ⟨rfl, rfl, rfl⟩ := he
          simp only at q0 q1 q2 p0 p1 p2 hx hy hxl
          go_wp2_with fail
          go_quiet ((go_at_call 24; exact Calls.quiet_of (sameInts_is _ _ _ _ _ _ _ _ _ (hx.drewN _) (hy.drewN _) rfl rfl true (decide_eq_true rfl) hxl)))
          go_wp2_with fail
          go_roundw
          case rel => exact ⟨k + 1, by omega, by go_num, by first | exact hN2 | exact hN2.drewN _⟩
          case measure => simp [intOf]; omega
        · have e6 := hN2.cell (hN.cell c6)
          have f6 := hN2.cell (hN.cell d6)
          have hk9 : plines.length ≤ k := by omega
          clear hk hk1
          go_wp2_with fail
          refine (sameOps_yes _ _ _ _ _ pops (hpo.new hNw2) (hqo.new hNw2) no).mono ?_
          rintro e w2 ⟨rfl, k2⟩
          go_wp2_with fail
          go_ret
          exact ⟨rfl, hNw2.trans k2⟩
end Go.Proofs.YtfmpjbiaamkobaaDoor
