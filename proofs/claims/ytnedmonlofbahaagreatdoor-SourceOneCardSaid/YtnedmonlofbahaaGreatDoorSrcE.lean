/-
  Layer 9: what is told the same is the same.
-/
import Derived.Test.YtnedmonlofbahaaGreatDoorSrcC
namespace Go.Proofs.YtnedmonlofbahaaGreatDoor
open Go Go.RowKit Go.Joins
set_option linter.all false

theorem str_ne {x y : ByteArray} (h : x ≠ y) : (x.toList == y.toList) = false := by
  simp only [beq_eq_false_iff_ne, ne_eq]
  intro e
  rw [ByteArray.toList_eq, ByteArray.toList_eq] at e
  obtain ⟨⟨x⟩⟩ := x
  obtain ⟨⟨y⟩⟩ := y
  simp only at e
  exact h (by rw [e])
set_option maxRecDepth 100000 in
set_option maxHeartbeats 4000000 in
theorem samePorts_snd (w : World) (a b : Option Addr) (c d : Nat) (l m : List GPort) (ha : SlAt w a (l.flatMap portCells)) (hb : SlAt w b (m.flatMap portCells)) (hl : l.length ≤ 9223372036854775807) (hm : m.length ≤ 9223372036854775807) :
    Calls Tryz.prog 31 #[.slice a l.length c, .slice b m.length d] w fun e w' => (∃ r : Bool, e = .returned (.bool r) ∧ (r = true → l = m)) ∧ New w w' := by
  have HA := Lib.hid ha
  have HB := Lib.hid hb
  clear ha hb
  by_cases hn : l.length = m.length
  case neg =>
    have hd : ((l.length : Int) != (m.length : Int)) = true := by simp; omega
    have hd2 : ((l.length : Int) == (m.length : Int)) = false := by simp; omega
    have hd3 : (l.length != m.length) = true := by simp; omega
    go_enter Tryz.func31, Tryz.ntmps31
    go_wp2_with fail
    (try go_ret)
    exact ⟨⟨false, rfl, fun h => by cases h⟩, New.refl w⟩
  case pos =>
  rw [← hn]
  have HN := Lib.hid hn
  clear hn hm
  go_enter Tryz.func31, Tryz.ntmps31
  go_wp2_with fail
  go_loopw [5] (fun i wr => ∃ k : Nat, k ≤ l.length ∧ i = .int .i64 k ∧ New w wr ∧ Hid (l.take k = m.take k)) (fun i _ => l.length - (intOf i).toNat)
  case atStart => exact ⟨0, by omega, rfl, New.refl _, Lib.hid (by simp)⟩
  case round =>
    obtain ⟨k, hk, rfl, hN, HT⟩ := hrel
    by_cases hk1 : k < l.length
    · have hk2 : k < m.length := by have := HN.out; omega
      obtain ⟨b1, o1, e1, q0, q1, q2⟩ := ports_at (HA.out.new hN) hk1
      obtain ⟨b2, o2, e2, p0, p1, p2⟩ := ports_at (HB.out.new hN) hk2
      subst e1 e2
      have hb1 : b1 < wr.heap.size := World.block_lt_of_cell? wr _ q0
      have hb2 : b2 < wr.heap.size := World.block_lt_of_cell? wr _ p0
      have hk0 : (k : Int) < (l.length : Int) := by omega
      have hkd : decide (k < l.length) = true := decide_eq_true hk1
      have hnext : l[k] = m[k] → l.take (k + 1) = m.take (k + 1) := fun e => by
        rw [List.take_succ_eq_append_getElem hk1, List.take_succ_eq_append_getElem hk2, HT.out, e]
      have HX := Lib.hid hnext
      clear hnext
      generalize l[k] = x at q0 q1 q2 HX
      generalize m[k] = y at p0 p1 p2 HX
      obtain ⟨xn, xa, xp⟩ := x
      obtain ⟨yn, ya, yp⟩ := y
      simp only at q0 q1 q2 p0 p1 p2
      by_cases he : xn = yn ∧ xa = ya ∧ xp = yp
      · obtain ⟨rfl, rfl, rfl⟩ := he
        go_wp2_with fail
        go_quiet (fail)
        go_wp2_with fail
        go_roundw
        case rel => exact ⟨k + 1, by omega, by go_num, by first | exact hN | exact hN.drewN _ | (repeat (first | exact hN | refine New.alloc ?_ _ | refine New.drew ?_)), Lib.hid (HX.out (by first | trivial | rfl))⟩
        case measure => simp [intOf]; omega
      · have hgo : (xn.toList == yn.toList) = false ∨ (xn = yn ∧ (xa == ya) = false) ∨ (xn = yn ∧ xa = ya ∧ (xp == yp) = false) := by
          by_cases h1 : xn = yn
          · by_cases h2 : xa = ya
            · exact .inr (.inr ⟨h1, h2, by simpa using fun h3 => he ⟨h1, h2, h3⟩⟩)
            · exact .inr (.inl ⟨h1, by simpa using h2⟩)
          · exact .inl (str_ne h1)
        clear he HX
        rcases hgo with h1 | ⟨rfl, h2⟩ | ⟨rfl, rfl, h3⟩
        all_goals
          go_wp2_with fail
          go_quiet (fail)
          go_wp2_with fail
          (try go_ret)
          exact ⟨⟨false, rfl, fun h => by cases h⟩, by first | exact hN | exact hN.drewN _ | (repeat (first | exact hN | refine New.alloc ?_ _ | refine New.drew ?_))⟩
    · have hkd : decide (k < l.length) = false := decide_eq_false hk1
      have hfin : l = m := by
        have h1 := HT.out
        have h2 := HN.out
        rw [List.take_of_length_le (by omega), List.take_of_length_le (by omega)] at h1
        exact h1
      clear HT
      have HFI := Lib.hid hfin
      clear hfin
      go_wp2_with fail
      (try go_ret)
      exact ⟨⟨true, rfl, fun _ => HFI.out⟩, hN⟩
set_option maxRecDepth 100000 in
set_option maxHeartbeats 16000000 in
theorem sameGraph_snd (w : World) (p q : Gr) (hp : GrAt w p) (hq : GrAt w q) (hl : GLen p) (hm : GLen q) :
    Calls Tryz.prog 13 #[p.v, q.v] w fun e w' => (∃ r : Bool, e = .returned (.bool r) ∧ (r = true → p.bare = q.bare)) ∧ New w w' := by
  have hpsa := Lib.hid hp.sa
  have hpse := Lib.hid hp.se
  have hpsi := Lib.hid hp.si
  have hpso := Lib.hid hp.so
  have hpax := Lib.hid hp.ax
  have hpex := Lib.hid hp.ex
  have hqsa := Lib.hid hq.sa
  have hqse := Lib.hid hq.se
  have hqsi := Lib.hid hq.si
  have hqso := Lib.hid hq.so
  have hqax := Lib.hid hq.ax
  have hqex := Lib.hid hq.ex
  have la := hl.a
  have le := hl.e
  have LI := Lib.hid (And.intro hl.i hm.i)
  have LO := Lib.hid (And.intro hl.o hm.o)
  have lax := Lib.hid hl.ax
  have lex := Lib.hid hl.ex
  clear hp hq hl hm
  obtain ⟨pn, paa, pac, pacts, pea, pec, pedges, pia, pic, pins, poa, poc, pouts⟩ := p
  obtain ⟨qn, qaa, qac, qacts, qea, qec, qedges, qia, qic, qins, qoa, qoc, qouts⟩ := q
  simp only at *
  have HBA : Hid (pn = qn → pacts.map GAct.bare = qacts.map GAct.bare → pedges.map GEdge.bare = qedges.map GEdge.bare → pins = qins → pouts = qouts → Gr.bare ⟨pn, paa, pac, pacts, pea, pec, pedges, pia, pic, pins, poa, poc, pouts⟩ = Gr.bare ⟨qn, qaa, qac, qacts, qea, qec, qedges, qia, qic, qins, qoa, qoc, qouts⟩) := Lib.hid (fun a b c d e => by unfold Gr.bare; simp only; rw [a, b, c, d, e])
  generalize (Gr.bare ⟨pn, paa, pac, pacts, pea, pec, pedges, pia, pic, pins, poa, poc, pouts⟩ = Gr.bare ⟨qn, qaa, qac, qacts, qea, qec, qedges, qia, qic, qins, qoa, qoc, qouts⟩) = BA at HBA ⊢
  simp only [Gr.v, Gr.cs]
  by_cases hnm : pn = qn
  case neg =>
    have f1 := str_ne hnm
    have f2 : (pn.toList != qn.toList) = true := by simp [bne, f1]
    clear HBA hnm
    go_enter Tryz.func13, Tryz.ntmps13
    go_wp2_with fail
    (try go_ret)
    exact ⟨⟨false, rfl, fun h => by cases h⟩, ((New.refl w).alloc _).alloc _⟩
  case pos =>
  subst hnm
  by_cases hla : pacts.length = qacts.length
  case neg =>
    have f1 : ((pacts.length : Int) == (qacts.length : Int)) = false := by simp; omega
    have f2 : ((pacts.length : Int) != (qacts.length : Int)) = true := by simp; omega
    have f3 : (pacts.length != qacts.length) = true := by simp; omega
    clear HBA hla
    go_enter Tryz.func13, Tryz.ntmps13
    go_wp2_with fail
    (try go_ret)
    exact ⟨⟨false, rfl, fun h => by cases h⟩, ((New.refl w).alloc _).alloc _⟩
  case pos =>
  by_cases hle : pedges.length = qedges.length
  case neg =>
    have f1 : ((pedges.length : Int) == (qedges.length : Int)) = false := by simp; omega
    have f2 : ((pedges.length : Int) != (qedges.length : Int)) = true := by simp; omega
    have f3 : (pedges.length != qedges.length) = true := by simp; omega
    clear HBA hle
    rw [← hla]
    clear hla
    go_enter Tryz.func13, Tryz.ntmps13
    go_wp2_with fail
    (try go_ret)
    exact ⟨⟨false, rfl, fun h => by cases h⟩, ((New.refl w).alloc _).alloc _⟩
  case pos =>
  rw [← hla, ← hle]
  have L2 := Lib.hid hla
  have L3 := Lib.hid hle
  clear hla hle
  go_enter Tryz.func13, Tryz.ntmps13
  have na : New w (w.alloc (.cells #[.string pn, .slice paa pacts.length pac, .slice pea pedges.length pec, .slice pia pins.length pic, .slice poa pouts.length poc] 26)) := (New.refl w).alloc _
  have ha : (w.alloc (.cells #[.string pn, .slice paa pacts.length pac, .slice pea pedges.length pec, .slice pia pins.length pic, .slice poa pouts.length poc] 26)).heap[w.heap.size]? = some (.cells #[.string pn, .slice paa pacts.length pac, .slice pea pedges.length pec, .slice pia pins.length pic, .slice poa pouts.length poc] 26 (0, 0)) := heap_alloc_new w _
  have sa : (w.alloc (.cells #[.string pn, .slice paa pacts.length pac, .slice pea pedges.length pec, .slice pia pins.length pic, .slice poa pouts.length poc] 26)).heap.size = w.heap.size + 1 := size_alloc _ _
  have nb : New (w.alloc (.cells #[.string pn, .slice paa pacts.length pac, .slice pea pedges.length pec, .slice pia pins.length pic, .slice poa pouts.length poc] 26)) ((w.alloc (.cells #[.string pn, .slice paa pacts.length pac, .slice pea pedges.length pec, .slice pia pins.length pic, .slice poa pouts.length poc] 26)).alloc (.cells #[.string pn, .slice qaa pacts.length qac, .slice qea pedges.length qec, .slice qia qins.length qic, .slice qoa qouts.length qoc] 26)) := (New.refl _).alloc _
  have hb : ((w.alloc (.cells #[.string pn, .slice paa pacts.length pac, .slice pea pedges.length pec, .slice pia pins.length pic, .slice poa pouts.length poc] 26)).alloc (.cells #[.string pn, .slice qaa pacts.length qac, .slice qea pedges.length qec, .slice qia qins.length qic, .slice qoa qouts.length qoc] 26)).heap[w.heap.size + 1]? = some (.cells #[.string pn, .slice qaa pacts.length qac, .slice qea pedges.length qec, .slice qia qins.length qic, .slice qoa qouts.length qoc] 26 (0, 0)) := by
    have := heap_alloc_new (w.alloc (.cells #[.string pn, .slice paa pacts.length pac, .slice pea pedges.length pec, .slice pia pins.length pic, .slice poa pouts.length poc] 26)) (.cells #[.string pn, .slice qaa pacts.length qac, .slice qea pedges.length qec, .slice qia qins.length qic, .slice qoa qouts.length qoc] 26)
    rw [sa] at this; exact this
  replace ha := Keeps.heap nb ha (fun h => h)
  have kA := na.trans nb
  clear na nb sa
  go_wp2_with fail
  generalize ((w.alloc (.cells #[.string pn, .slice paa pacts.length pac, .slice pea pedges.length pec, .slice pia pins.length pic, .slice poa pouts.length poc] 26)).alloc (.cells #[.string pn, .slice qaa pacts.length qac, .slice qea pedges.length qec, .slice qia qins.length qic, .slice qoa qouts.length qoc] 26)) = W at ha hb kA ⊢
  have HA := Lib.hid ha
  have HB := Lib.hid hb
  clear ha hb
  go_loopw [5] (fun i wr => ∃ k : Nat, k ≤ pacts.length ∧ i = .int .i64 k ∧ New W wr ∧ Hid ((pacts.map GAct.bare).take k = (qacts.map GAct.bare).take k)) (fun i _ => pacts.length - (intOf i).toNat)
  case atStart => exact ⟨0, by omega, rfl, New.refl _, Lib.hid (by simp)⟩
  case round =>
    obtain ⟨k, hk, rfl, hN, HT⟩ := hrel
    obtain ⟨c0, c1, c2, c3, c4, hCl⟩ := gr_cells (Keeps.heap hN HA.out (fun h => h))
    obtain ⟨d0, d1, d2, d3, d4, hDl⟩ := gr_cells (Keeps.heap hN HB.out (fun h => h))
    have hNw := kA.trans hN
    by_cases hk1 : k < pacts.length
    · have hk2 : k < qacts.length := by have := L2.out; omega
      obtain ⟨b1, o1, e1, q0, q1, q2⟩ := acts_at (hpsa.out.new hNw) hk1
      obtain ⟨b2, o2, e2, p0, p1, p2⟩ := acts_at (hqsa.out.new hNw) hk2
      subst e1 e2
      have hb1 : b1 < wr.heap.size := World.block_lt_of_cell? wr _ q0
      have hb2 : b2 < wr.heap.size := World.block_lt_of_cell? wr _ p0
      have hx := fun W (n : New wr W) => (hpax.out _ (List.getElem_mem hk1)).new (hNw.trans n)
      have hy := fun W (n : New wr W) => (hqax.out _ (List.getElem_mem hk2)).new (hNw.trans n)
      have hxl := (lax.out _ (List.getElem_mem hk1)).1
      have hk0 : (k : Int) < (pacts.length : Int) := by omega
      have hkd : decide (k < pacts.length) = true := decide_eq_true hk1
      have HX : Hid (pacts[k].bare = qacts[k].bare → (pacts.map GAct.bare).take (k + 1) = (qacts.map GAct.bare).take (k + 1)) := Lib.hid (fun e => by
        rw [List.take_succ_eq_append_getElem (by simpa using hk1), List.take_succ_eq_append_getElem (by simpa using hk2), HT.out, List.getElem_map, List.getElem_map, e])
      generalize pacts[k] = x at q0 q1 q2 hx hxl HX
      generalize qacts[k] = y at p0 p1 p2 hy HX
      obtain ⟨xn, xt, xa, xc, xs⟩ := x
      obtain ⟨yn, yt, ya, yc, ys⟩ := y
      simp only at q0 q1 q2 p0 p1 p2 hx hy hxl
      have hsi : ∀ W (n : New wr W) (b : Bool) (h : decide (xs = ys) = b), Calls Tryz.prog 30 #[.slice xa xs.length xc, .slice ya ys.length yc] W fun e w' => e = .returned (.bool b) ∧ ∃ n, w' = W.drewN n := fun W n b h => sameInts_is W _ _ _ _ _ _ _ _ (hx W n) (hy W n) rfl rfl b h hxl
      clear hx hy
      by_cases h1 : xn = yn
      case neg =>
        have f1 := str_ne h1
        have f2 : (xn.toList != yn.toList) = true := by simp [bne, f1]
        clear HX h1 hsi
        go_wp2_with fail
        (try go_ret)
        exact ⟨⟨false, rfl, fun h => by cases h⟩, (hNw.alloc _).alloc _⟩
      case pos =>
      subst h1
      by_cases h2 : xt = yt
      case neg =>
        have f1 : (xt == yt) = false := by simpa using h2
        have f2 : (xt != yt) = true := by simpa using h2
        clear HX h2 hsi
        go_wp2_with fail
        (try go_ret)
        exact ⟨⟨false, rfl, fun h => by cases h⟩, (hNw.alloc _).alloc _⟩
      case pos =>
      subst h2
      by_cases h3 : xs = ys
      case neg =>
        have hs0 := fun W n => hsi W n false (decide_eq_false h3)
        clear HX h3 hsi
        go_wp2_with fail
        refine (hs0 _ (((New.refl wr).alloc _).alloc _)).mono ?_
        rintro e w9 ⟨rfl, n9, rfl⟩
        go_wp2_with fail
        (try go_ret)
        exact ⟨⟨false, rfl, fun h => by cases h⟩, ((hNw.alloc _).alloc _).drewN _⟩
      case pos =>
      subst h3
      have hs0 := fun W n => hsi W n true (decide_eq_true rfl)
      have HT2 := Lib.hid (HX.out rfl)
      clear HX hsi
      go_wp2_with fail
      refine (hs0 _ (((New.refl wr).alloc _).alloc _)).mono ?_
      rintro e w9 ⟨rfl, n9, rfl⟩
      go_wp2_with fail
      go_roundw
      case rel => exact ⟨k + 1, by omega, by go_num, ((hN.alloc _).alloc _).drewN _, HT2⟩
      case measure => simp [intOf]; omega
    · have hkd : decide (k < pacts.length) = false := decide_eq_false hk1
      have HAC : Hid (pacts.map GAct.bare = qacts.map GAct.bare) := Lib.hid (by
        have h1 := HT.out
        have h2 := L2.out
        rw [List.take_of_length_le (by simp; omega), List.take_of_length_le (by simp; omega)] at h1
        exact h1)
      clear hk hk1 HT
      replace kA := kA.trans hN
      have HA2 := Lib.hid (Keeps.heap hN HA.out (fun h => h))
      have HB2 := Lib.hid (Keeps.heap hN HB.out (fun h => h))
      replace HA := HA2
      replace HB := HB2
      clear HA2 HB2 hN
      go_wp2_with fail
      clear c0 c1 c2 c3 c4 hCl d0 d1 d2 d3 d4 hDl
      obtain ⟨v1, hv1⟩ : ∃ v, v = wr := ⟨_, rfl⟩
      subst hv1
      go_loopw [8] (fun i wr => ∃ k : Nat, k ≤ pedges.length ∧ i = .int .i64 k ∧ New v1 wr ∧ Hid ((pedges.map GEdge.bare).take k = (qedges.map GEdge.bare).take k)) (fun i _ => pedges.length - (intOf i).toNat)
      case atStart => exact ⟨0, by omega, rfl, New.refl _, Lib.hid (by simp)⟩
      case round =>
        obtain ⟨k, hk, rfl, hN, HT⟩ := hrel
        obtain ⟨c0, c1, c2, c3, c4, hCl⟩ := gr_cells (Keeps.heap hN HA.out (fun h => h))
        obtain ⟨d0, d1, d2, d3, d4, hDl⟩ := gr_cells (Keeps.heap hN HB.out (fun h => h))
        have hNw := kA.trans hN
        by_cases hk1 : k < pedges.length
        · have hk2 : k < qedges.length := by have := L3.out; omega
          obtain ⟨b1, o1, e1, q0, q1, q2, q3, q4⟩ := gedges_at (hpse.out.new hNw) hk1
          obtain ⟨b2, o2, e2, p0, p1, p2, p3, p4⟩ := gedges_at (hqse.out.new hNw) hk2
          subst e1 e2
          have hb1 : b1 < wr.heap.size := World.block_lt_of_cell? wr _ q0
          have hb2 : b2 < wr.heap.size := World.block_lt_of_cell? wr _ p0
          have hx := fun W (n : New wr W) => (hpex.out _ (List.getElem_mem hk1)).new (hNw.trans n)
          have hy := fun W (n : New wr W) => (hqex.out _ (List.getElem_mem hk2)).new (hNw.trans n)
          have hxl := (lex.out _ (List.getElem_mem hk1))
          have hk0 : (k : Int) < (pedges.length : Int) := by omega
          have hkd : decide (k < pedges.length) = true := decide_eq_true hk1
          have HX : Hid (pedges[k].bare = qedges[k].bare → (pedges.map GEdge.bare).take (k + 1) = (qedges.map GEdge.bare).take (k + 1)) := Lib.hid (fun e => by
            rw [List.take_succ_eq_append_getElem (by simpa using hk1), List.take_succ_eq_append_getElem (by simpa using hk2), HT.out, List.getElem_map, List.getElem_map, e])
          generalize pedges[k] = x at q0 q1 q2 q3 q4 hx hxl HX
          generalize qedges[k] = y at p0 p1 p2 p3 p4 hy HX
          obtain ⟨xf, xfp, xt, xtp, xa, xc, xs⟩ := x
          obtain ⟨yf, yfp, yt, ytp, ya, yc, ys⟩ := y
          simp only at q0 q1 q2 q3 q4 p0 p1 p2 p3 p4 hx hy hxl
          have hsi : ∀ W (n : New wr W) (b : Bool) (h : decide (xs = ys) = b), Calls Tryz.prog 30 #[.slice xa xs.length xc, .slice ya ys.length yc] W fun e w' => e = .returned (.bool b) ∧ ∃ n, w' = W.drewN n := fun W n b h => sameInts_is W _ _ _ _ _ _ _ _ (hx W n) (hy W n) rfl rfl b h hxl
          clear hx hy
          by_cases h1 : xf = yf
          case neg =>
            have f1 : (xf == yf) = false := by simpa using h1
            have f2 : (xf != yf) = true := by simpa using h1
            clear HX h1 hsi
            go_wp2_with fail
            (try go_ret)
            exact ⟨⟨false, rfl, fun h => by cases h⟩, (hNw.alloc _).alloc _⟩
          case pos =>
          subst h1
          by_cases h1 : xfp = yfp
          case neg =>
            have f1 : (xfp == yfp) = false := by simpa using h1
            have f2 : (xfp != yfp) = true := by simpa using h1
            clear HX h1 hsi
            go_wp2_with fail
            (try go_ret)
            exact ⟨⟨false, rfl, fun h => by cases h⟩, (hNw.alloc _).alloc _⟩
          case pos =>
          subst h1
          by_cases h1 : xt = yt
          case neg =>
            have f1 : (xt == yt) = false := by simpa using h1
            have f2 : (xt != yt) = true := by simpa using h1
            clear HX h1 hsi
            go_wp2_with fail
            (try go_ret)
            exact ⟨⟨false, rfl, fun h => by cases h⟩, (hNw.alloc _).alloc _⟩
          case pos =>
          subst h1
          by_cases h1 : xtp = ytp
          case neg =>
            have f1 : (xtp == ytp) = false := by simpa using h1
            have f2 : (xtp != ytp) = true := by simpa using h1
            clear HX h1 hsi
            go_wp2_with fail
            (try go_ret)
            exact ⟨⟨false, rfl, fun h => by cases h⟩, (hNw.alloc _).alloc _⟩
          case pos =>
          subst h1
          by_cases h3 : xs = ys
          case neg =>
            have hs0 := fun W n => hsi W n false (decide_eq_false h3)
            clear HX h3 hsi
            go_wp2_with fail
            refine (hs0 _ (((New.refl wr).alloc _).alloc _)).mono ?_
            rintro e w9 ⟨rfl, n9, rfl⟩
            go_wp2_with fail
            (try go_ret)
            exact ⟨⟨false, rfl, fun h => by cases h⟩, ((hNw.alloc _).alloc _).drewN _⟩
          case pos =>
          subst h3
          have hs0 := fun W n => hsi W n true (decide_eq_true rfl)
          have HT2 := Lib.hid (HX.out rfl)
          clear HX hsi
          go_wp2_with fail
          refine (hs0 _ (((New.refl wr).alloc _).alloc _)).mono ?_
          rintro e w9 ⟨rfl, n9, rfl⟩
          go_wp2_with fail
          go_roundw
          case rel => exact ⟨k + 1, by omega, by go_num, ((hN.alloc _).alloc _).drewN _, HT2⟩
          case measure => simp [intOf]; omega
        · have hkd : decide (k < pedges.length) = false := decide_eq_false hk1
          have HED : Hid (pedges.map GEdge.bare = qedges.map GEdge.bare) := Lib.hid (by
            have h1 := HT.out
            have h2 := L3.out
            rw [List.take_of_length_le (by simp; omega), List.take_of_length_le (by simp; omega)] at h1
            exact h1)
          clear hk hk1 HT
          have hpi := fun W (n : New wr W) => samePorts_snd W pia qia pic qic pins qins (hpsi.out.new (hNw.trans n)) (hqsi.out.new (hNw.trans n)) LI.out.1 LI.out.2
          have hpo := fun W (n : New wr W) => samePorts_snd W poa qoa poc qoc pouts qouts (hpso.out.new (hNw.trans n)) (hqso.out.new (hNw.trans n)) LO.out.1 LO.out.2
          have HAw := Lib.hid (Keeps.heap hN HA.out (fun h => h))
          have HBw := Lib.hid (Keeps.heap hN HB.out (fun h => h))
          go_wp2_with fail
          refine (hpi _ (New.refl _)).mono ?_
          rintro e w8 ⟨⟨r1, rfl, hr1⟩, n8⟩
          cases r1 with
          | false =>
            clear hr1 hpo hpi
            go_wp2_with fail
            (try go_ret)
            exact ⟨⟨false, rfl, fun h => by cases h⟩, hNw.trans n8⟩
          | true =>
          have HI := Lib.hid (hr1 rfl)
          clear c0 c1 c2 c3 c4 hCl d0 d1 d2 d3 d4 hDl hr1 hpi
          obtain ⟨c0, c1, c2, c3, c4, hCl⟩ := gr_cells (Keeps.heap n8 HAw.out (fun h => h))
          obtain ⟨d0, d1, d2, d3, d4, hDl⟩ := gr_cells (Keeps.heap n8 HBw.out (fun h => h))
          go_wp2_with fail
          refine (hpo _ n8).mono ?_
          rintro e w9 ⟨⟨r2, rfl, hr2⟩, n9⟩
          have HO := Lib.hid hr2
          clear hr2 hpo
          go_wp2_with fail
          (try go_ret)
          exact ⟨⟨r2, rfl, fun h => HBA.out (by first | trivial | rfl) HAC.out HED.out HI.out (HO.out h)⟩, (hNw.trans n8).trans n9⟩
theorem sameGraph_any (w : World) (p q : Gr) (hp : GrAt w p) (hq : GrAt w q) (hl : GLen p) (hm : GLen q) :
    Calls Tryz.prog 13 #[p.v, q.v] w fun e w' => (∃ r : Bool, e = .returned (.bool r) ∧ (r = true ↔ p.bare = q.bare)) ∧ New w w' := by
  by_cases h : p.bare = q.bare
  · refine (sameGraph_yes w p q hp hq h hl).mono ?_
    rintro e w' ⟨rfl, n⟩
    exact ⟨⟨true, rfl, fun _ => h, fun _ => rfl⟩, n⟩
  · refine (sameGraph_snd w p q hp hq hl hm).mono ?_
    rintro e w' ⟨⟨r, rfl, hr⟩, n⟩
    exact ⟨⟨r, rfl, hr, fun e => absurd e h⟩, n⟩
end Go.Proofs.YtnedmonlofbahaaGreatDoor
