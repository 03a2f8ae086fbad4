/-
  'GraphPorts': the law returns true at every input; what it is handed reads afterwards as before.
-/
import Derived.Test.YtpljnapglbmdlaaRead
import Derived.Test.YtpljnapglbmdlaaReadGr
import Derived.Test.YtpljnapglbmdlaaGrR
import Derived.Test.YtpljnapglbmdlaaGtA
import Derived.Test.YtpljnapglbmdlaaGtB
import Derived.Test.YtpljnapglbmdlaaGsC
import Derived.Test.YtpljnapglbmdlaaShapeO
import Derived.Test.YtpljnapglbmdlaaGrE
namespace Go.Proofs.Ytpljnapglbmdlaa.graphPorts
open Go Go.RowKit Go.Joins Go.ChangeShapes Go.WideShapes Go.ChangeAt
open Go.ChangeMaps (open_string shut_string)
set_option linter.all false

set_option maxRecDepth 100000 in
set_option maxHeartbeats 16000000 in
theorem walk (w : World) (g0 : Gr) (hg0 : GrAt w g0) (hl0 : GLen g0) (hw0 : GWf g0) :
    Calls Try.prog 6 #[g0.v] w fun e w' => e = .returned (.bool true) ∧ New w w' := by
  have HCH := Lib.hid (fun W (k : New w W) => ccheck_any W g0 (hg0.new k) hl0)
  have hla := hl0.a
  obtain ⟨aA, hA⟩ : ∃ a, g0.aa = a := ⟨_, rfl⟩
  obtain ⟨aE, hE⟩ : ∃ a, g0.ea = a := ⟨_, rfl⟩
  simp only [Gr.v, Gr.cs] at HCH ⊢
  rw [hA, hE] at HCH ⊢
  have HA := Lib.hid hA
  have HE := Lib.hid hE
  clear hA hE
  go_enter Try.func6, Try.ntmps6
  have na : New w (w.alloc (.cells #[.string g0.name, .slice aA g0.acts.length g0.ac, .slice aE g0.edges.length g0.ec, .slice g0.ia g0.ins.length g0.ic, .slice g0.oa g0.outs.length g0.oc] 26)) := (New.refl w).alloc _
  have ha : (w.alloc (.cells #[.string g0.name, .slice aA g0.acts.length g0.ac, .slice aE g0.edges.length g0.ec, .slice g0.ia g0.ins.length g0.ic, .slice g0.oa g0.outs.length g0.oc] 26)).heap[w.heap.size]? = some (.cells #[.string g0.name, .slice aA g0.acts.length g0.ac, .slice aE g0.edges.length g0.ec, .slice g0.ia g0.ins.length g0.ic, .slice g0.oa g0.outs.length g0.oc] 26 (0, 0)) := heap_alloc_new w _
  go_wp2_with fail
  generalize (w.alloc (.cells #[.string g0.name, .slice aA g0.acts.length g0.ac, .slice aE g0.edges.length g0.ec, .slice g0.ia g0.ins.length g0.ic, .slice g0.oa g0.outs.length g0.oc] 26)) = wa at na ha ⊢
  have HB := Lib.hid ha
  clear ha
  refine (HCH.out wa na).mono ?_
  rintro e w1 ⟨rfl, k1⟩
  have hN1 := na.trans k1
  have HB1 := Lib.hid (Keeps.heap k1 HB.out (fun h => h))
  clear HB HCH na k1
  by_cases hr : (findG g0).1 = 0
  case neg =>
    have hrd : ((findG g0).1 != 0) = true := by simpa using hr
    generalize (findG g0).1 = r at hrd hr ⊢
    go_wp2_with fail
    refine (awake_any w1).mono ?_
    rintro e w2 ⟨rfl, k2⟩
    go_wp2_with fail
    go_ret
    exact ⟨rfl, hN1.trans k2⟩
  obtain ⟨hF, hC⟩ := find_fair hr
  obtain ⟨hci, hco⟩ := hF.count hC
  have hna1 := hF.na1; have hna := hF.na; have hne := hF.ne; have hni := hF.ni; have hno := hF.no
  rw [hr]
  have HF := Lib.hid hF
  have HCI := Lib.hid hci
  have HCO := Lib.hid hco
  clear hr hC hF hci hco
  have HN1 := Lib.hid hN1
  clear hN1
  go_wp2_with fail
  go_loopw [3, 4, 5] (fun a b i wr => ∃ k : Nat, k ≤ g0.acts.length ∧ i = .int .i64 k ∧ a = .int .i64 (((g0.acts.take k).map nIn).sum : Nat) ∧ b = .int .i64 (((g0.acts.take k).map nOut).sum : Nat) ∧ New w1 wr) (fun _ _ i _ => g0.acts.length - (intOf i).toNat)
  case atStart => exact ⟨0, by omega, rfl, rfl, rfl, New.refl _⟩
  case round =>
    obtain ⟨k, hk, rfl, rfl, rfl, hN⟩ := hrel
    obtain ⟨c0, c1, c2, cI, cO, hCl⟩ := gr_cells (Keeps.heap hN HB1.out (fun h => h))
    have hNw := HN1.out.trans hN
    by_cases hk1 : k < g0.acts.length
    · obtain ⟨b, off, e1, q0, q1, q2⟩ := acts_at (hg0.new hNw).sa hk1
      have hbw : b < wr.heap.size := World.block_lt_of_cell? wr _ q0
      have hxs := (hg0.new hNw).ax _ (List.getElem_mem hk1)
      have hsh := HF.out.shp _ (List.getElem_mem hk1)
      have hxl := (shape_good hsh).2.2
      have HSI := sum_step nIn g0.acts k hk1
      have HSO := sum_step nOut g0.acts k hk1
      have hs1 : ((g0.acts.take (k + 1)).map nIn).sum ≤ 112 := by have := sum_le nIn g0.acts (k + 1); have := HCI.out; omega
      have hs2 : ((g0.acts.take (k + 1)).map nOut).sum ≤ 112 := by have := sum_le nOut g0.acts (k + 1); have := HCO.out; omega
      have hk0 : (k : Int) < (g0.acts.length : Int) := by omega
      have hkd : decide (k < g0.acts.length) = true := decide_eq_true hk1
      have hnI : nIn g0.acts[k] = (shapeS g0.acts[k].tag g0.acts[k].xs).2.1.length := rfl
      have hnO : nOut g0.acts[k] = (shapeS g0.acts[k].tag g0.acts[k].xs).2.2.length := rfl
      have hIn : ∀ W, New wr W → Calls Try.prog 22 #[.slice g0.acts[k].a g0.acts[k].xs.length g0.acts[k].c] W fun e w' => ∃ a' c', e = .returned (.slice a' g0.acts[k].xs.length c') ∧ SlAt w' a' (Is g0.acts[k].xs) ∧ New wr w' := fun W n => (rInts_any _ _ _ W (hxs.new n) (by omega)).mono (fun e w' h => by obtain ⟨a', c', h1, h2, h3⟩ := h; exact ⟨a', c', h1, h2.sl, n.trans h3⟩)
      have hOf : ∀ W a' c', New wr W → SlAt W a' (Is g0.acts[k].xs) → Calls Try.prog 21 #[.int .u8 g0.acts[k].tag, .slice a' g0.acts[k].xs.length c'] W fun e w' => ∃ a ca b cb, e = .returned (.tuple #[.slice a (nIn g0.acts[k]) ca, .slice b (nOut g0.acts[k]) cb, I 0]) ∧ New wr w' := fun W a' c' n hs => (shOf_any _ a' c' _ W hs (by omega)).mono (fun e w' h => by obtain ⟨a, ca, b, cb, h1, -, -, -, h2⟩ := h; rw [hsh] at h1; exact ⟨a, ca, b, cb, h1, n.trans h2⟩)
      have HNM : Hid (∀ j (hj : j < g0.acts.length), j < k → g0.acts[j].name ≠ g0.acts[k].name) := Lib.hid (fun j hj hjk => HF.out.names hk1 hjk)
      generalize nIn g0.acts[k] = n1 at HSI hnI hOf
      generalize nOut g0.acts[k] = n2 at HSO hnO hOf
      have HK := Lib.hid hk1
      generalize hxe : g0.acts[k] = x at q0 q1 q2 hxs hsh hxl hIn hOf hnI hnO HNM
      have HXE := Lib.hid hxe
      clear hxe hnI hnO hxs hsh
      have e1' : aA = some ⟨b, off, none⟩ := HA.out.symm.trans e1
      subst e1'
      clear e1
      generalize ((g0.acts.take k).map nIn).sum = s1 at HSI ⊢
      generalize ((g0.acts.take k).map nOut).sum = s2 at HSO ⊢
      have HS1 := Lib.hid HSI
      have HS2 := Lib.hid HSO
      rw [HSI] at hs1
      rw [HSO] at hs2
      clear HSI HSO
      go_wp2_with fail
      go_region_held3 (fun w' => w'.cell? ⟨w.heap.size, 1, none⟩ = some (.slice (some ⟨b, off, none⟩) g0.acts.length g0.ac) ∧ w'.cell? ⟨b, off + k * 3 + 1, none⟩ = some (.int .u8 x.tag) ∧ w'.cell? ⟨b, off + k * 3 + 2, none⟩ = some (.slice x.a x.xs.length x.c) ∧ New wr w')
        ((refine ⟨New.cell (w := wr) ?_ c1, New.cell (w := wr) ?_ q1, New.cell (w := wr) ?_ q2, ?_⟩ <;> (repeat (first | exact New.refl wr | exact n3 | exact n4 | refine New.drew ?_))))
        ((first | (go_at_call 22; (first | refine (hIn _ (New.refl wr)).mono ?_ | refine (hIn _ ((New.refl wr).drew)).mono ?_); rintro e w3 ⟨a3, c3, rfl, s3, n3⟩) | (go_at_call 21; (first | refine (hOf _ _ _ n3 s3).mono ?_ | refine (hOf _ _ _ n3.drew (s3.new ((New.refl _).drew))).mono ?_); rintro e w4 ⟨a4, c4, a5, c5, rfl, n4⟩)))
      rename_i hHld
      obtain ⟨-, -, -, hNX⟩ := hHld
      simp only [Exit.then]
      clear hIn hOf c0 c1 c2 cI cO hCl q0 q1 q2 hbw
      go_wp2_with fail
      have hN4 := hN.trans hNX
      have HB4 := Lib.hid (Keeps.heap hN4 HB1.out (fun h => h))
      have HN4 := Lib.hid hN4
      clear hN hNw hNX hN4 n3 s3 n4
      go_loopw [9] (fun i wq => ∃ j : Nat, j ≤ k ∧ i = .int .i64 j ∧ New w4 wq) (fun i _ => k - (intOf i).toNat)
      case atStart => exact ⟨0, by omega, rfl, New.refl _⟩
      case round =>
        obtain ⟨j, hj, rfl, hN⟩ := hrel
        obtain ⟨c0, c1, c2, cI, cO, hCl⟩ := gr_cells (Keeps.heap hN HB4.out (fun h => h))
        have hNw := HN1.out.trans (HN4.out.trans hN)
        by_cases hj1 : j < k
        · have hk1 := HK.out
          obtain ⟨b1, o1, e1, p0, -, -⟩ := acts_at (hg0.new hNw).sa (show j < g0.acts.length by omega)
          obtain ⟨b2, o2, e2, q0, -, -⟩ := acts_at (hg0.new hNw).sa hk1
          have e3 := HA.out.symm.trans e1
          have e4 := HA.out.symm.trans e2
          cases e3
          cases e4
          clear e1 e2
          have hnm := HNM.out j (by omega) hj1
          replace q0 := q0.trans (congrArg (fun z : GAct => some (Value.string z.name)) HXE.out)
          generalize g0.acts[j] = y at p0 hnm
          have hd1 : (y.name.toList == x.name.toList) = false := str_no hnm
          have hbw : b < wr.heap.size := World.block_lt_of_cell? wr _ q0
          have hj0 : (j : Int) < (k : Int) := by omega
          have hj2 : (j : Int) < (g0.acts.length : Int) := by omega
          have hjd : decide (j < k) = true := decide_eq_true hj1
          clear hnm
          go_wp2_with fail
          go_quiet (fail)
          go_wp2_with fail
          go_roundw
          case rel => exact ⟨j + 1, by omega, by go_num, by first | exact hN | exact hN.drewN _⟩
          case measure => simp [intOf]; omega
        · have hjd : decide (j < k) = false := decide_eq_false hj1
          go_wp2_with fail
          go_roundw
          case rel => exact ⟨k + 1, by have := HK.out; omega, by go_num, by rw [HS1.out, Int.natCast_add], by rw [HS2.out, Int.natCast_add], HN4.out.trans hN⟩
          case measure => have := HK.out; simp [intOf]; omega
    · have hke : k = g0.acts.length := by omega
      have hkd : decide (k < g0.acts.length) = false := decide_eq_false hk1
      have hkI : (g0.acts.length : Int) ≤ (k : Int) := by omega
      have hsI : ((g0.acts.take k).map nIn).sum = g0.edges.length + g0.ins.length := by rw [hke, List.take_length]; exact HCI.out.symm
      have hsO : ((g0.acts.take k).map nOut).sum = g0.edges.length + g0.outs.length := by rw [hke, List.take_length]; exact HCO.out.symm
      rw [hsI, hsO, Int.natCast_add, Int.natCast_add]
      have HB5 := Lib.hid (Keeps.heap hN HB1.out (fun h => h))
      have HN5 := Lib.hid hNw
      clear hke hk1 hsI hsO hN hNw HB1 HN1 HCI HCO hk
      obtain ⟨W5, rfl⟩ : ∃ z, z = wr := ⟨_, rfl⟩
      go_wp2_with fail
      clear c0 c1 c2 cI cO hCl
      go_loopw [10] (fun i wr => ∃ k : Nat, k ≤ g0.edges.length ∧ i = .int .i64 k ∧ New W5 wr) (fun i _ => g0.edges.length - (intOf i).toNat)
      case atStart => exact ⟨0, by omega, rfl, New.refl _⟩
      case round =>
        obtain ⟨k, hk, rfl, hN⟩ := hrel
        obtain ⟨c0, c1, c2, c3, c4, hCl⟩ := gr_cells (Keeps.heap hN HB5.out (fun h => h))
        have hNw := HN5.out.trans hN
        by_cases hk1 : k < g0.edges.length
        · obtain ⟨b, off, e1, q0, q1, q2, q3, q4⟩ := gedges_at (hg0.new hNw).se hk1
          have e1' : aE = some ⟨b, off, none⟩ := HE.out.symm.trans e1
          subst e1'
          clear e1
          have hbw : b < wr.heap.size := World.block_lt_of_cell? wr _ q0
          obtain ⟨⟨z1, z2, z3⟩, z4, z5, z6⟩ := HF.out.ends hk1
          have hln := HF.out.ln _ (List.getElem_mem hk1)
          have HED : Hid (∀ j (hj : j < g0.edges.length), j < k → ¬ (g0.edges[j].f = g0.edges[k].f ∧ g0.edges[j].fp = g0.edges[k].fp) ∧ ¬ (g0.edges[j].t = g0.edges[k].t ∧ g0.edges[j].tp = g0.edges[k].tp)) := Lib.hid (fun j hj hjk => HF.out.edges hk1 hjk)
          have hk0 : (k : Int) < (g0.edges.length : Int) := by omega
          have hkd : decide (k < g0.edges.length) = true := decide_eq_true hk1
          have HK := Lib.hid hk1
          generalize g0.edges[k] = x at q0 q1 q2 q3 q4 z1 z2 z3 z4 z5 z6 hln HED
          have d1 : decide (x.f < 0) = false := decide_eq_false (by omega)
          have d2 : decide ((g0.acts.length : Int) ≤ x.f) = false := decide_eq_false (by omega)
          have d3 : decide (x.t < 0) = false := decide_eq_false (by omega)
          have d4 : decide ((g0.acts.length : Int) ≤ x.t) = false := decide_eq_false (by omega)
          have d5 : decide (x.fp < 0) = false := decide_eq_false (by omega)
          have d6 : decide (x.tp < 0) = false := decide_eq_false (by omega)
          have d7 : decide ((256 : Int) < (x.xs.length : Int)) = false := decide_eq_false (by omega)
          go_wp2_with fail
          have kz : New wr (wr.alloc (.cells #[I x.f, I x.fp, I x.t, I x.tp, .slice x.a x.xs.length x.c] 58)) := (New.refl wr).alloc _
          have hz : (wr.alloc (.cells #[I x.f, I x.fp, I x.t, I x.tp, .slice x.a x.xs.length x.c] 58)).heap[wr.heap.size]? = some (.cells #[I x.f, I x.fp, I x.t, I x.tp, .slice x.a x.xs.length x.c] 58 (0, 0)) := heap_alloc_new wr _
          generalize (wr.alloc (.cells #[I x.f, I x.fp, I x.t, I x.tp, .slice x.a x.xs.length x.c] 58)) = w6 at kz hz  ⊢
          clear d1 d2 d3 d4 d5 d6 d7 z1 z2 z3 z4 z5 z6 hln q0 q1 q2 q3 q4 hbw c0 c1 c2 c3 c4 hCl
          have HN6 := Lib.hid (hN.trans kz)
          have HX := Lib.hid hz
          generalize wr.heap.size = B6 at HX ⊢
          clear hN hNw kz hz
          go_loopw [12] (fun i wr => ∃ j : Nat, j ≤ k ∧ i = .int .i64 j ∧ New w6 wr) (fun i _ => k - (intOf i).toNat)
          case atStart => exact ⟨0, by omega, rfl, New.refl _⟩
          case round =>
            obtain ⟨j, hj, rfl, hN⟩ := hrel
            obtain ⟨c0, c1, c2, c3, c4, hCl⟩ := gr_cells (Keeps.heap (HN6.out.trans hN) HB5.out (fun h => h))
            obtain ⟨x0, x1, x2, x3, x4, hXl⟩ := edge_cells (Keeps.heap hN HX.out (fun h => h))
            have hNw := HN5.out.trans (HN6.out.trans hN)
            by_cases hj1 : j < k
            · have hk1 := HK.out
              obtain ⟨b1, o1, e1, p0, p1, p2, p3, p4⟩ := gedges_at (hg0.new hNw).se (show j < g0.edges.length by omega)
              have e3 := HE.out.symm.trans e1
              cases e3
              clear e1
              have hun := HED.out j (by omega) hj1
              generalize g0.edges[j] = y at p0 p1 p2 p3 p4 hun
              have hbw : b < wr.heap.size := World.block_lt_of_cell? wr _ p0
              have hj0 : (j : Int) < (k : Int) := by omega
              have hj2 : (j : Int) < (g0.edges.length : Int) := by omega
              have hjd : decide (j < k) = true := decide_eq_true hj1
              by_cases g1 : x.f = y.f <;> by_cases g2 : x.t = y.t
              · have t5 : (x.f == y.f) = true := by simpa using g1
                have t6 : (x.t == y.t) = true := by simpa using g2
                have t3 : (x.fp == y.fp) = false := by rw [beq_eq_false_iff_ne]; exact fun e => hun.1 ⟨g1.symm, e.symm⟩
                have t4 : (x.tp == y.tp) = false := by rw [beq_eq_false_iff_ne]; exact fun e => hun.2 ⟨g2.symm, e.symm⟩
                clear hun
                go_wp2_with fail
                go_roundw
                case rel => exact ⟨j + 1, by omega, by go_num, hN.alloc _⟩
                case measure => simp [intOf]; omega
              · have t5 : (x.f == y.f) = true := by simpa using g1
                have t6 : (x.t == y.t) = false := by rw [beq_eq_false_iff_ne]; exact g2
                have t3 : (x.fp == y.fp) = false := by rw [beq_eq_false_iff_ne]; exact fun e => hun.1 ⟨g1.symm, e.symm⟩
                clear hun
                go_wp2_with fail
                go_roundw
                case rel => exact ⟨j + 1, by omega, by go_num, hN.alloc _⟩
                case measure => simp [intOf]; omega
              · have t5 : (x.f == y.f) = false := by rw [beq_eq_false_iff_ne]; exact g1
                have t6 : (x.t == y.t) = true := by simpa using g2
                have t4 : (x.tp == y.tp) = false := by rw [beq_eq_false_iff_ne]; exact fun e => hun.2 ⟨g2.symm, e.symm⟩
                clear hun
                go_wp2_with fail
                go_roundw
                case rel => exact ⟨j + 1, by omega, by go_num, hN.alloc _⟩
                case measure => simp [intOf]; omega
              · have t5 : (x.f == y.f) = false := by rw [beq_eq_false_iff_ne]; exact g1
                have t6 : (x.t == y.t) = false := by rw [beq_eq_false_iff_ne]; exact g2
                clear hun
                go_wp2_with fail
                go_roundw
                case rel => exact ⟨j + 1, by omega, by go_num, hN.alloc _⟩
                case measure => simp [intOf]; omega
            · have hjd : decide (j < k) = false := decide_eq_false hj1
              go_wp2_with fail
              go_roundw
              case rel => exact ⟨k + 1, by have := HK.out; omega, by go_num, HN6.out.trans hN⟩
              case measure => have := HK.out; simp [intOf]; omega
        · have hkd : decide (k < g0.edges.length) = false := decide_eq_false hk1
          have hkI : (g0.edges.length : Int) ≤ (k : Int) := by omega
          go_wp2_with fail
          refine (awake_any wr).mono ?_
          rintro e w2 ⟨rfl, k2⟩
          have HB7 := Lib.hid (Keeps.heap (hN.trans k2) HB5.out (fun h => h))
          clear c0 c1 c2 c3 c4 hCl
          obtain ⟨c0, c1, c2, c3, c4, hCl⟩ := gr_cells HB7.out
          have v1 : (1 : Int) ≤ (g0.acts.length : Int) := by omega
          have v2 : (g0.acts.length : Int) ≤ 32 := by omega
          have v3 : (g0.edges.length : Int) ≤ 96 := by omega
          have v4 : decide (1 ≤ g0.acts.length) = true := decide_eq_true (by omega)
          have v5 : decide (g0.acts.length ≤ 32) = true := decide_eq_true (by omega)
          have v6 : decide (g0.edges.length ≤ 96) = true := decide_eq_true (by omega)
          go_wp2_with fail
          go_ret
          exact ⟨rfl, hNw.trans k2⟩
set_option maxRecDepth 100000 in
theorem lifted (os : Os) (started : os.Started) (H : Type) (enc : TypeId × Value → H) :
    ReturnsInHanded {} Try.checked os 6 .any (Rows.graphPortsSpec.pre6 enc Try.prog Try.f6 Rows.graphPortsRow.domain false) (Rows.graphPortsSpec.post enc Try.prog Try.f6 false true false false) := by
  refine returnsInHanded_of_change (C := Try.checked) own started (by kernel_rfl) Try.func6
    (ChangeSpec.witness6 (enc := enc) (C := Try.checked) false ⟨#[], #[.agg #[.string ByteArray.empty, .slice none 0 0, .slice none 0 0, .slice none 0 0, .slice none 0 0]], []⟩ 8 (by kernel_rfl) (by kernel_rfl) (by kernel_rfl) (by kernel_rfl)) ?_
  intro W base args ds gs before hval0 hW hcnd _
  have hval : ∀ (j : Nat) t v, Try.f6.params[j]? = some t → args[j]? = some v → Value.okWide Try.prog W .any base t v := hval0
  have hW' := hW
  obtain ⟨p, q, hA0, hV, rfl, hfz, hnd⟩ := hW
  have hA : DataW.TrodAll enc Try.prog W 0 (fun _ => true) true Try.f6.params.toList args.toList ds p := hA0
  rw [Try.params6] at hA hval
  obtain ⟨v0, vs0, d0, ds0, p0, q0, hargs, rfl, rfl, h0, r0'⟩ := trodAll_cons hA
  obtain ⟨rfl, rfl, rfl⟩ := trodAll_nil r0'
  obtain rfl : args = #[v0] := by cases args; simp_all
  obtain ⟨rfl, rfl⟩ := trodVars_none hV
  have k0 := h0
  have lt0 : ∀ x ∈ p0, x.block < W.heap.size := by obtain ⟨m, hm⟩ := k0; exact DataW.trod_lt m _ _ _ hm
  obtain ⟨g0', rfl, hg0, hl0, hw0, hr0⟩ := read_graph (hval 0 26 v0 rfl rfl) h0
  clear hA0 hval0
  refine (walk W g0' hg0 hl0 hw0).mono fun e W' ⟨he, hnew⟩ => ?_
  have bel := hnew.below
  subst he
  exact ⟨_, rfl, _, _, _, [], _, [], hW', trodAll_mk1 (shut_bool Try.underlying4 _), (trodAll_cons_mk (Below.trod laidOut (by kernel_rfl) (of_decide_eq_true (by kernel_rfl)) k0 bel lt0) trodAll_mk0), rfl, bel.frame _, fun h => by cases h⟩

theorem over : Rows.graphPortsRow.holds Try.pinned (OpenSpec.ofChange Rows.graphPortsSpec) :=
  OpenClaim.holds_of_wide 6 Try.f6 rfl rfl rfl rfl rfl rfl rfl ⟨rfl, rfl, rfl, rfl, rfl⟩ rfl rfl rfl rfl rfl (by kernel_rfl) Try.func6 (by kernel_rfl)
    (of_decide_eq_true (by kernel_rfl)) (by unfold Func.isWrapper; first | (rw [if_pos (by decide +kernel)]; kernel_rfl) | (rw [if_neg (by decide +kernel)]; exact ⟨rfl, rfl⟩))
    (fun os started H enc _ => lifted os started H enc)

/-- THE STATEMENT. -/
theorem proved : Rows.GraphPortsSaid := over
end Go.Proofs.Ytpljnapglbmdlaa.graphPorts
