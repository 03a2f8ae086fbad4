/-
  'GraphChecks': the law returns true at every input; what it is handed reads afterwards as before.
-/
import Derived.Test.YtpljnapglbmdlaaRead
import Derived.Test.YtpljnapglbmdlaaReadGr
import Derived.Test.YtpljnapglbmdlaaGrH
import Derived.Test.YtpljnapglbmdlaaGrR
import Derived.Test.YtpljnapglbmdlaaGsH
import Derived.Test.YtpljnapglbmdlaaGsC
import Derived.Test.YtpljnapglbmdlaaGsD
namespace Go.Proofs.Ytpljnapglbmdlaa.graphChecks
open Go Go.RowKit Go.Joins Go.ChangeShapes Go.WideShapes Go.ChangeAt
open Go.ChangeMaps (open_string shut_string)
set_option linter.all false

set_option maxRecDepth 100000 in
set_option maxHeartbeats 16000000 in
theorem walk (w : World) (g0 : Gr) (hg0 : GrAt w g0) (hl0 : GLen g0) (hw0 : GWf g0) (hr0 : GRoom g0) :
    Calls Try.prog 3 #[g0.v] w fun e w' => e = .returned (.bool true) ∧ New w w' := by
  have HCL := Lib.hid (fun W (k : New w W) => rcheck_any W g0 (hg0.new k) hl0)
  have HHV := Lib.hid (fun W (k : New w W) => heavy_any W g0 (hg0.new k) hr0)
  simp only [Gr.v, Gr.cs] at HCL HHV ⊢
  go_enter Try.func3, Try.ntmps3
  have na : New w (w.alloc (.cells #[.string g0.name, .slice g0.aa g0.acts.length g0.ac, .slice g0.ea g0.edges.length g0.ec, .slice g0.ia g0.ins.length g0.ic, .slice g0.oa g0.outs.length g0.oc] 26)) := (New.refl w).alloc _
  have ha : (w.alloc (.cells #[.string g0.name, .slice g0.aa g0.acts.length g0.ac, .slice g0.ea g0.edges.length g0.ec, .slice g0.ia g0.ins.length g0.ic, .slice g0.oa g0.outs.length g0.oc] 26)).heap[w.heap.size]? = some (.cells #[.string g0.name, .slice g0.aa g0.acts.length g0.ac, .slice g0.ea g0.edges.length g0.ec, .slice g0.ia g0.ins.length g0.ic, .slice g0.oa g0.outs.length g0.oc] 26 (0, 0)) := heap_alloc_new w _
  go_wp2_with fail
  generalize (w.alloc (.cells #[.string g0.name, .slice g0.aa g0.acts.length g0.ac, .slice g0.ea g0.edges.length g0.ec, .slice g0.ia g0.ins.length g0.ic, .slice g0.oa g0.outs.length g0.oc] 26)) = wa at na ha ⊢
  have HB := Lib.hid ha
  clear ha
  refine (HHV.out wa na).mono ?_
  rintro e w1 ⟨he, k1⟩
  have hN1 := na.trans k1
  rcases he with rfl | ⟨rfl, hf⟩
  · go_wp2_with fail
    go_ret
    exact ⟨rfl, hN1⟩
  · have HB1 := Lib.hid (Keeps.heap k1 HB.out (fun h => h))
    clear HB HHV na k1
    obtain ⟨x0, x1, x2, x3, x4, hXl⟩ := gr_cells HB1.out
    go_wp2_with fail
    have hLG := lentGraph_any w1 g0 (hg0.new hN1) hf
    simp only [Gr.v, Gr.cs] at hLG
    refine hLG.mono ?_
    intro e w2 hL
    obtain ⟨q, rfl, hq, k2⟩ := hL.lended
    clear hL hLG x0 x1 x2 x3 x4 hXl
    have HB2 := Lib.hid (Keeps.heap k2 HB1.out (fun h => h))
    have hN2 := hN1.trans k2
    clear HB1 hN1 k2
    simp only [Gr.v, Gr.cs]
    obtain ⟨x0, x1, x2, x3, x4, hXl⟩ := gr_cells HB2.out
    go_wp2_with fail
    have kz : New w2 (w2.alloc (.cells #[.string q.name, .slice q.aa q.acts.length q.ac, .slice q.ea q.edges.length q.ec, .slice q.ia q.ins.length q.ic, .slice q.oa q.outs.length q.oc] 26)) := (New.refl w2).alloc _
    have hz : (w2.alloc (.cells #[.string q.name, .slice q.aa q.acts.length q.ac, .slice q.ea q.edges.length q.ec, .slice q.ia q.ins.length q.ic, .slice q.oa q.outs.length q.oc] 26)).heap[w2.heap.size]? = some (.cells #[.string q.name, .slice q.aa q.acts.length q.ac, .slice q.ea q.edges.length q.ec, .slice q.ia q.ins.length q.ic, .slice q.oa q.outs.length q.oc] 26 (0, 0)) := heap_alloc_new w2 _
    generalize (w2.alloc (.cells #[.string q.name, .slice q.aa q.acts.length q.ac, .slice q.ea q.edges.length q.ec, .slice q.ia q.ins.length q.ic, .slice q.oa q.outs.length q.oc] 26)) = w3 at kz hz  ⊢
    have hN3 := hN2.trans kz
    have hq3 := hq.new kz
    have HB3 := Lib.hid (Keeps.heap kz HB2.out (fun h => h))
    clear x0 x1 x2 x3 x4 hXl HB2 hN2 kz hq
    generalize w2.heap.size = B2 at hz ⊢
    obtain ⟨x0, x1, x2, x3, x4, hXl⟩ := gr_cells HB3.out
    obtain ⟨y0, y1, y2, y3, y4, hYl⟩ := gr_cells hz
    have hAW : ∀ W, New w3 W → Calls Try.prog 11 #[] W fun e w' => e = .returned (.bool true) ∧ New w3 w' := fun W k => (awake_any W).mono (fun e w' h => ⟨h.1, k.trans h.2⟩)
    have hC1 : ∀ W, New w3 W → Calls Try.prog 12 #[q.v] W fun e w' => e = .returned (I (findG g0).1) ∧ New w3 w' := fun W k => (ccheck_any W q (hq3.at.new k) (hl0.bare hq3.bare)).mono (fun e w' h => ⟨by rw [h.1, findG_same hq3.bare], k.trans h.2⟩)
    have hC2 : ∀ W, New w3 W → Calls Try.prog 13 #[g0.v] W fun e w' => e = .returned (I (findG g0).1) ∧ New w3 w' := fun W k => (rcheck_any W g0 (hg0.new (hN3.trans k)) hl0).mono (fun e w' h => ⟨h.1, k.trans h.2⟩)
    have hKG : ∀ W, New w3 W → Calls Try.prog 14 #[q.v, g0.v] W fun e w' => e = .returned (.bool true) ∧ New w3 w' := fun W k => (keptGraph_any W g0 q _ (hg0.new (hN3.trans k)) (hq3.new k) hf hl0).mono (fun e w' h => ⟨h.1, k.trans h.2⟩)
    simp only [Gr.v, Gr.cs] at hC1 hC2 hKG
    generalize (findG g0).1 = r at hC1 hC2
    go_region_held3 (fun w' => w'.cell? ⟨w.heap.size, 0, none⟩ = some (.string g0.name) ∧ w'.cell? ⟨w.heap.size, 1, none⟩ = some (.slice g0.aa g0.acts.length g0.ac) ∧ w'.cell? ⟨w.heap.size, 2, none⟩ = some (.slice g0.ea g0.edges.length g0.ec) ∧ w'.cell? ⟨w.heap.size, 3, none⟩ = some (.slice g0.ia g0.ins.length g0.ic) ∧ w'.cell? ⟨w.heap.size, 4, none⟩ = some (.slice g0.oa g0.outs.length g0.oc) ∧ w'.cell? ⟨B2, 0, none⟩ = some (.string q.name) ∧ w'.cell? ⟨B2, 1, none⟩ = some (.slice q.aa q.acts.length q.ac) ∧ w'.cell? ⟨B2, 2, none⟩ = some (.slice q.ea q.edges.length q.ec) ∧ w'.cell? ⟨B2, 3, none⟩ = some (.slice q.ia q.ins.length q.ic) ∧ w'.cell? ⟨B2, 4, none⟩ = some (.slice q.oa q.outs.length q.oc) ∧ New w3 w')
      ((refine ⟨New.cell (w := w3) ?_ x0, New.cell (w := w3) ?_ x1, New.cell (w := w3) ?_ x2, New.cell (w := w3) ?_ x3, New.cell (w := w3) ?_ x4, New.cell (w := w3) ?_ y0, New.cell (w := w3) ?_ y1, New.cell (w := w3) ?_ y2, New.cell (w := w3) ?_ y3, New.cell (w := w3) ?_ y4, ?_⟩ <;> (repeat (first | exact New.refl w3 | exact n7 | exact n6 | exact n5 | exact n4 | refine New.drew ?_))))
      ((first | (go_at_call 11; (first | refine (hAW _ (New.refl w3)).mono ?_ | refine (hAW _ ((New.refl w3).drew)).mono ?_); rintro e w4 ⟨rfl, n4⟩) | (go_at_call 12; (first | refine (hC1 _ n4).mono ?_ | refine (hC1 _ n4.drew).mono ?_); rintro e w5 ⟨rfl, n5⟩) | (go_at_call 13; (first | refine (hC2 _ n5).mono ?_ | refine (hC2 _ n5.drew).mono ?_); rintro e w6 ⟨rfl, n6⟩) | (go_at_call 14; (first | refine (hKG _ n6).mono ?_ | refine (hKG _ n6.drew).mono ?_); rintro e w7 ⟨rfl, n7⟩)))
    rename_i hHld
    obtain ⟨-, -, -, -, -, -, -, -, -, -, hNX⟩ := hHld
    simp only [Exit.then]
    go_wp2_with fail
    go_ret
    exact ⟨rfl, hN3.trans hNX⟩
set_option maxRecDepth 100000 in
theorem lifted (os : Os) (started : os.Started) (H : Type) (enc : TypeId × Value → H) :
    ReturnsInHanded {} Try.checked os 3 .any (Rows.graphChecksSpec.pre6 enc Try.prog Try.f3 Rows.graphChecksRow.domain false) (Rows.graphChecksSpec.post enc Try.prog Try.f3 false true false false) := by
  refine returnsInHanded_of_change_sized (C := Try.checked) own started (by kernel_rfl) Try.func3
    (ChangeSpec.witness6 (enc := enc) (C := Try.checked) false ⟨#[], #[.agg #[.string ByteArray.empty, .slice none 0 0, .slice none 0 0, .slice none 0 0, .slice none 0 0]], []⟩ 8 (by kernel_rfl) (by kernel_rfl) (by kernel_rfl) (by kernel_rfl)) ?_
  intro W base args ds gs before hval0 hW hcnd hsz0 _
  have hval : ∀ (j : Nat) t v, Try.f3.params[j]? = some t → args[j]? = some v → Value.okWide Try.prog W .any base t v := hval0
  have hsz : (DataW.weightsEach Try.prog (Try.f3.params.toList ++ Rows.graphChecksSpec.plain.varTypes Try.prog) (ds ++ gs)).all (· ≤ reachBytes) = true := hsz0
  clear hsz0
  have hW' := hW
  obtain ⟨p, q, hA0, hV, rfl, hfz, hnd⟩ := hW
  have hA : DataW.TrodAll enc Try.prog W 0 (fun _ => true) true Try.f3.params.toList args.toList ds p := hA0
  rw [Try.params3] at hA hval hsz
  obtain ⟨v0, vs0, d0, ds0, p0, q0, hargs, rfl, rfl, h0, r0'⟩ := trodAll_cons hA
  obtain ⟨rfl, rfl, rfl⟩ := trodAll_nil r0'
  obtain rfl : args = #[v0] := by cases args; simp_all
  obtain ⟨rfl, rfl⟩ := trodVars_none hV
  have k0 := h0
  have lt0 : ∀ x ∈ p0, x.block < W.heap.size := by obtain ⟨m, hm⟩ := k0; exact DataW.trod_lt m _ _ _ hm
  obtain ⟨g0', rfl, hg0, hl0, hw0, hr0⟩ := read_graph (hval 0 26 v0 rfl rfl) h0
  have hr0' : GRoom g0' := hr0 (fun m hm => of_decide_eq_true (List.all_eq_true.1 hsz m (DataW.weights_mem_each (j := 0) (t := 26) rfl rfl _ hm)))
  clear hA0 hval0
  refine (walk W g0' hg0 hl0 hw0 hr0').mono fun e W' ⟨he, hnew⟩ => ?_
  have bel := hnew.below
  subst he
  exact ⟨_, rfl, _, _, _, [], _, [], hW', trodAll_mk1 (shut_bool Try.underlying4 _), (trodAll_cons_mk (Below.trod laidOut (by kernel_rfl) (of_decide_eq_true (by kernel_rfl)) k0 bel lt0) trodAll_mk0), rfl, bel.frame _, fun h => by cases h⟩

theorem over : Rows.graphChecksRow.holds Try.pinned (OpenSpec.ofChange Rows.graphChecksSpec) :=
  OpenClaim.holds_of_wide 3 Try.f3 rfl rfl rfl rfl rfl rfl rfl ⟨rfl, rfl, rfl, rfl, rfl⟩ rfl rfl rfl rfl rfl (by kernel_rfl) Try.func3 (by kernel_rfl)
    (of_decide_eq_true (by kernel_rfl)) (by unfold Func.isWrapper; first | (rw [if_pos (by decide +kernel)]; kernel_rfl) | (rw [if_neg (by decide +kernel)]; exact ⟨rfl, rfl⟩))
    (fun os started H enc _ => lifted os started H enc)

/-- THE STATEMENT. -/
theorem proved : Rows.GraphChecksSaid := over
end Go.Proofs.Ytpljnapglbmdlaa.graphChecks
