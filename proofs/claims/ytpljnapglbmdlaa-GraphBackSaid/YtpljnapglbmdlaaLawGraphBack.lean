/-
  'GraphBack': the law returns true at every input; what it is handed reads afterwards as before.
-/
import Derived.Test.YtpljnapglbmdlaaRead
import Derived.Test.YtpljnapglbmdlaaReadGr
import Derived.Test.YtpljnapglbmdlaaGrU
import Derived.Test.YtpljnapglbmdlaaGrZ
import Derived.Test.YtpljnapglbmdlaaGsH
import Derived.Test.YtpljnapglbmdlaaGsC
import Derived.Test.YtpljnapglbmdlaaGsD
import Derived.Test.YtpljnapglbmdlaaGtC
namespace Go.Proofs.Ytpljnapglbmdlaa.graphBack
open Go Go.RowKit Go.Joins Go.ChangeShapes Go.WideShapes Go.ChangeAt
open Go.ChangeMaps (open_string shut_string)
set_option linter.all false

set_option maxRecDepth 100000 in
set_option maxHeartbeats 16000000 in
theorem walk (w : World) (g0 : Gr) (hg0 : GrAt w g0) (hl0 : GLen g0) (hw0 : GWf g0) (hr0 : GRoom g0) :
    Calls Try.prog 5 #[g0.v] w fun e w' => e = .returned (.bool true) ∧ New w w' := by
  have HHV := Lib.hid (fun W (k : New w W) => heavy_any W g0 (hg0.new k) hr0)
  simp only [Gr.v, Gr.cs] at HHV ⊢
  go_enter Try.func5, Try.ntmps5
  have na : New w (w.alloc (.cells #[.string g0.name, .slice g0.aa g0.acts.length g0.ac, .slice g0.ea g0.edges.length g0.ec, .slice g0.ia g0.ins.length g0.ic, .slice g0.oa g0.outs.length g0.oc] 26)) := (New.refl w).alloc _
  have ha : (w.alloc (.cells #[.string g0.name, .slice g0.aa g0.acts.length g0.ac, .slice g0.ea g0.edges.length g0.ec, .slice g0.ia g0.ins.length g0.ic, .slice g0.oa g0.outs.length g0.oc] 26)).heap[w.heap.size]? = some (.cells #[.string g0.name, .slice g0.aa g0.acts.length g0.ac, .slice g0.ea g0.edges.length g0.ec, .slice g0.ia g0.ins.length g0.ic, .slice g0.oa g0.outs.length g0.oc] 26 (0, 0)) := heap_alloc_new w _
  go_wp2_with fail
  generalize (w.alloc (.cells #[.string g0.name, .slice g0.aa g0.acts.length g0.ac, .slice g0.ea g0.edges.length g0.ec, .slice g0.ia g0.ins.length g0.ic, .slice g0.oa g0.outs.length g0.oc] 26)) = wa at na ha ⊢
  have HB := Lib.hid ha
  clear ha
  refine (HHV.out wa na).mono ?_
  rintro e w1 ⟨he, k1⟩
  have hN1 := na.trans k1
  rcases he with rfl | ⟨rfl, hf⟩
  · go_wp2_with fail
    go_ret
    exact ⟨rfl, hN1⟩
  · have HB1 := Lib.hid (Keeps.heap k1 HB.out (fun h => h))
    clear HB HHV na k1
    obtain ⟨x0, x1, x2, x3, x4, hXl⟩ := gr_cells HB1.out
    go_wp2_with fail
    have hLG := lentGraph_any w1 g0 (hg0.new hN1) hf
    simp only [Gr.v, Gr.cs] at hLG
    refine hLG.mono ?_
    intro e w2 hL
    obtain ⟨q, rfl, hq, k2⟩ := hL.lended
    clear hL hLG x0 x1 x2 x3 x4 hXl
    have HB2 := Lib.hid (Keeps.heap k2 HB1.out (fun h => h))
    have hN2 := hN1.trans k2
    clear HB1 hN1 k2
    simp only [Gr.v, Gr.cs]
    have hC1 := ccheck_any w2 q hq.at (hl0.bare hq.bare)
    rw [findG_same hq.bare] at hC1
    simp only [Gr.v, Gr.cs] at hC1
    go_wp2_with fail
    refine hC1.mono ?_
    rintro e w3 ⟨rfl, k3⟩
    have HB3 := Lib.hid (Keeps.heap k3 HB2.out (fun h => h))
    have hN3 := hN2.trans k3
    clear HB2 hN2 k3 hC1 hq
    obtain ⟨x0, x1, x2, x3, x4, hXl⟩ := gr_cells HB3.out
    go_wp2_with fail
    have hLG := lentGraph_any w3 g0 (hg0.new hN3) hf
    simp only [Gr.v, Gr.cs] at hLG
    refine hLG.mono ?_
    intro e w4 hL
    obtain ⟨q2, rfl, hq2, k4⟩ := hL.lended
    clear hL hLG x0 x1 x2 x3 x4 hXl
    have HB4 := Lib.hid (Keeps.heap k4 HB3.out (fun h => h))
    have hN4 := hN3.trans k4
    clear HB3 hN3 k4
    have hD := cdraw_any w4 q2 hq2.at (hl0.bare hq2.bare) (tags_bare hw0.tag hq2.bare)
    have hfq := findG_same hq2.bare
    simp only [Gr.v, Gr.cs] at hD ⊢
    go_wp2_with fail
    refine hD.mono ?_
    intro e w5 hd
    unfold Drawn at hd
    rw [hfq] at hd
    clear hD
    by_cases h0 : (findG g0).1 = 0
    case neg =>
      rw [if_pos h0] at hd
      obtain ⟨rfl, k5⟩ := hd
      have hN5 := hN4.trans k5
      have hrd : ((findG g0).1 != 0) = true := by simpa using h0
      clear h0 hfq
      generalize (findG g0).1 = r at hrd ⊢
      go_wp2_with fail
      have kz : New w5 (w5.alloc (.cells #[.string ⟨#[]⟩, .slice none 0 0] 35)) := (New.refl w5).alloc _
      have hz : (w5.alloc (.cells #[.string ⟨#[]⟩, .slice none 0 0] 35)).heap[w5.heap.size]? = some (.cells #[.string ⟨#[]⟩, .slice none 0 0] 35 (0, 0)) := heap_alloc_new w5 _
      generalize (w5.alloc (.cells #[.string ⟨#[]⟩, .slice none 0 0] 35)) = w6 at kz hz  ⊢
      refine (awake_any w6).mono ?_
      rintro e w7 ⟨rfl, k7⟩
      have hz7 := Keeps.heap k7 hz (fun h => h)
      obtain ⟨s0, s1, -, -, hSl⟩ := sk_cells hz7
      go_wp2_with fail
      go_ret
      exact ⟨rfl, (hN5.trans kz).trans k7⟩
    rw [if_neg (fun h => h h0)] at hd
    obtain ⟨s, rfl, hso, hsb, k5⟩ := hd
    rw [h0]
    have hq0 : (findG q2).1 = 0 := by rw [hfq]; exact h0
    have hF := (find_fair hq0).1
    obtain ⟨hS1, hS2, hS3, hS4⟩ := draw_small hsb hF (hf.bare hq2.bare)
    have hBF := buildF_draw hq0
    have HBF : Hid (buildF s = (0, 0) ∧ buildG s = g0.bare) := Lib.hid (by rw [← buildF_bare, ← buildG_bare, hsb]; exact ⟨hBF.1, hBF.2.trans hq2.bare⟩)
    have hN5 := hN4.trans k5
    have HB5 := Lib.hid (Keeps.heap k5 HB4.out (fun h => h))
    clear h0 hfq hBF hF hq0 HB4 hN4 k5 hq2 hsb
    simp only [Sk.v, Sk.cs]
    go_wp2_with fail
    have kz : New w5 (w5.alloc (.cells #[.string s.name, .slice s.ia s.items.length s.ic] 35)) := (New.refl w5).alloc _
    have hz : (w5.alloc (.cells #[.string s.name, .slice s.ia s.items.length s.ic] 35)).heap[w5.heap.size]? = some (.cells #[.string s.name, .slice s.ia s.items.length s.ic] 35 (0, 0)) := heap_alloc_new w5 _
    generalize (w5.alloc (.cells #[.string s.name, .slice s.ia s.items.length s.ic] 35)) = w6 at kz hz  ⊢
    have HB6 := Lib.hid (Keeps.heap kz HB5.out (fun h => h))
    have hN6 := hN5.trans kz
    have hso6 := hso.new kz
    clear HB5 hN5 hso kz
    obtain ⟨s0, s1, -, -, hSl⟩ := sk_cells hz
    have hB := cbuild_any w6 s hso6.at hS1 (fun x hx => by have := hS2 x hx; omega) (by omega) (fun x hx => by have := hS4 x hx; omega)
    simp only [Sk.v, Sk.cs] at hB
    go_wp2_with fail
    refine hB.mono ?_
    intro e w7 hb
    unfold Built at hb
    rw [HBF.out.1, if_neg (fun h => h rfl)] at hb
    obtain ⟨q3, rfl, hq3, hqb, k7⟩ := hb
    rw [HBF.out.2] at hqb
    have HB7 := Lib.hid (Keeps.heap k7 HB6.out (fun h => h))
    have hN7 := hN6.trans k7
    clear HB6 hN6 k7 hB s0 s1 hSl hz hso6 HBF hS1 hS2 hS3 hS4
    simp only [Gr.v, Gr.cs]
    obtain ⟨x0, x1, x2, x3, x4, hXl⟩ := gr_cells HB7.out
    go_wp2_with fail
    have kz : New w7 (w7.alloc (.cells #[.string q3.name, .slice q3.aa q3.acts.length q3.ac, .slice q3.ea q3.edges.length q3.ec, .slice q3.ia q3.ins.length q3.ic, .slice q3.oa q3.outs.length q3.oc] 26)) := (New.refl w7).alloc _
    have hz : (w7.alloc (.cells #[.string q3.name, .slice q3.aa q3.acts.length q3.ac, .slice q3.ea q3.edges.length q3.ec, .slice q3.ia q3.ins.length q3.ic, .slice q3.oa q3.outs.length q3.oc] 26)).heap[w7.heap.size]? = some (.cells #[.string q3.name, .slice q3.aa q3.acts.length q3.ac, .slice q3.ea q3.edges.length q3.ec, .slice q3.ia q3.ins.length q3.ic, .slice q3.oa q3.outs.length q3.oc] 26 (0, 0)) := heap_alloc_new w7 _
    have hs : (w7.alloc (.cells #[.string q3.name, .slice q3.aa q3.acts.length q3.ac, .slice q3.ea q3.edges.length q3.ec, .slice q3.ia q3.ins.length q3.ic, .slice q3.oa q3.outs.length q3.oc] 26)).heap.size = w7.heap.size + 1 := size_alloc _ _
    generalize (w7.alloc (.cells #[.string q3.name, .slice q3.aa q3.acts.length q3.ac, .slice q3.ea q3.edges.length q3.ec, .slice q3.ia q3.ins.length q3.ic, .slice q3.oa q3.outs.length q3.oc] 26)) = w8 at kz hz hs ⊢
    have ky : New w8 (w8.alloc (.cells #[I 0, I 0] 48)) := (New.refl w8).alloc _
    have hy : (w8.alloc (.cells #[I 0, I 0] 48)).heap[w8.heap.size]? = some (.cells #[I 0, I 0] 48 (0, 0)) := heap_alloc_new w8 _
    rw [hs] at hy
    generalize (w8.alloc (.cells #[I 0, I 0] 48)) = w9 at ky hy  ⊢
    have HG8 := Lib.hid (Keeps.heap ky hz (fun h => h))
    have HY8 := Lib.hid hy
    have HB8 := Lib.hid (Keeps.heap (kz.trans ky) HB7.out (fun h => h))
    have hN8 := hN7.trans (kz.trans ky)
    have hq8 := hq3.new (kz.trans ky)
    clear hz hy HB7 hN7 kz ky hq3 x0 x1 x2 x3 x4 hXl
    generalize w7.heap.size = B7 at HG8 HY8 hs ⊢
    refine (awake_any w9).mono ?_
    rintro e w10 ⟨rfl, k10⟩
    have HB10 := Lib.hid (Keeps.heap k10 HB8.out (fun h => h))
    have HG10 := Lib.hid (Keeps.heap k10 HG8.out (fun h => h))
    have HY10 := Lib.hid (Keeps.heap k10 HY8.out (fun h => h))
    have hN10 := hN8.trans k10
    have hq10 := hq8.new k10
    clear HB8 HG8 HY8 hN8 hq8 k10
    obtain ⟨x0, x1, x2, x3, x4, hXl⟩ := gr_cells HB10.out
    obtain ⟨y0, y1, y2, y3, y4, hYl⟩ := gr_cells HG10.out
    obtain ⟨f0, f1, -, -, hFl⟩ := fault_cells HY10.out
    have hSG := sameGraph_yes w10 g0 q3 (hg0.new hN10) hq10.at hqb.symm hl0
    simp only [Gr.v, Gr.cs] at hSG
    go_wp2_with fail
    refine hSG.mono ?_
    rintro e w11 ⟨rfl, k11⟩
    go_wp2_with fail
    go_ret
    exact ⟨rfl, hN10.trans k11⟩
set_option maxRecDepth 100000 in
theorem lifted (os : Os) (started : os.Started) (H : Type) (enc : TypeId × Value → H) :
    ReturnsInHanded {} Try.checked os 5 .any (Rows.graphBackSpec.pre6 enc Try.prog Try.f5 Rows.graphBackRow.domain false) (Rows.graphBackSpec.post enc Try.prog Try.f5 false true false false) := by
  refine returnsInHanded_of_change_sized (C := Try.checked) own started (by kernel_rfl) Try.func5
    (ChangeSpec.witness6 (enc := enc) (C := Try.checked) false ⟨#[], #[.agg #[.string ByteArray.empty, .slice none 0 0, .slice none 0 0, .slice none 0 0, .slice none 0 0]], []⟩ 8 (by kernel_rfl) (by kernel_rfl) (by kernel_rfl) (by kernel_rfl)) ?_
  intro W base args ds gs before hval0 hW hcnd hsz0 _
  have hval : ∀ (j : Nat) t v, Try.f5.params[j]? = some t → args[j]? = some v → Value.okWide Try.prog W .any base t v := hval0
  have hsz : (DataW.weightsEach Try.prog (Try.f5.params.toList ++ Rows.graphBackSpec.plain.varTypes Try.prog) (ds ++ gs)).all (· ≤ reachBytes) = true := hsz0
  clear hsz0
  have hW' := hW
  obtain ⟨p, q, hA0, hV, rfl, hfz, hnd⟩ := hW
  have hA : DataW.TrodAll enc Try.prog W 0 (fun _ => true) true Try.f5.params.toList args.toList ds p := hA0
  rw [Try.params5] at hA hval hsz
  obtain ⟨v0, vs0, d0, ds0, p0, q0, hargs, rfl, rfl, h0, r0'⟩ := trodAll_cons hA
  obtain ⟨rfl, rfl, rfl⟩ := trodAll_nil r0'
  obtain rfl : args = #[v0] := by cases args; simp_all
  obtain ⟨rfl, rfl⟩ := trodVars_none hV
  have k0 := h0
  have lt0 : ∀ x ∈ p0, x.block < W.heap.size := by obtain ⟨m, hm⟩ := k0; exact DataW.trod_lt m _ _ _ hm
  obtain ⟨g0', rfl, hg0, hl0, hw0, hr0⟩ := read_graph (hval 0 26 v0 rfl rfl) h0
  have hr0' : GRoom g0' := hr0 (fun m hm => of_decide_eq_true (List.all_eq_true.1 hsz m (DataW.weights_mem_each (j := 0) (t := 26) rfl rfl _ hm)))
  clear hA0 hval0
  refine (walk W g0' hg0 hl0 hw0 hr0').mono fun e W' ⟨he, hnew⟩ => ?_
  have bel := hnew.below
  subst he
  exact ⟨_, rfl, _, _, _, [], _, [], hW', trodAll_mk1 (shut_bool Try.underlying4 _), (trodAll_cons_mk (Below.trod laidOut (by kernel_rfl) (of_decide_eq_true (by kernel_rfl)) k0 bel lt0) trodAll_mk0), rfl, bel.frame _, fun h => by cases h⟩

theorem over : Rows.graphBackRow.holds Try.pinned (OpenSpec.ofChange Rows.graphBackSpec) :=
  OpenClaim.holds_of_wide 5 Try.f5 rfl rfl rfl rfl rfl rfl rfl ⟨rfl, rfl, rfl, rfl, rfl⟩ rfl rfl rfl rfl rfl (by kernel_rfl) Try.func5 (by kernel_rfl)
    (of_decide_eq_true (by kernel_rfl)) (by unfold Func.isWrapper; first | (rw [if_pos (by decide +kernel)]; kernel_rfl) | (rw [if_neg (by decide +kernel)]; exact ⟨rfl, rfl⟩))
    (fun os started H enc _ => lifted os started H enc)

/-- THE STATEMENT. -/
theorem proved : Rows.GraphBackSaid := over
end Go.Proofs.Ytpljnapglbmdlaa.graphBack
