/-
  'SourceBack': the law returns true at every input; what it is handed reads afterwards as before; the variables of the library that it reads hold what the program's text lays.
-/
import Derived.Test.YtnedmonlofbahaaGreatDoorSrcT
import Derived.Test.YtnedmonlofbahaaGreatDoorSrcC
import Derived.Test.YtnedmonlofbahaaGreatDoorHw
namespace Go.Proofs.YtnedmonlofbahaaGreatDoor.sourceBack
open Go Go.RowKit Go.Joins Go.ChangeShapes Go.WideShapes Go.ChangeAt
open Go.ChangeMaps (open_string shut_string)
set_option linter.all false

set_option maxRecDepth 100000 in
set_option maxHeartbeats 4000000 in
theorem walk (w : World) (he : EnvS w) (g0 : Gr) (hg0 : GrAt w g0) (hl0 : GLen g0) (hw0 : GWf g0) (hr0 : GRoom g0) :
    Calls Tryz.prog 5 #[g0.v] w fun e w' => e = .returned (.bool true) ∧ New w w' := by
  have HHV := Lib.hid (fun W (k : New w W) => heavy_any W g0 (hg0.new k) hr0)
  have HN0 : GNum g0 := ⟨hw0.ax, fun x hx => ⟨(hw0.en x hx).2.1, (hw0.en x hx).2.2.2⟩, hw0.ex, fun x hx => (hw0.ix x hx).2, fun x hx => (hw0.ox x hx).2⟩
  have HE := Lib.hid he
  have HTG := Lib.hid hw0.tag
  clear he hw0 hr0
  simp only [Gr.v, Gr.cs] at HHV ⊢
  go_enter Tryz.func5, Tryz.ntmps5
  have na : New w (w.alloc (.cells #[.string g0.name, .slice g0.aa g0.acts.length g0.ac, .slice g0.ea g0.edges.length g0.ec, .slice g0.ia g0.ins.length g0.ic, .slice g0.oa g0.outs.length g0.oc] 26)) := (New.refl w).alloc _
  have ha : (w.alloc (.cells #[.string g0.name, .slice g0.aa g0.acts.length g0.ac, .slice g0.ea g0.edges.length g0.ec, .slice g0.ia g0.ins.length g0.ic, .slice g0.oa g0.outs.length g0.oc] 26)).heap[w.heap.size]? = some (.cells #[.string g0.name, .slice g0.aa g0.acts.length g0.ac, .slice g0.ea g0.edges.length g0.ec, .slice g0.ia g0.ins.length g0.ic, .slice g0.oa g0.outs.length g0.oc] 26 (0, 0)) := heap_alloc_new w _
  go_wp2_with fail
  generalize (w.alloc (.cells #[.string g0.name, .slice g0.aa g0.acts.length g0.ac, .slice g0.ea g0.edges.length g0.ec, .slice g0.ia g0.ins.length g0.ic, .slice g0.oa g0.outs.length g0.oc] 26)) = wa at na ha ⊢
  have HB := Lib.hid ha
  clear ha
  refine (HHV.out wa na).mono ?_
  rintro e w1 ⟨he, k1⟩
  have hN1 := na.trans k1
  rcases he with rfl | ⟨rfl, hf⟩
  · go_wp2_with fail
    (try go_ret)
    exact ⟨rfl, hN1⟩
  have HB1 := Lib.hid (Keeps.heap k1 HB.out (fun h => h))
  clear HB HHV na k1
  obtain ⟨x0, x1, x2, x3, x4, hXl⟩ := gr_cells HB1.out
  go_wp2_with fail
  have hLG := lentGraph_any w1 g0 (hg0.new hN1) hf
  simp only [Gr.v, Gr.cs] at hLG
  refine hLG.mono ?_
  intro e w2 hL
  obtain ⟨q, rfl, hq, k2⟩ := hL.lended
  clear hL hLG x0 x1 x2 x3 x4 hXl
  have HB2 := Lib.hid (Keeps.heap k2 HB1.out (fun h => h))
  have hN2 := hN1.trans k2
  clear HB1 hN1 k2
  have hfq := findG_same hq.bare
  by_cases h0 : (findG g0).1 = 0
  case neg =>
    have hpr := sprint_bad w2 q hq.at (hl0.bare hq.bare) (tags_bare HTG.out hq.bare) (by rw [hfq]; exact h0)
    rw [hfq] at hpr
    simp only [Gr.v, Gr.cs] at hpr ⊢
    go_wp2_with fail
    refine hpr.mono ?_
    rintro e w3 ⟨rfl, k3⟩
    have HB3 := Lib.hid (Keeps.heap k3 HB2.out (fun h => h))
    have hN3 := hN2.trans k3
    clear HB2 hN2 k3 hpr hq hfq
    obtain ⟨x0, x1, x2, x3, x4, hXl⟩ := gr_cells HB3.out
    go_wp2_with fail
    have hLG := lentGraph_any w3 g0 (hg0.new hN3) hf
    simp only [Gr.v, Gr.cs] at hLG
    refine hLG.mono ?_
    intro e w4 hL
    obtain ⟨q2, rfl, hq2, k4⟩ := hL.lended
    clear hL hLG x0 x1 x2 x3 x4 hXl
    have hN4 := hN3.trans k4
    have hC1 := ccheck_any w4 q2 hq2.at (hl0.bare hq2.bare)
    rw [findG_same hq2.bare] at hC1
    have hnb := fun W (k : New w W) => number_err W (findG g0).1 h0 (HE.out.et.new k)
    have hrd : ((findG g0).1 != 0) = true := by simpa using h0
    generalize (findG g0).1 = r at hC1 hnb hrd ⊢
    simp only [Gr.v, Gr.cs] at hC1 ⊢
    clear HB3 hN3 k4 hq2 h0
    go_wp2_with fail
    refine hC1.mono ?_
    rintro e w5 ⟨rfl, k5⟩
    have hN5 := hN4.trans k5
    have hn1 := hnb w5 hN5
    clear hC1 hN4 k5 hnb
    go_wp2_with fail
    refine hn1.mono ?_
    rintro e w6 ⟨rfl, k6⟩
    have hN6 := hN5.trans k6
    have haw := awake_src w6 (HE.out.new hN6)
    clear hn1 hN5 k6
    go_wp2_with fail
    refine haw.mono ?_
    rintro e w7 ⟨rfl, k7⟩
    have hN7 := hN6.trans k7
    clear haw hN6 k7
    go_wp2_with fail
    (try go_ret)
    exact ⟨rfl, hN7⟩
  case pos =>
    have h1 : (findG q).1 = 0 := by rw [hfq]; exact h0
    have hnq := HN0.same hq.bare.symm
    have hpr := sprint_ok w2 q (HE.out.env.new hN2) hq.at h1 hnq
    have hag := sparse_again q h1 hnq
    obtain ⟨T, hT⟩ : ∃ T : ByteArray, (⟨(printW (drawS q)).toArray⟩ : ByteArray) = T := ⟨_, rfl⟩
    rw [hT] at hpr hag
    have HAG := Lib.hid hag
    have HQB := Lib.hid hq.bare
    simp only [Gr.v, Gr.cs] at hpr ⊢
    clear hT hag hfq h1 hnq
    go_wp2_with fail
    refine hpr.mono ?_
    rintro e w3 ⟨rfl, k3⟩
    have HB3 := Lib.hid (Keeps.heap k3 HB2.out (fun h => h))
    have hN3 := hN2.trans k3
    clear HB2 hN2 k3 hpr hq
    obtain ⟨x0, x1, x2, x3, x4, hXl⟩ := gr_cells HB3.out
    go_wp2_with fail
    have hLG := lentGraph_any w3 g0 (hg0.new hN3) hf
    simp only [Gr.v, Gr.cs] at hLG
    refine hLG.mono ?_
    intro e w4 hL
    obtain ⟨q2, rfl, hq2, k4⟩ := hL.lended
    clear hL hLG x0 x1 x2 x3 x4 hXl
    have HB4 := Lib.hid (Keeps.heap k4 HB3.out (fun h => h))
    have hN4 := hN3.trans k4
    have hC1 := ccheck_any w4 q2 hq2.at (hl0.bare hq2.bare)
    rw [findG_same hq2.bare, h0] at hC1
    simp only [Gr.v, Gr.cs] at hC1 ⊢
    clear HB3 hN3 k4 hq2 h0
    go_wp2_with fail
    refine hC1.mono ?_
    rintro e w5 ⟨rfl, k5⟩
    have HB5 := Lib.hid (Keeps.heap k5 HB4.out (fun h => h))
    have hN5 := hN4.trans k5
    have hag := HAG.out w5 (HE.out.env.new hN5)
    clear hC1 hN4 k5 HB4 HAG
    go_wp2_with fail
    refine hag.mono ?_
    rintro e w6 ⟨h, rfl, hh, hhb, n6⟩
    have n7 : New w6 (w6.alloc (.cells h.cs 26)) := (New.refl _).alloc _
    have HH := Lib.hid (heap_alloc_new w6 (.cells h.cs 26))
    have HB6 := Lib.hid (Keeps.heap (n6.trans n7) HB5.out (fun h => h))
    have HHA := Lib.hid (hh.new n7)
    have hN6 := (hN5.trans n6).trans n7
    have haw := awake_src _ (HE.out.new hN6)
    have hhv : h.v = .agg #[.string h.name, .slice h.aa h.acts.length h.ac, .slice h.ea h.edges.length h.ec, .slice h.ia h.ins.length h.ic, .slice h.oa h.outs.length h.oc] := rfl
    rw [hhv]
    simp only [Gr.cs] at haw
    clear hag hN5 HB5 n6 n7 hh hhv
    go_wp2_with fail
    refine haw.mono ?_
    rintro e w7 ⟨rfl, k7⟩
    have hN7 := hN6.trans k7
    obtain ⟨x0, x1, x2, x3, x4, hXl⟩ := gr_cells (Keeps.heap k7 HB6.out (fun h => h))
    obtain ⟨y0, y1, y2, y3, y4, hYl⟩ := gr_cells (Keeps.heap k7 HH.out (fun h => h))
    have hsg := sameGraph_yes w7 g0 h (hg0.new hN7) (HHA.out.new k7) (by rw [hhb, HQB.out]) hl0
    simp only [Gr.v, Gr.cs] at hsg
    clear haw hN6 k7 hhb
    go_wp2_with fail
    refine hsg.mono ?_
    rintro e w8 ⟨rfl, k8⟩
    have hN8 := hN7.trans k8
    clear hsg hN7 k8
    go_wp2_with fail
    (try go_ret)
    exact ⟨rfl, hN8⟩

set_option maxRecDepth 100000 in
theorem contract (H : Type) (enc : TypeId × Value → H) (W : World) (base : Nat) (args : Array Value) (ds gs : List (DataW H)) (before : List MemPlace)
    (hval0 : ∀ (j : Nat) t v, Tryz.f5.params[j]? = some t → args[j]? = some v → Value.okWide Tryz.prog W .any base t v)
    (hW : DataW.Whole enc Tryz.prog Tryz.f5.params.toList Rows.sourceBackSpec.vars false W args.toList ds gs before)
    (hsz0 : (DataW.weightsEach Tryz.prog (Tryz.f5.params.toList ++ Rows.sourceBackSpec.plain.varTypes Tryz.prog) (ds ++ gs)).all (· ≤ reachBytes) = true) (hL : laidMetH Tryz.prog Rows.sourceBackRow.laid W) :
    Calls Tryz.prog 5 args W fun e W' => ∃ v, e = .returned v ∧ Rows.sourceBackSpec.post enc Tryz.prog Tryz.f5 false true false false W args v W' := by
  have hval := hval0
  have hsz := hsz0
  clear hsz0
  have hW' := hW
  have he : EnvS W := env_of (by exact hL)
  obtain ⟨p, q, hA0, hV, rfl, hfz, hnd⟩ := hW
  have hA : DataW.TrodAll enc Tryz.prog W 0 (fun _ => true) true Tryz.f5.params.toList args.toList ds p := hA0
  rw [Tryz.params5] at hA hval hsz
  obtain ⟨v0, vs0, d0, ds0, p0, q0, hargs, rfl, rfl, h0, r0'⟩ := trodAll_cons hA
  obtain ⟨rfl, rfl, rfl⟩ := trodAll_nil r0'
  obtain rfl : args = #[v0] := by cases args; simp_all
  obtain ⟨rfl, rfl⟩ := trodVars_none hV
  have k0 := h0
  have lt0 : ∀ x ∈ p0, x.block < W.heap.size := by obtain ⟨m, hm⟩ := k0; exact DataW.trod_lt m _ _ _ hm
  obtain ⟨g0', rfl, hg0, hl0, hw0, hr0⟩ := read_graph (hval 0 26 v0 rfl rfl) h0
  have hr0' : GRoom g0' := hr0 (fun m hm => by
    have := List.all_eq_true.1 hsz _ (DataW.weights_mem_each (j := 0) rfl rfl m hm)
    rw [decide_eq_true_iff] at this
    exact this)
  clear hA0 hval0
  refine (walk W he g0' hg0 hl0 hw0 hr0').mono fun e W' ⟨he, hnew⟩ => ?_
  have bel := hnew.below
  subst he
  exact ⟨_, rfl, _, _, _, [], _, [], hW', trodAll_mk1 (shut_bool Tryz.underlying4 _), (trodAll_cons_mk (Below.trod laidOut (by kernel_rfl) (of_decide_eq_true (by kernel_rfl)) k0 bel lt0) trodAll_mk0), rfl, bel.frame _, fun h => by cases h⟩

theorem reads (os : Os) {H : Type} (enc : TypeId × Value → H) : ∃ places, DataW.whole enc Tryz.prog ((laidWorld os).forCall (fun _ _ => 0) ⟨#[], #[.agg #[.string ByteArray.empty, .slice none 0 0, .slice none 0 0, .slice none 0 0, .slice none 0 0]], []⟩).memory Tryz.f5.params.toList Rows.sourceBackSpec.vars false #[.agg #[.string ByteArray.empty, .slice none 0 0, .slice none 0 0, .slice none 0 0, .slice none 0 0]].toList 8 = some ([.agg [.lit (.string []), .nil, .nil, .nil, .nil]], [], places) :=
  ⟨[], by kernel_rfl⟩

set_option maxRecDepth 100000 in
theorem lifted (os : Os) (started : os.Started) (H : Type) (enc : TypeId × Value → H) (F : Stop.Interp) :
    ReturnsInHanded {} Tryz.checked os 5 .any ((OpenSpec.ofChange Rows.sourceBackSpec).preRow enc Tryz.prog Tryz.f5 Rows.sourceBackRow.domain false Rows.sourceBackRow.laid) (((OpenSpec.ofChange Rows.sourceBackSpec).at F).post enc Tryz.prog Tryz.f5 false true false false) := by
  obtain ⟨places, hx⟩ := reads os enc
  refine returnsInHanded_of_row (C := Tryz.checked) (s := OpenSpec.ofChange Rows.sourceBackSpec) own started (by kernel_rfl) Tryz.func5
    (witness_row_at (enc := enc) (C := Tryz.checked) false (laidWorld os) #[.agg #[.string ByteArray.empty, .slice none 0 0, .slice none 0 0, .slice none 0 0, .slice none 0 0]] rfl (by kernel_rfl) (by kernel_rfl) (by kernel_rfl)
      (OpenSpec.preRow_of_cond 8 hx (by kernel_rfl) (fun k hk => by cases hk) (by kernel_rfl) (laid_met os _))) ?_
  intro W base args ds gs before hval hW _ _ hsz hL _ _
  exact contract H enc W base args ds gs before hval hW hsz hL

theorem said : Rows.SourceBackSaid :=
  OpenClaim.holds_of_cond 5 Tryz.f5 rfl rfl rfl rfl rfl rfl rfl ⟨rfl, rfl, rfl, rfl, rfl⟩ rfl rfl rfl rfl rfl (by kernel_rfl) Tryz.func5 (by kernel_rfl)
    (of_decide_eq_true (by kernel_rfl)) (by unfold Func.isWrapper; first | (rw [if_pos (by decide +kernel)]; kernel_rfl) | (rw [if_neg (by decide +kernel)]; exact ⟨rfl, rfl⟩))
    (fun os started H enc _ F => by rw [OpenClaim.pre_eq_preRow]; exact lifted os started H enc F)

theorem plain (f : FuncId) (fn : Func) (hf : Tryz.pinned.checked.prog.funcNamed "pianola/pianolalaw09.SourceBack" = some f) (hfn : Tryz.pinned.checked.prog.funcs[f]? = some fn) :
    true = Tryz.pinned.checked.prog.looks [] ∧ ∀ (j : Nat) t, fn.params[j]? = some t → Tryz.pinned.checked.prog.wantsStandIn t = false := by
  obtain rfl : f = 5 := Option.some.inj ((show Tryz.prog.funcNamed "pianola/pianolalaw09.SourceBack" = some 5 by kernel_rfl).symm.trans hf) |>.symm
  obtain rfl : fn = Tryz.f5 := (Option.some.inj (Tryz.func5.symm.trans hfn)).symm
  refine ⟨by kernel_rfl, fun j t ht => ?_⟩
  rw [Tryz.params5] at ht
  have hm := Array.mem_of_getElem? ht
  have : t = 26 := by
    simpa [or_assoc] using hm
  rcases this with rfl
  · exact (show Tryz.prog.wantsStandIn 26 = false by kernel_rfl)

/-- THE CARD. -/
theorem proved : Rows.SourceBackCardSaid :=
  Claim7.holds_tied_plain_at .later [] _ _ _ _ said (fun _ h => by cases h) (by kernel_rfl) (fun _ h => by cases h) sourceBack_row_tie rfl ⟨rfl, rfl⟩ (by kernel_rfl) rfl plain (by kernel_rfl)
end Go.Proofs.YtnedmonlofbahaaGreatDoor.sourceBack
