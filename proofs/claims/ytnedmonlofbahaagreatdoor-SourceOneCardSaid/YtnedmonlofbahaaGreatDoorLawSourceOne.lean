/-
  'SourceOne': the law returns true at every input; what it is handed reads afterwards as before; the variables of the library that it reads hold what the program's text lays.
-/
import Derived.Test.YtnedmonlofbahaaGreatDoorSrcT
import Derived.Test.YtnedmonlofbahaaGreatDoorSrcC
import Derived.Test.YtnedmonlofbahaaGreatDoorSrcE
import Derived.Test.YtnedmonlofbahaaGreatDoorHw
namespace Go.Proofs.YtnedmonlofbahaaGreatDoor.sourceOne
open Go Go.RowKit Go.Joins Go.ChangeShapes Go.WideShapes Go.ChangeAt
open Go.ChangeMaps (open_string shut_string)
set_option linter.all false

theorem print_uni (w0 : World) (he : EnvS w0) (g : Gr) (hl : GLen g) (hn : GNum g) (ht : ∀ x ∈ g.acts, 0 ≤ x.tag ∧ x.tag ≤ 255) : ∃ (T : ByteArray) (ev : Value),
    (∀ W q, New w0 W → GrAt W q → q.bare = g.bare → Calls Tryz.prog 18 #[q.v] W fun e w' => e = .returned (.tuple #[.string T, ev]) ∧ New W w') ∧
    (((findG g).1 = 0 ∧ T = ⟨(printW (drawS g)).toArray⟩ ∧ ev = .nilIface) ∨ ((findG g).1 ≠ 0 ∧ ∃ c, ev = .iface 31 (I c))) := by
  by_cases h0 : (findG g).1 = 0
  · refine ⟨_, _, fun W q hk hq hb => ?_, .inl ⟨h0, rfl, rfl⟩⟩
    rw [← draw_bare hb]
    exact sprint_ok W q (he.env.new hk) hq (by rw [findG_same hb]; exact h0) (hn.same hb.symm)
  · refine ⟨⟨#[]⟩, _, fun W q hk hq hb => ?_, .inr ⟨h0, (findG g).1, rfl⟩⟩
    have := sprint_bad W q hq (hl.bare hb) (tags_bare ht hb) (by rw [findG_same hb]; exact h0)
    rw [findG_same hb] at this
    exact this
set_option maxRecDepth 100000 in
set_option maxHeartbeats 4000000 in
theorem walk (w : World) (he : EnvS w) (g0 : Gr) (hg0 : GrAt w g0) (hl0 : GLen g0) (hw0 : GWf g0) (hr0 : GRoom g0) (g1 : Gr) (hg1 : GrAt w g1) (hl1 : GLen g1) (hw1 : GWf g1) (hr1 : GRoom g1) :
    Calls Tryz.prog 8 #[g0.v, g1.v] w fun e w' => e = .returned (.bool true) ∧ New w w' := by
  have HHV := Lib.hid (fun W (k : New w W) => heavy_any W g0 (hg0.new k) hr0)
  have HHW := Lib.hid (fun W (k : New w W) => heavy_any W g1 (hg1.new k) hr1)
  have HN0 : GNum g0 := ⟨hw0.ax, fun x hx => ⟨(hw0.en x hx).2.1, (hw0.en x hx).2.2.2⟩, hw0.ex, fun x hx => (hw0.ix x hx).2, fun x hx => (hw0.ox x hx).2⟩
  have HN1 : GNum g1 := ⟨hw1.ax, fun x hx => ⟨(hw1.en x hx).2.1, (hw1.en x hx).2.2.2⟩, hw1.ex, fun x hx => (hw1.ix x hx).2, fun x hx => (hw1.ox x hx).2⟩
  have HE := Lib.hid he
  obtain ⟨T0, v0, hp0, hd0⟩ := print_uni w he g0 hl0 HN0 hw0.tag
  obtain ⟨T1, v1, hp1, hd1⟩ := print_uni w he g1 hl1 HN1 hw1.tag
  have HP0 := Lib.hid hp0
  have HP1 := Lib.hid hp1
  have HD0 := Lib.hid hd0
  have HD1 := Lib.hid hd1
  have HSG := Lib.hid (fun W (k : New w W) => sameGraph_any W g0 g1 (hg0.new k) (hg1.new k) hl0 hl1)
  clear he hw0 hr0 hw1 hr1 hp0 hp1 hd0 hd1
  simp only [Gr.v, Gr.cs] at HHV HHW HSG ⊢
  go_enter Tryz.func8, Tryz.ntmps8
  have na : New w ((w.alloc (.cells #[.string g0.name, .slice g0.aa g0.acts.length g0.ac, .slice g0.ea g0.edges.length g0.ec, .slice g0.ia g0.ins.length g0.ic, .slice g0.oa g0.outs.length g0.oc] 26)).alloc (.cells #[.string g1.name, .slice g1.aa g1.acts.length g1.ac, .slice g1.ea g1.edges.length g1.ec, .slice g1.ia g1.ins.length g1.ic, .slice g1.oa g1.outs.length g1.oc] 26)) := ((New.refl w).alloc _).alloc _
  have ha : ((w.alloc (.cells #[.string g0.name, .slice g0.aa g0.acts.length g0.ac, .slice g0.ea g0.edges.length g0.ec, .slice g0.ia g0.ins.length g0.ic, .slice g0.oa g0.outs.length g0.oc] 26)).alloc (.cells #[.string g1.name, .slice g1.aa g1.acts.length g1.ac, .slice g1.ea g1.edges.length g1.ec, .slice g1.ia g1.ins.length g1.ic, .slice g1.oa g1.outs.length g1.oc] 26)).heap[w.heap.size]? = some (.cells #[.string g0.name, .slice g0.aa g0.acts.length g0.ac, .slice g0.ea g0.edges.length g0.ec, .slice g0.ia g0.ins.length g0.ic, .slice g0.oa g0.outs.length g0.oc] 26 (0, 0)) := Keeps.heap (Keeps.alloc (S := fun _ => False) _ _) (heap_alloc_new w _) (fun h => h)
  have hb : ((w.alloc (.cells #[.string g0.name, .slice g0.aa g0.acts.length g0.ac, .slice g0.ea g0.edges.length g0.ec, .slice g0.ia g0.ins.length g0.ic, .slice g0.oa g0.outs.length g0.oc] 26)).alloc (.cells #[.string g1.name, .slice g1.aa g1.acts.length g1.ac, .slice g1.ea g1.edges.length g1.ec, .slice g1.ia g1.ins.length g1.ic, .slice g1.oa g1.outs.length g1.oc] 26)).heap[w.heap.size + 1]? = some (.cells #[.string g1.name, .slice g1.aa g1.acts.length g1.ac, .slice g1.ea g1.edges.length g1.ec, .slice g1.ia g1.ins.length g1.ic, .slice g1.oa g1.outs.length g1.oc] 26 (0, 0)) := by
    have := heap_alloc_new (w.alloc (.cells #[.string g0.name, .slice g0.aa g0.acts.length g0.ac, .slice g0.ea g0.edges.length g0.ec, .slice g0.ia g0.ins.length g0.ic, .slice g0.oa g0.outs.length g0.oc] 26)) (.cells #[.string g1.name, .slice g1.aa g1.acts.length g1.ac, .slice g1.ea g1.edges.length g1.ec, .slice g1.ia g1.ins.length g1.ic, .slice g1.oa g1.outs.length g1.oc] 26)
    simpa using this
  go_wp2_with fail
  generalize ((w.alloc (.cells #[.string g0.name, .slice g0.aa g0.acts.length g0.ac, .slice g0.ea g0.edges.length g0.ec, .slice g0.ia g0.ins.length g0.ic, .slice g0.oa g0.outs.length g0.oc] 26)).alloc (.cells #[.string g1.name, .slice g1.aa g1.acts.length g1.ac, .slice g1.ea g1.edges.length g1.ec, .slice g1.ia g1.ins.length g1.ic, .slice g1.oa g1.outs.length g1.oc] 26)) = wa at na ha hb ⊢
  have HA := Lib.hid ha
  have HB := Lib.hid hb
  clear ha hb
  refine (HHV.out wa na).mono ?_
  rintro e w1 ⟨he, k1⟩
  have hN1 := na.trans k1
  rcases he with rfl | ⟨rfl, hf0⟩
  · go_wp2_with fail
    (try go_ret)
    exact ⟨rfl, hN1⟩
  have HA1 := Lib.hid (Keeps.heap k1 HA.out (fun h => h))
  have HB1 := Lib.hid (Keeps.heap k1 HB.out (fun h => h))
  clear HA HB HHV na k1
  obtain ⟨y0, y1, y2, y3, y4, hYl⟩ := gr_cells HB1.out
  go_wp2_with fail
  refine (HHW.out w1 hN1).mono ?_
  rintro e w2 ⟨he, k2⟩
  have hN2 := hN1.trans k2
  rcases he with rfl | ⟨rfl, hf1⟩
  · go_wp2_with fail
    (try go_ret)
    exact ⟨rfl, hN2⟩
  have HA2 := Lib.hid (Keeps.heap k2 HA1.out (fun h => h))
  have HB2 := Lib.hid (Keeps.heap k2 HB1.out (fun h => h))
  clear HA1 HB1 HHW hN1 k2 y0 y1 y2 y3 y4 hYl
  obtain ⟨x0, x1, x2, x3, x4, hXl⟩ := gr_cells HA2.out
  go_wp2_with fail
  have hLG := lentGraph_any w2 g0 (hg0.new hN2) hf0
  simp only [Gr.v, Gr.cs] at hLG
  refine hLG.mono ?_
  intro e w3 hL
  obtain ⟨q, rfl, hq, k3⟩ := hL.lended
  clear hL hLG x0 x1 x2 x3 x4 hXl
  have HA3 := Lib.hid (Keeps.heap k3 HA2.out (fun h => h))
  have HB3 := Lib.hid (Keeps.heap k3 HB2.out (fun h => h))
  have hN3 := hN2.trans k3
  have hpr := HP0.out w3 q hN3 hq.at hq.bare
  simp only [Gr.v, Gr.cs] at hpr ⊢
  clear HA2 HB2 hN2 k3 hq HP0
  go_wp2_with fail
  refine hpr.mono ?_
  rintro e w4 ⟨rfl, k4⟩
  have HA4 := Lib.hid (Keeps.heap k4 HA3.out (fun h => h))
  have HB4 := Lib.hid (Keeps.heap k4 HB3.out (fun h => h))
  have hN4 := hN3.trans k4
  clear HA3 HB3 hN3 k4 hpr
  obtain ⟨y0, y1, y2, y3, y4, hYl⟩ := gr_cells HB4.out
  go_wp2_with fail
  have hLG := lentGraph_any w4 g1 (hg1.new hN4) hf1
  simp only [Gr.v, Gr.cs] at hLG
  refine hLG.mono ?_
  intro e w5 hL
  obtain ⟨q2, rfl, hq2, k5⟩ := hL.lended
  clear hL hLG y0 y1 y2 y3 y4 hYl
  have HA5 := Lib.hid (Keeps.heap k5 HA4.out (fun h => h))
  have HB5 := Lib.hid (Keeps.heap k5 HB4.out (fun h => h))
  have hN5 := hN4.trans k5
  have hpr := HP1.out w5 q2 hN5 hq2.at hq2.bare
  simp only [Gr.v, Gr.cs] at hpr ⊢
  clear HA4 HB4 hN4 k5 hq2 HP1
  go_wp2_with fail
  refine hpr.mono ?_
  rintro e w6 ⟨rfl, k6⟩
  have HA6 := Lib.hid (Keeps.heap k6 HA5.out (fun h => h))
  have HB6 := Lib.hid (Keeps.heap k6 HB5.out (fun h => h))
  have hN6 := hN5.trans k6
  clear HA5 HB5 hN5 k6 hpr
  obtain ⟨x0, x1, x2, x3, x4, hXl⟩ := gr_cells HA6.out
  obtain ⟨y0, y1, y2, y3, y4, hYl⟩ := gr_cells HB6.out
  have hsg := HSG.out w6 hN6
  go_wp2_with fail
  refine hsg.mono ?_
  rintro e w7 ⟨⟨r, rfl, hr⟩, k7⟩
  have hN7 := hN6.trans k7
  have haw := awake_src w7 (HE.out.new hN7)
  have HR := Lib.hid hr
  clear hsg hN6 k7 HSG x0 x1 x2 x3 x4 hXl y0 y1 y2 y3 y4 hYl HA6 HB6 hr
  rcases HD0.out with ⟨z0, t0, hv0⟩ | ⟨z0, c0, hv0⟩
  · rcases HD1.out with ⟨z1, t1, hv1⟩ | ⟨z1, c1, hv1⟩
    · have hio := src_one z0 HN0 z1 HN1
      have hlast : (T0.toList == T1.toList) = r := by
        by_cases hb : g0.bare = g1.bare
        · have e1 := HR.out.2 hb
          have e2 := hio.2 hb
          rw [e1, t0, t1, e2]
          simp
        · have e1 : r = false := by
            cases r with
            | false => rfl
            | true => exact absurd (HR.out.1 rfl) hb
          rw [e1]
          refine str_ne (fun e => hb (hio.1 ?_))
          rw [t0, t1] at e
          have e3 := congrArg (fun b : ByteArray => b.data.toList) e
          simpa using e3
      subst hv0 hv1
      clear HD0 HD1 HR z0 z1 t0 t1 hio
      have hl2 : (r == r) = true := by cases r <;> rfl
      go_wp2_with fail
      refine haw.mono ?_
      rintro e w8 ⟨rfl, k8⟩
      have hN8 := hN7.trans k8
      clear haw hN7 k8
      go_wp2_with fail
      (try go_ret)
      exact ⟨rfl, hN8⟩
    · have hrf : r = false := by
        cases r with
        | false => rfl
        | true => exact absurd (by rw [← findG_same (HR.out.1 rfl)]; exact z0) z1
      subst hrf hv0 hv1
      clear HD0 HD1 HR z0 z1 t0
      go_wp2_with fail
      refine haw.mono ?_
      rintro e w8 ⟨rfl, k8⟩
      have hN8 := hN7.trans k8
      clear haw hN7 k8
      go_wp2_with fail
      (try go_ret)
      exact ⟨rfl, hN8⟩
  · rcases HD1.out with ⟨z1, t1, hv1⟩ | ⟨z1, c1, hv1⟩
    · have hrf : r = false := by
        cases r with
        | false => rfl
        | true => exact absurd (by rw [findG_same (HR.out.1 rfl)]; exact z1) z0
      subst hrf hv0 hv1
      clear HD0 HD1 HR z0 z1 t1
      go_wp2_with fail
      refine haw.mono ?_
      rintro e w8 ⟨rfl, k8⟩
      have hN8 := hN7.trans k8
      clear haw hN7 k8
      go_wp2_with fail
      (try go_ret)
      exact ⟨rfl, hN8⟩
    · subst hv0 hv1
      clear HD0 HD1 HR z0 z1
      go_wp2_with fail
      refine haw.mono ?_
      rintro e w8 ⟨rfl, k8⟩
      have hN8 := hN7.trans k8
      clear haw hN7 k8
      cases r with
      | true =>
        go_wp2_with fail
        (try go_ret)
        exact ⟨rfl, hN8⟩
      | false =>
        go_wp2_with fail
        (try go_ret)
        exact ⟨rfl, hN8⟩

set_option maxRecDepth 100000 in
theorem contract (H : Type) (enc : TypeId × Value → H) (W : World) (base : Nat) (args : Array Value) (ds gs : List (DataW H)) (before : List MemPlace)
    (hval0 : ∀ (j : Nat) t v, Tryz.f8.params[j]? = some t → args[j]? = some v → Value.okWide Tryz.prog W .any base t v)
    (hW : DataW.Whole enc Tryz.prog Tryz.f8.params.toList Rows.sourceOneSpec.vars false W args.toList ds gs before)
    (hsz0 : (DataW.weightsEach Tryz.prog (Tryz.f8.params.toList ++ Rows.sourceOneSpec.plain.varTypes Tryz.prog) (ds ++ gs)).all (· ≤ reachBytes) = true) (hL : laidMetH Tryz.prog Rows.sourceOneRow.laid W) :
    Calls Tryz.prog 8 args W fun e W' => ∃ v, e = .returned v ∧ Rows.sourceOneSpec.post enc Tryz.prog Tryz.f8 false true false false W args v W' := by
  have hval := hval0
  have hsz := hsz0
  clear hsz0
  have hW' := hW
  have he : EnvS W := env_of (by exact hL)
  obtain ⟨p, q, hA0, hV, rfl, hfz, hnd⟩ := hW
  have hA : DataW.TrodAll enc Tryz.prog W 0 (fun _ => true) true Tryz.f8.params.toList args.toList ds p := hA0
  rw [Tryz.params8] at hA hval hsz
  obtain ⟨v0, vs0, d0, ds0, p0, q0, hargs, rfl, rfl, h0, r0'⟩ := trodAll_cons hA
  obtain ⟨v1, vs1, d1, ds1, p1, q1, rfl, rfl, rfl, h1, r1'⟩ := trodAll_cons r0'
  obtain ⟨rfl, rfl, rfl⟩ := trodAll_nil r1'
  obtain rfl : args = #[v0, v1] := by cases args; simp_all
  obtain ⟨rfl, rfl⟩ := trodVars_none hV
  have k0 := h0
  have lt0 : ∀ x ∈ p0, x.block < W.heap.size := by obtain ⟨m, hm⟩ := k0; exact DataW.trod_lt m _ _ _ hm
  have k1 := h1
  have lt1 : ∀ x ∈ p1, x.block < W.heap.size := by obtain ⟨m, hm⟩ := k1; exact DataW.trod_lt m _ _ _ hm
  obtain ⟨g0', rfl, hg0, hl0, hw0, hr0⟩ := read_graph (hval 0 26 v0 rfl rfl) h0
  have hr0' : GRoom g0' := hr0 (fun m hm => by
    have := List.all_eq_true.1 hsz _ (DataW.weights_mem_each (j := 0) rfl rfl m hm)
    rw [decide_eq_true_iff] at this
    exact this)
  obtain ⟨g1', rfl, hg1, hl1, hw1, hr1⟩ := read_graph (hval 1 26 v1 rfl rfl) h1
  have hr1' : GRoom g1' := hr1 (fun m hm => by
    have := List.all_eq_true.1 hsz _ (DataW.weights_mem_each (j := 1) rfl rfl m hm)
    rw [decide_eq_true_iff] at this
    exact this)
  clear hA0 hval0
  refine (walk W he g0' hg0 hl0 hw0 hr0' g1' hg1 hl1 hw1 hr1').mono fun e W' ⟨he, hnew⟩ => ?_
  have bel := hnew.below
  subst he
  exact ⟨_, rfl, _, _, _, [], _, [], hW', trodAll_mk1 (shut_bool Tryz.underlying4 _), (trodAll_cons_mk (Below.trod laidOut (by kernel_rfl) (of_decide_eq_true (by kernel_rfl)) k0 bel lt0) (trodAll_cons_mk (Below.trod laidOut (by kernel_rfl) (of_decide_eq_true (by kernel_rfl)) k1 bel lt1) trodAll_mk0)), rfl, bel.frame _, fun h => by cases h⟩

theorem reads (os : Os) {H : Type} (enc : TypeId × Value → H) : ∃ places, DataW.whole enc Tryz.prog ((laidWorld os).forCall (fun _ _ => 0) ⟨#[], #[.agg #[.string ByteArray.empty, .slice none 0 0, .slice none 0 0, .slice none 0 0, .slice none 0 0], .agg #[.string ByteArray.empty, .slice none 0 0, .slice none 0 0, .slice none 0 0, .slice none 0 0]], []⟩).memory Tryz.f8.params.toList Rows.sourceOneSpec.vars false #[.agg #[.string ByteArray.empty, .slice none 0 0, .slice none 0 0, .slice none 0 0, .slice none 0 0], .agg #[.string ByteArray.empty, .slice none 0 0, .slice none 0 0, .slice none 0 0, .slice none 0 0]].toList 8 = some ([.agg [.lit (.string []), .nil, .nil, .nil, .nil], .agg [.lit (.string []), .nil, .nil, .nil, .nil]], [], places) :=
  ⟨[], by kernel_rfl⟩

set_option maxRecDepth 100000 in
theorem lifted (os : Os) (started : os.Started) (H : Type) (enc : TypeId × Value → H) (F : Stop.Interp) :
    ReturnsInHanded {} Tryz.checked os 8 .any ((OpenSpec.ofChange Rows.sourceOneSpec).preRow enc Tryz.prog Tryz.f8 Rows.sourceOneRow.domain false Rows.sourceOneRow.laid) (((OpenSpec.ofChange Rows.sourceOneSpec).at F).post enc Tryz.prog Tryz.f8 false true false false) := by
  obtain ⟨places, hx⟩ := reads os enc
  refine returnsInHanded_of_row (C := Tryz.checked) (s := OpenSpec.ofChange Rows.sourceOneSpec) own started (by kernel_rfl) Tryz.func8
    (witness_row_at (enc := enc) (C := Tryz.checked) false (laidWorld os) #[.agg #[.string ByteArray.empty, .slice none 0 0, .slice none 0 0, .slice none 0 0, .slice none 0 0], .agg #[.string ByteArray.empty, .slice none 0 0, .slice none 0 0, .slice none 0 0, .slice none 0 0]] rfl (by kernel_rfl) (by kernel_rfl) (by kernel_rfl)
      (OpenSpec.preRow_of_cond 8 hx (by kernel_rfl) (fun k hk => by cases hk) (by kernel_rfl) (laid_met os _))) ?_
  intro W base args ds gs before hval hW _ _ hsz hL _ _
  exact contract H enc W base args ds gs before hval hW hsz hL

theorem said : Rows.SourceOneSaid :=
  OpenClaim.holds_of_cond 8 Tryz.f8 rfl rfl rfl rfl rfl rfl rfl ⟨rfl, rfl, rfl, rfl, rfl⟩ rfl rfl rfl rfl rfl (by kernel_rfl) Tryz.func8 (by kernel_rfl)
    (of_decide_eq_true (by kernel_rfl)) (by unfold Func.isWrapper; first | (rw [if_pos (by decide +kernel)]; kernel_rfl) | (rw [if_neg (by decide +kernel)]; exact ⟨rfl, rfl⟩))
    (fun os started H enc _ F => by rw [OpenClaim.pre_eq_preRow]; exact lifted os started H enc F)

theorem plain (f : FuncId) (fn : Func) (hf : Tryz.pinned.checked.prog.funcNamed "pianola/pianolalaw09.SourceOne" = some f) (hfn : Tryz.pinned.checked.prog.funcs[f]? = some fn) :
    true = Tryz.pinned.checked.prog.looks [] ∧ ∀ (j : Nat) t, fn.params[j]? = some t → Tryz.pinned.checked.prog.wantsStandIn t = false := by
  obtain rfl : f = 8 := Option.some.inj ((show Tryz.prog.funcNamed "pianola/pianolalaw09.SourceOne" = some 8 by kernel_rfl).symm.trans hf) |>.symm
  obtain rfl : fn = Tryz.f8 := (Option.some.inj (Tryz.func8.symm.trans hfn)).symm
  refine ⟨by kernel_rfl, fun j t ht => ?_⟩
  rw [Tryz.params8] at ht
  have hm := Array.mem_of_getElem? ht
  have : t = 26 := by
    simpa [or_assoc] using hm
  rcases this with rfl
  · exact (show Tryz.prog.wantsStandIn 26 = false by kernel_rfl)

/-- THE CARD. -/
theorem proved : Rows.SourceOneCardSaid :=
  Claim7.holds_tied_plain_at .later [] _ _ _ _ said (fun _ h => by cases h) (by kernel_rfl) (fun _ h => by cases h) sourceOne_row_tie rfl ⟨rfl, rfl⟩ (by kernel_rfl) rfl plain (by kernel_rfl)
end Go.Proofs.YtnedmonlofbahaaGreatDoor.sourceOne
