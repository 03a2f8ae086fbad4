/-
  'SketchBack': the law returns true at every input; what it is handed reads afterwards as before; the variables of the library that it reads hold what the program's text lays.
-/
import Derived.Test.YtohalcbhckahmaaDoorSkT
import Derived.Test.YtohalcbhckahmaaDoorSkW
namespace Go.Proofs.YtohalcbhckahmaaDoor.sketchBack
open Go Go.RowKit Go.Joins Go.ChangeShapes Go.WideShapes Go.ChangeAt
open Go.ChangeMaps (open_string shut_string)
set_option linter.all false

set_option maxRecDepth 100000 in
set_option maxHeartbeats 4000000 in
theorem walk (w : World) (he : Env w) (s0 : Sk) (h0 : SkAt w s0) (w0 : SWf w s0) (r0 : SRoom s0) :
    Calls Tryd.prog 5 #[s0.v] w fun e w' => e = .returned (.bool true) ∧ New w w' := by
  have hsb := w0.sbnd
  have hv0 : s0.v = .agg #[.string s0.name, .slice s0.ia s0.items.length s0.ic] := rfl
  obtain ⟨nm, hnm⟩ : ∃ n, s0.name = n := ⟨_, rfl⟩
  obtain ⟨ia, hia⟩ : ∃ n, s0.ia = n := ⟨_, rfl⟩
  obtain ⟨il, hil⟩ : ∃ n, s0.items.length = n := ⟨_, rfl⟩
  obtain ⟨ic, hic⟩ : ∃ n, s0.ic = n := ⟨_, rfl⟩
  rw [hnm, hia, hil, hic] at hv0
  have HNM := Lib.hid hnm
  have HIL := Lib.hid hil
  have hhe := fun W (n : New w W) => heavyS_any W s0 (h0.new n) r0
  have hle := fun W (n : New w W) (hf : SFew s0) => lentS_any W s0 (h0.new n) hf
  rw [hv0] at hhe hle ⊢
  have HS := Lib.hid h0
  have HSB := Lib.hid hsb
  have HV := Lib.hid hv0
  clear hnm hia hil hic h0 w0 r0 hsb hv0
  go_enter Tryd.func5, Tryd.ntmps5
  have na : New w (w.alloc (.cells #[.string nm, .slice ia il ic] 24)) := (New.refl w).alloc _
  have ha : (w.alloc (.cells #[.string nm, .slice ia il ic] 24)).heap[w.heap.size]? = some (.cells #[.string nm, .slice ia il ic] 24 (0, 0)) := heap_alloc_new w _
  go_upto_region 1 with (fail)
  obtain ⟨W, hW⟩ : ∃ W, W = w.alloc (.cells #[.string nm, .slice ia il ic] 24) := ⟨_, rfl⟩
  rw [← hW] at na ha ⊢
  clear hW
  obtain ⟨B0, hB0⟩ : ∃ b, w.heap.size = b := ⟨_, rfl⟩
  rw [hB0] at ha ⊢
  clear hB0
  obtain ⟨b0, b1, -, -, bl⟩ := sk_get ha
  have hh1 := hhe W na
  clear hhe ha
  go_wp2_with fail
  refine hh1.mono ?_
  rintro e w2 ⟨he2, n2⟩
  have N2 := Lib.hid (na.trans n2)
  rcases he2 with rfl | ⟨rfl, hfew⟩
  · go_wp2_with fail
    (try go_ret)
    exact ⟨rfl, N2.out⟩
  have c0 := New.cell n2 b0
  have c1 := New.cell n2 b1
  have hb2 := World.block_lt_of_cell? _ _ c0
  have hh2 := hle w2 N2.out hfew
  have HFW := Lib.hid hfew
  clear hh1 hle b0 b1 bl n2 na hfew
  go_wp2_with fail
  refine hh2.mono ?_
  intro e w3 hl3
  obtain ⟨p, rfl, hle3, n3⟩ := hl3.lended
  have N3 := Lib.hid (N2.out.trans n3)
  have d0 := New.cell n3 c0
  have d1 := New.cell n3 c1
  have hpa := printA_lent hle3.bare
  have hpr := print_any w3 p (he.new N3.out) hle3.at (HSB.out.bare hle3.bare)
  rw [hpa] at hpr
  obtain ⟨pa, hpa'⟩ : ∃ a, p.ia = a := ⟨_, rfl⟩
  obtain ⟨pc, hpc'⟩ : ∃ a, p.ic = a := ⟨_, rfl⟩
  have hpn : p.name = nm := by have := congrArg Sk.name hle3.bare; rw [← HNM.out]; exact this
  have hpl : p.items.length = il := by have h2 : p.items.map SIt.bare = s0.items.map SIt.bare := congrArg Sk.items hle3.bare; rw [map_len h2, HIL.out]
  have hv3 : p.v = .agg #[.string nm, .slice pa il pc] := by
    show Value.agg #[.string p.name, .slice p.ia p.items.length p.ic] = _
    rw [hpn, hpa', hpc', hpl]
  rw [hv3] at hpr ⊢
  have HLE := Lib.hid hle3
  have HPI := Lib.hid (And.intro hpa' hpc')
  clear hh2 hl3 hle3 c0 c1 hb2 n3 hpa hpa' hpc' hpn hpl hv3
  rcases printA_three s0 with hp | hp | ⟨hn, hr, hp1, hp⟩
  · rw [hp] at hpr
    clear hp
    go_wp2_with fail
    refine hpr.mono ?_
    rintro e w4 ⟨rfl, n4⟩
    have N4 := Lib.hid (N3.out.trans n4)
    have haw := awake_sk _ (he.new N4.out)
    clear hpr n4 d0 d1
    go_wp2_with fail
    refine haw.mono ?_
    rintro e w5 ⟨rfl, n5⟩
    go_wp2_with fail
    (try go_ret)
    exact ⟨rfl, N4.out.trans n5⟩
  · rw [hp] at hpr
    clear hp
    go_wp2_with fail
    refine hpr.mono ?_
    rintro e w4 ⟨rfl, n4⟩
    have N4 := Lib.hid (N3.out.trans n4)
    have haw := awake_sk _ (he.new N4.out)
    clear hpr n4 d0 d1
    go_wp2_with fail
    refine haw.mono ?_
    rintro e w5 ⟨rfl, n5⟩
    go_wp2_with fail
    (try go_ret)
    exact ⟨rfl, N4.out.trans n5⟩
  · rw [hp] at hpr
    obtain ⟨X, hX⟩ : ∃ X : ByteArray, (⟨(printW s0).toArray⟩ : ByteArray) = X := ⟨_, rfl⟩
    have hXl : X.data.toList = printW s0 := by rw [← hX]
    have hXs : X.size ≤ 1048576 := by rw [← toList_len, hXl]; exact hp1
    obtain ⟨y, hy, hyb⟩ := printed_parse s0 hn hr (fun x hx => ⟨(HSB.out.bd x hx).p0, (HSB.out.bd x hx).p1, (HSB.out.bd x hx).xs⟩) hp1
    rw [← hXl] at hy
    rw [hX] at hpr
    obtain ⟨hro, hlen⟩ := read_ok hy
    have hbd := hro.bnd hlen
    have hpy : ∀ t : Sk, t.bare = y.mem → printA y.mem = (printW s0, 0) := fun t ht => by
      obtain ⟨h1, h2⟩ := skL_of ht hyb
      rw [← hp, printA_noat h1 h2, ← printA_bare t, ht]
    have hok2 := fun W e => skparse_ok W X e (by omega) y hy
    have HYB := Lib.hid hyb
    have HBD := Lib.hid hbd
    have HPY := Lib.hid hpy
    have HX := Lib.hid hX
    clear hX hXl hy hyb hp1 hp hn hr hro hlen hbd hpy
    go_wp2_with fail
    refine hpr.mono ?_
    rintro e w4 ⟨rfl, n4⟩
    have N4 := Lib.hid (N3.out.trans n4)
    have e0 := New.cell n4 d0
    have e1 := New.cell n4 d1
    have hh2 := hok2 w4 (he.new N4.out)
    clear hpr n4 d0 d1 hok2
    go_wp2_with fail
    refine (hh2).mono ?_
    rintro e w5 ⟨w5t, w5ht, rfl, w5own, kw5⟩
    obtain ⟨w5nm, w5ia, w5ic, w5it⟩ := w5t
    have mw5 : New w5 ((w5.alloc (.cells #[.string w5nm, .slice w5ia w5it.length w5ic] 24)).alloc (.cells #[I 0, I 0] 27)) := ((New.refl _).alloc _).alloc _
    have hSw5 : ((w5.alloc (.cells #[.string w5nm, .slice w5ia w5it.length w5ic] 24)).alloc (.cells #[I 0, I 0] 27)).heap[w5.heap.size]? = some (.cells #[.string w5nm, .slice w5ia w5it.length w5ic] 24 (0, 0)) := Keeps.heap (Keeps.alloc (S := fun _ => False) _ _) (heap_alloc_new w5 _) (fun h => h)
    have hFw5 : ((w5.alloc (.cells #[.string w5nm, .slice w5ia w5it.length w5ic] 24)).alloc (.cells #[I 0, I 0] 27)).heap[w5.heap.size + 1]? = some (.cells #[I 0, I 0] 27 (0, 0)) := by
      have := heap_alloc_new (w5.alloc (.cells #[.string w5nm, .slice w5ia w5it.length w5ic] 24)) (.cells #[I 0, I 0] 27)
      simpa using this
    obtain ⟨w5s0, w5s1, -, -, w5sl⟩ := sk_get hSw5
    obtain ⟨w5f0, w5f1, -, -, w5fl⟩ := sk_get hFw5
    have N5 := Lib.hid (N4.out.trans (kw5.trans mw5))
    have Dw5 := Lib.hid (kw5.trans mw5)
    have Ow5 := Lib.hid (w5own.at.new mw5)
    have Uw5 := Lib.hid w5own
    have Tw5 := Lib.hid w5ht
    have hv : Sk.v ⟨w5nm, w5ia, w5ic, w5it⟩ = .agg #[.string w5nm, .slice w5ia w5it.length w5ic] := rfl
    rw [hv]
    clear hv hSw5 hFw5 kw5 mw5 w5own w5ht
    have f0 := New.cell Dw5.out e0
    have f1 := New.cell Dw5.out e1
    have hpr2 := skprint_ok _ ⟨w5nm, w5ia, w5ic, w5it⟩ 0 (he.new N5.out) y HBD.out Tw5.out Ow5.out
    rw [HPY.out _ Tw5.out, HX.out] at hpr2
    have hv : Sk.v ⟨w5nm, w5ia, w5ic, w5it⟩ = .agg #[.string w5nm, .slice w5ia w5it.length w5ic] := rfl
    rw [hv] at hpr2
    clear hh2 e0 e1 hv
    go_wp2_with fail
    refine hpr2.mono ?_
    rintro e w6 ⟨rfl, n6⟩
    have g0 := New.cell n6 f0
    have g1 := New.cell n6 f1
    have t0 := New.cell n6 w5s0
    have t1 := New.cell n6 w5s1
    have u0 := New.cell n6 w5f0
    have u1 := New.cell n6 w5f1
    have N6 := Lib.hid (N5.out.trans n6)
    have D6 := Lib.hid (Dw5.out.trans n6)
    have O6 := Lib.hid (Ow5.out.new n6)
    have haw := awake_sk _ (he.new N6.out)
    have hb1 := World.block_lt_of_cell? _ _ g0
    have hb2 := World.block_lt_of_cell? _ _ t0
    have hb3 := World.block_lt_of_cell? _ _ u0
    clear hpr2 f0 f1 w5s0 w5s1 w5sl w5f0 w5f1 w5fl n6
    go_wp2_with fail
    refine haw.mono ?_
    rintro e w7 ⟨rfl, n7⟩
    have G0 := New.cell n7 g0
    have G1 := New.cell n7 g1
    have T0 := New.cell n7 t0
    have T1 := New.cell n7 t1
    have U0 := New.cell n7 u0
    have U1 := New.cell n7 u1
    have hb4 := World.block_lt_of_cell? _ _ G0
    have hb5 := World.block_lt_of_cell? _ _ T0
    have hb6 := World.block_lt_of_cell? _ _ U0
    obtain ⟨hq1, hq2⟩ := skL_of Tw5.out HYB.out
    have N7 := Lib.hid (N6.out.trans n7)
    have hal := fun W (n : New w7 W) => alike_yes W s0 ⟨w5nm, w5ia, w5ic, w5it⟩ ((HS.out.new N7.out).new n) ((O6.out.new n7).new n) hq1 hq2 (by have := HFW.out.n; omega) (fun z hz => by have := HFW.out.ix z hz; omega)
    have hv1 : s0.v = .agg #[.string nm, .slice ia il ic] := HV.out
    have hv2 : Sk.v ⟨w5nm, w5ia, w5ic, w5it⟩ = .agg #[.string w5nm, .slice w5ia w5it.length w5ic] := rfl
    rw [hv1, hv2] at hal
    clear haw g0 g1 t0 t1 u0 u1 hb1 hb2 hb3 n7 hq1 hq2 hv1 hv2
    go_wp2_with fail
    refine (hal _ (New.refl _)).mono ?_
    rintro e w8 ⟨rfl, n8⟩
    go_wp2_with fail
    (try go_ret)
    exact ⟨rfl, N7.out.trans n8⟩

set_option maxRecDepth 100000 in
theorem contract (H : Type) (enc : TypeId × Value → H) (W : World) (base : Nat) (args : Array Value) (ds gs : List (DataW H)) (before : List MemPlace)
    (hval0 : ∀ (j : Nat) t v, Tryd.f5.params[j]? = some t → args[j]? = some v → Value.okWide Tryd.prog W .any base t v)
    (hW : DataW.Whole enc Tryd.prog Tryd.f5.params.toList Rows.sketchBackSpec.vars false W args.toList ds gs before)
    (hsz0 : (DataW.weightsEach Tryd.prog (Tryd.f5.params.toList ++ Rows.sketchBackSpec.plain.varTypes Tryd.prog) (ds ++ gs)).all (· ≤ reachBytes) = true) (hL : laidMetH Tryd.prog Rows.sketchBackRow.laid W) :
    Calls Tryd.prog 5 args W fun e W' => ∃ v, e = .returned v ∧ Rows.sketchBackSpec.post enc Tryd.prog Tryd.f5 false true false false W args v W' := by
  have hval := hval0
  have hsz := hsz0
  clear hsz0
  have hW' := hW
  have he : Env W := env_of (by exact hL)
  obtain ⟨p, q, hA0, hV, rfl, hfz, hnd⟩ := hW
  have hA : DataW.TrodAll enc Tryd.prog W 0 (fun _ => true) true Tryd.f5.params.toList args.toList ds p := hA0
  rw [Tryd.params5] at hA hval hsz
  obtain ⟨v0, vs0, d0, ds0, p0, q0, hargs, rfl, rfl, h0, r0'⟩ := trodAll_cons hA
  obtain ⟨rfl, rfl, rfl⟩ := trodAll_nil r0'
  obtain rfl : args = #[v0] := by cases args; simp_all
  obtain ⟨rfl, rfl⟩ := trodVars_none hV
  have k0 := h0
  have lt0 : ∀ x ∈ p0, x.block < W.heap.size := by obtain ⟨m, hm⟩ := k0; exact DataW.trod_lt m _ _ _ hm
  obtain ⟨s0', rfl, hs0, hw0, hr0⟩ := read_sketch (hval 0 24 v0 rfl rfl) h0
  have hr0' := hr0 (fun m hm => by
    have := List.all_eq_true.1 hsz _ (DataW.weights_mem_each (j := 0) rfl rfl m hm)
    rw [decide_eq_true_iff] at this
    exact this)
  clear hA0 hval0
  refine (walk W he s0' hs0 hw0 hr0').mono fun e W' ⟨he, hnew⟩ => ?_
  have bel := hnew.below
  subst he
  exact ⟨_, rfl, _, _, _, [], _, [], hW', trodAll_mk1 (shut_bool Tryd.underlying4 _), (trodAll_cons_mk (Below.trod laidOut (by kernel_rfl) (of_decide_eq_true (by kernel_rfl)) k0 bel lt0) trodAll_mk0), rfl, bel.frame _, fun h => by cases h⟩

theorem reads (os : Os) {H : Type} (enc : TypeId × Value → H) : ∃ places, DataW.whole enc Tryd.prog ((laidWorld os).forCall (fun _ _ => 0) ⟨#[], #[.agg #[.string ByteArray.empty, .slice none 0 0]], []⟩).memory Tryd.f5.params.toList Rows.sketchBackSpec.vars false #[.agg #[.string ByteArray.empty, .slice none 0 0]].toList 8 = some ([.agg [.lit (.string []), .nil]], [], places) :=
  ⟨[], by kernel_rfl⟩

set_option maxRecDepth 100000 in
theorem lifted (os : Os) (started : os.Started) (H : Type) (enc : TypeId × Value → H) (F : Stop.Interp) :
    ReturnsInHanded {} Tryd.checked os 5 .any ((OpenSpec.ofChange Rows.sketchBackSpec).preRow enc Tryd.prog Tryd.f5 Rows.sketchBackRow.domain false Rows.sketchBackRow.laid) (((OpenSpec.ofChange Rows.sketchBackSpec).at F).post enc Tryd.prog Tryd.f5 false true false false) := by
  obtain ⟨places, hx⟩ := reads os enc
  refine returnsInHanded_of_row (C := Tryd.checked) (s := OpenSpec.ofChange Rows.sketchBackSpec) own started (by kernel_rfl) Tryd.func5
    (witness_row_at (enc := enc) (C := Tryd.checked) false (laidWorld os) #[.agg #[.string ByteArray.empty, .slice none 0 0]] rfl (by kernel_rfl) (by kernel_rfl) (by kernel_rfl)
      (OpenSpec.preRow_of_cond 8 hx (by kernel_rfl) (fun k hk => by cases hk) (by kernel_rfl) (laid_met os _))) ?_
  intro W base args ds gs before hval hW _ _ hsz hL _ _
  exact contract H enc W base args ds gs before hval hW hsz hL

theorem said : Rows.SketchBackSaid :=
  OpenClaim.holds_of_cond 5 Tryd.f5 rfl rfl rfl rfl rfl rfl rfl ⟨rfl, rfl, rfl, rfl, rfl⟩ rfl rfl rfl rfl rfl (by kernel_rfl) Tryd.func5 (by kernel_rfl)
    (of_decide_eq_true (by kernel_rfl)) (by unfold Func.isWrapper; first | (rw [if_pos (by decide +kernel)]; kernel_rfl) | (rw [if_neg (by decide +kernel)]; exact ⟨rfl, rfl⟩))
    (fun os started H enc _ F => by rw [OpenClaim.pre_eq_preRow]; exact lifted os started H enc F)

theorem plain (f : FuncId) (fn : Func) (hf : Tryd.pinned.checked.prog.funcNamed "pianola/pianolalaw05.SketchBack" = some f) (hfn : Tryd.pinned.checked.prog.funcs[f]? = some fn) :
    true = Tryd.pinned.checked.prog.looks [] ∧ ∀ (j : Nat) t, fn.params[j]? = some t → Tryd.pinned.checked.prog.wantsStandIn t = false := by
  obtain rfl : f = 5 := Option.some.inj ((show Tryd.prog.funcNamed "pianola/pianolalaw05.SketchBack" = some 5 by kernel_rfl).symm.trans hf) |>.symm
  obtain rfl : fn = Tryd.f5 := (Option.some.inj (Tryd.func5.symm.trans hfn)).symm
  refine ⟨by kernel_rfl, fun j t ht => ?_⟩
  rw [Tryd.params5] at ht
  have hm := Array.mem_of_getElem? ht
  have : t = 24 := by
    simpa [or_assoc] using hm
  rcases this with rfl
  · exact (show Tryd.prog.wantsStandIn 24 = false by kernel_rfl)

/-- THE CARD. -/
theorem proved : Rows.SketchBackCardSaid :=
  Claim7.holds_tied_plain_at .later [] _ _ _ _ said (fun _ h => by cases h) (by kernel_rfl) (fun _ h => by cases h) sketchBack_row_tie rfl ⟨rfl, rfl⟩ (by kernel_rfl) rfl plain (by kernel_rfl)
end Go.Proofs.YtohalcbhckahmaaDoor.sketchBack
