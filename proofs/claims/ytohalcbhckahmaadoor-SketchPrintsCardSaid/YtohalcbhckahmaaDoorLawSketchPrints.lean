/-
  'SketchPrints': the law returns true at every input; what it is handed reads afterwards as before; the variables of the library that it reads hold what the program's text lays.
-/
import Derived.Test.YtohalcbhckahmaaDoorSkT
import Derived.Test.YtohalcbhckahmaaDoorSkRM
namespace Go.Proofs.YtohalcbhckahmaaDoor.sketchPrints
open Go Go.RowKit Go.Joins Go.ChangeShapes Go.WideShapes Go.ChangeAt
open Go.ChangeMaps (open_string shut_string)
set_option linter.all false

set_option maxRecDepth 100000 in
set_option maxHeartbeats 4000000 in
theorem walk (w : World) (he : Env w) (s0 : Sk) (h0 : SkAt w s0) (w0 : SWf w s0) (r0 : SRoom s0) :
    Calls Tryd.prog 4 #[s0.v] w fun e w' => e = .returned (.bool true) ∧ New w w' := by
  have hsb := w0.sbnd
  have hv0 : s0.v = .agg #[.string s0.name, .slice s0.ia s0.items.length s0.ic] := rfl
  obtain ⟨nm, hnm⟩ : ∃ n, s0.name = n := ⟨_, rfl⟩
  obtain ⟨ia, hia⟩ : ∃ n, s0.ia = n := ⟨_, rfl⟩
  obtain ⟨il, hil⟩ : ∃ n, s0.items.length = n := ⟨_, rfl⟩
  obtain ⟨ic, hic⟩ : ∃ n, s0.ic = n := ⟨_, rfl⟩
  rw [hnm, hia, hil, hic] at hv0
  have HNM := Lib.hid hnm
  have HIL := Lib.hid hil
  have hhe := fun W (n : New w W) => heavyS_any W s0 (h0.new n) r0
  have hle := fun W (n : New w W) (hf : SFew s0) => lentS_any W s0 (h0.new n) hf
  rw [hv0] at hhe hle ⊢
  have HS := Lib.hid h0
  have HSB := Lib.hid hsb
  have HV := Lib.hid hv0
  clear hnm hia hil hic h0 w0 r0 hsb hv0
  go_enter Tryd.func4, Tryd.ntmps4
  have na : New w (w.alloc (.cells #[.string nm, .slice ia il ic] 24)) := (New.refl w).alloc _
  have ha : (w.alloc (.cells #[.string nm, .slice ia il ic] 24)).heap[w.heap.size]? = some (.cells #[.string nm, .slice ia il ic] 24 (0, 0)) := heap_alloc_new w _
  go_upto_region 1 with (fail)
  obtain ⟨W, hW⟩ : ∃ W, W = w.alloc (.cells #[.string nm, .slice ia il ic] 24) := ⟨_, rfl⟩
  rw [← hW] at na ha ⊢
  clear hW
  obtain ⟨B0, hB0⟩ : ∃ b, w.heap.size = b := ⟨_, rfl⟩
  rw [hB0] at ha ⊢
  clear hB0
  obtain ⟨b0, b1, -, -, bl⟩ := sk_get ha
  have hh1 := hhe W na
  clear hhe ha
  go_wp2_with fail
  refine hh1.mono ?_
  rintro e w2 ⟨he2, n2⟩
  have N2 := Lib.hid (na.trans n2)
  rcases he2 with rfl | ⟨rfl, hfew⟩
  · go_wp2_with fail
    (try go_ret)
    exact ⟨rfl, N2.out⟩
  have c0 := New.cell n2 b0
  have c1 := New.cell n2 b1
  have hb2 := World.block_lt_of_cell? _ _ c0
  have hh2 := hle w2 N2.out hfew
  have HFW := Lib.hid hfew
  clear hh1 hle b0 b1 bl n2 na hfew
  go_wp2_with fail
  refine hh2.mono ?_
  intro e w3 hl3
  obtain ⟨p, rfl, hle3, n3⟩ := hl3.lended
  have N3 := Lib.hid (N2.out.trans n3)
  have d0 := New.cell n3 c0
  have d1 := New.cell n3 c1
  have hpa := printA_lent hle3.bare
  have hpr := print_any w3 p (he.new N3.out) hle3.at (HSB.out.bare hle3.bare)
  rw [hpa] at hpr
  obtain ⟨pa, hpa'⟩ : ∃ a, p.ia = a := ⟨_, rfl⟩
  obtain ⟨pc, hpc'⟩ : ∃ a, p.ic = a := ⟨_, rfl⟩
  have hpn : p.name = nm := by have := congrArg Sk.name hle3.bare; rw [← HNM.out]; exact this
  have hpl : p.items.length = il := by have h2 : p.items.map SIt.bare = s0.items.map SIt.bare := congrArg Sk.items hle3.bare; rw [map_len h2, HIL.out]
  have hv3 : p.v = .agg #[.string nm, .slice pa il pc] := by
    show Value.agg #[.string p.name, .slice p.ia p.items.length p.ic] = _
    rw [hpn, hpa', hpc', hpl]
  rw [hv3] at hpr ⊢
  have HLE := Lib.hid hle3
  have HV3 := Lib.hid hv3
  have HPI := Lib.hid (And.intro hpa' hpc')
  clear hh2 hl3 hle3 c0 c1 hb2 n3 hpa hpa' hpc' hpn hpl hv3
  clear hpr
  have m4 : New w3 (w3.alloc (.cells #[.string nm, .slice pa il pc] 24)) := (New.refl _).alloc _
  have hl4 : (w3.alloc (.cells #[.string nm, .slice pa il pc] 24)).heap[w3.heap.size]? = some (.cells #[.string nm, .slice pa il pc] 24 (0, 0)) := heap_alloc_new w3 _
  obtain ⟨l0, l1, -, -, ll⟩ := sk_get hl4
  have e0 := New.cell m4 d0
  have e1 := New.cell m4 d1
  have hbl := World.block_lt_of_cell? _ _ e0
  have N4 := Lib.hid (N3.out.trans m4)
  have HL4 := Lib.hid (HLE.out.new m4)
  have hpr := print_any _ p (he.new N4.out) HL4.out.at (HSB.out.bare HLE.out.bare)
  rw [printA_lent HLE.out.bare, HV3.out] at hpr
  obtain ⟨⟨TX, EC⟩, hte⟩ : ∃ r, printA s0 = r := ⟨_, rfl⟩
  rw [hte] at hpr
  simp only at hpr
  obtain ⟨X, hX⟩ : ∃ X : ByteArray, (⟨TX.toArray⟩ : ByteArray) = X := ⟨_, rfl⟩
  rw [hX] at hpr
  have hrp := fun W (n : New w W) => rprint_any W s0 (HS.out.new n) HSB.out
  rw [hte, HV.out] at hrp
  simp only [hX] at hrp
  clear hte hX hl4 m4 d0 d1
  go_wp2_with fail
  refine hpr.mono ?_
  rintro e w5 ⟨rfl, n5⟩
  have N5 := Lib.hid (N4.out.trans n5)
  have L0 := New.cell n5 l0
  have L1 := New.cell n5 l1
  have E0 := New.cell n5 e0
  have E1 := New.cell n5 e1
  have hb5 := World.block_lt_of_cell? _ _ L0
  have hb6 := World.block_lt_of_cell? _ _ E0
  have HL5 := Lib.hid (HL4.out.new n5)
  have hh6 := hrp w5 N5.out
  clear hpr hrp n5 l0 l1 ll e0 e1 hbl
  go_wp2_with fail
  refine hh6.mono ?_
  rintro e w6 ⟨rfl, n6⟩
  have N6 := Lib.hid (N5.out.trans n6)
  have l0 := New.cell n6 L0
  have l1 := New.cell n6 L1
  have e0 := New.cell n6 E0
  have e1 := New.cell n6 E1
  have hb7 := World.block_lt_of_cell? _ _ l0
  have hb8 := World.block_lt_of_cell? _ _ e0
  have HL6 := Lib.hid (HL5.out.new n6)
  have haw := awake_sk _ (he.new N6.out)
  clear hh6 n6 L0 L1 E0 E1 hb5 hb6
  go_wp2_with fail
  refine haw.mono ?_
  rintro e w7 ⟨rfl, n7⟩
  have L0 := New.cell n7 l0
  have L1 := New.cell n7 l1
  have E0 := New.cell n7 e0
  have E1 := New.cell n7 e1
  have hb5 := World.block_lt_of_cell? _ _ L0
  have hb6 := World.block_lt_of_cell? _ _ E0
  have N7 := Lib.hid (N6.out.trans n7)
  have hke := keptS_any w7 _ s0 p (HL6.out.new n7) (HS.out.new N7.out) HFW.out
  rw [HV3.out, HV.out] at hke
  clear haw n7 l0 l1 e0 e1 hb7 hb8
  go_wp2_with fail
  refine hke.mono ?_
  rintro e w8 ⟨rfl, n8⟩
  go_wp2_with fail
  (try go_ret)
  exact ⟨rfl, N7.out.trans n8⟩

set_option maxRecDepth 100000 in
theorem contract (H : Type) (enc : TypeId × Value → H) (W : World) (base : Nat) (args : Array Value) (ds gs : List (DataW H)) (before : List MemPlace)
    (hval0 : ∀ (j : Nat) t v, Tryd.f4.params[j]? = some t → args[j]? = some v → Value.okWide Tryd.prog W .any base t v)
    (hW : DataW.Whole enc Tryd.prog Tryd.f4.params.toList Rows.sketchPrintsSpec.vars false W args.toList ds gs before)
    (hsz0 : (DataW.weightsEach Tryd.prog (Tryd.f4.params.toList ++ Rows.sketchPrintsSpec.plain.varTypes Tryd.prog) (ds ++ gs)).all (· ≤ reachBytes) = true) (hL : laidMetH Tryd.prog Rows.sketchPrintsRow.laid W) :
    Calls Tryd.prog 4 args W fun e W' => ∃ v, e = .returned v ∧ Rows.sketchPrintsSpec.post enc Tryd.prog Tryd.f4 false true false false W args v W' := by
  have hval := hval0
  have hsz := hsz0
  clear hsz0
  have hW' := hW
  have he : Env W := env_of (by exact hL)
  obtain ⟨p, q, hA0, hV, rfl, hfz, hnd⟩ := hW
  have hA : DataW.TrodAll enc Tryd.prog W 0 (fun _ => true) true Tryd.f4.params.toList args.toList ds p := hA0
  rw [Tryd.params4] at hA hval hsz
  obtain ⟨v0, vs0, d0, ds0, p0, q0, hargs, rfl, rfl, h0, r0'⟩ := trodAll_cons hA
  obtain ⟨rfl, rfl, rfl⟩ := trodAll_nil r0'
  obtain rfl : args = #[v0] := by cases args; simp_all
  obtain ⟨rfl, rfl⟩ := trodVars_none hV
  have k0 := h0
  have lt0 : ∀ x ∈ p0, x.block < W.heap.size := by obtain ⟨m, hm⟩ := k0; exact DataW.trod_lt m _ _ _ hm
  obtain ⟨s0', rfl, hs0, hw0, hr0⟩ := read_sketch (hval 0 24 v0 rfl rfl) h0
  have hr0' := hr0 (fun m hm => by
    have := List.all_eq_true.1 hsz _ (DataW.weights_mem_each (j := 0) rfl rfl m hm)
    rw [decide_eq_true_iff] at this
    exact this)
  clear hA0 hval0
  refine (walk W he s0' hs0 hw0 hr0').mono fun e W' ⟨he, hnew⟩ => ?_
  have bel := hnew.below
  subst he
  exact ⟨_, rfl, _, _, _, [], _, [], hW', trodAll_mk1 (shut_bool Tryd.underlying4 _), (trodAll_cons_mk (Below.trod laidOut (by kernel_rfl) (of_decide_eq_true (by kernel_rfl)) k0 bel lt0) trodAll_mk0), rfl, bel.frame _, fun h => by cases h⟩

theorem reads (os : Os) {H : Type} (enc : TypeId × Value → H) : ∃ places, DataW.whole enc Tryd.prog ((laidWorld os).forCall (fun _ _ => 0) ⟨#[], #[.agg #[.string ByteArray.empty, .slice none 0 0]], []⟩).memory Tryd.f4.params.toList Rows.sketchPrintsSpec.vars false #[.agg #[.string ByteArray.empty, .slice none 0 0]].toList 8 = some ([.agg [.lit (.string []), .nil]], [], places) :=
  ⟨[], by kernel_rfl⟩

set_option maxRecDepth 100000 in
theorem lifted (os : Os) (started : os.Started) (H : Type) (enc : TypeId × Value → H) (F : Stop.Interp) :
    ReturnsInHanded {} Tryd.checked os 4 .any ((OpenSpec.ofChange Rows.sketchPrintsSpec).preRow enc Tryd.prog Tryd.f4 Rows.sketchPrintsRow.domain false Rows.sketchPrintsRow.laid) (((OpenSpec.ofChange Rows.sketchPrintsSpec).at F).post enc Tryd.prog Tryd.f4 false true false false) := by
  obtain ⟨places, hx⟩ := reads os enc
  refine returnsInHanded_of_row (C := Tryd.checked) (s := OpenSpec.ofChange Rows.sketchPrintsSpec) own started (by kernel_rfl) Tryd.func4
    (witness_row_at (enc := enc) (C := Tryd.checked) false (laidWorld os) #[.agg #[.string ByteArray.empty, .slice none 0 0]] rfl (by kernel_rfl) (by kernel_rfl) (by kernel_rfl)
      (OpenSpec.preRow_of_cond 8 hx (by kernel_rfl) (fun k hk => by cases hk) (by kernel_rfl) (laid_met os _))) ?_
  intro W base args ds gs before hval hW _ _ hsz hL _ _
  exact contract H enc W base args ds gs before hval hW hsz hL

theorem said : Rows.SketchPrintsSaid :=
  OpenClaim.holds_of_cond 4 Tryd.f4 rfl rfl rfl rfl rfl rfl rfl ⟨rfl, rfl, rfl, rfl, rfl⟩ rfl rfl rfl rfl rfl (by kernel_rfl) Tryd.func4 (by kernel_rfl)
    (of_decide_eq_true (by kernel_rfl)) (by unfold Func.isWrapper; first | (rw [if_pos (by decide +kernel)]; kernel_rfl) | (rw [if_neg (by decide +kernel)]; exact ⟨rfl, rfl⟩))
    (fun os started H enc _ F => by rw [OpenClaim.pre_eq_preRow]; exact lifted os started H enc F)

theorem plain (f : FuncId) (fn : Func) (hf : Tryd.pinned.checked.prog.funcNamed "pianola/pianolalaw05.SketchPrints" = some f) (hfn : Tryd.pinned.checked.prog.funcs[f]? = some fn) :
    true = Tryd.pinned.checked.prog.looks [] ∧ ∀ (j : Nat) t, fn.params[j]? = some t → Tryd.pinned.checked.prog.wantsStandIn t = false := by
  obtain rfl : f = 4 := Option.some.inj ((show Tryd.prog.funcNamed "pianola/pianolalaw05.SketchPrints" = some 4 by kernel_rfl).symm.trans hf) |>.symm
  obtain rfl : fn = Tryd.f4 := (Option.some.inj (Tryd.func4.symm.trans hfn)).symm
  refine ⟨by kernel_rfl, fun j t ht => ?_⟩
  rw [Tryd.params4] at ht
  have hm := Array.mem_of_getElem? ht
  have : t = 24 := by
    simpa [or_assoc] using hm
  rcases this with rfl
  · exact (show Tryd.prog.wantsStandIn 24 = false by kernel_rfl)

/-- THE CARD. -/
theorem proved : Rows.SketchPrintsCardSaid :=
  Claim7.holds_tied_plain_at .later [] _ _ _ _ said (fun _ h => by cases h) (by kernel_rfl) (fun _ h => by cases h) sketchPrints_row_tie rfl ⟨rfl, rfl⟩ (by kernel_rfl) rfl plain (by kernel_rfl)
end Go.Proofs.YtohalcbhckahmaaDoor.sketchPrints
