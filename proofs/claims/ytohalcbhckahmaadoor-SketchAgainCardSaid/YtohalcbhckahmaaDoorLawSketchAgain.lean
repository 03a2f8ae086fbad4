/-
  'SketchAgain': the law returns true at every input; what it is handed reads afterwards as before; the variables of the library that it reads hold what the program's text lays.
-/
import Derived.Test.YtohalcbhckahmaaDoorSkT
import Derived.Test.YtohalcbhckahmaaDoorSkO
namespace Go.Proofs.YtohalcbhckahmaaDoor.sketchAgain
open Go Go.RowKit Go.Joins Go.ChangeShapes Go.WideShapes Go.ChangeAt
open Go.ChangeMaps (open_string shut_string)
set_option linter.all false

set_option maxRecDepth 100000 in
set_option maxHeartbeats 4000000 in
theorem walk (w : World) (he : Env w) (a0 : ByteArray) (h0 : a0.size ≤ 140737488351232) :
    Calls Tryd.prog 6 #[.string a0] w fun e w' => e = .returned (.bool true) ∧ New w w' := by
  have hs : a0.size ≤ 9223372036854775807 := by omega
  obtain ⟨res, hA⟩ : ∃ r, parseA a0.data.toList = r := ⟨_, rfl⟩
  cases res with
  | error ck =>
    obtain ⟨c, k⟩ := ck
    obtain ⟨hc, hk⟩ := parse_fault hA
    have hno := skparse_no w a0 he hs c k hA
    have hc0 : (c == 0) = false := by simpa using hc
    have hc1 : (c != 0) = true := by simpa using hc
    clear hA hc hk
    go_enter Tryd.func6, Tryd.ntmps6
    go_wp2_with fail
    refine hno.mono ?_
    rintro e w1 ⟨rfl, k1⟩
    have m1 : New w1 ((w1.alloc (.cells #[.string ⟨#[]⟩, .slice none 0 0] 24)).alloc (.cells #[I c, I (k : Int)] 27)) := ((New.refl _).alloc _).alloc _
    have hS1 : ((w1.alloc (.cells #[.string ⟨#[]⟩, .slice none 0 0] 24)).alloc (.cells #[I c, I (k : Int)] 27)).heap[w1.heap.size]? = some (.cells #[.string ⟨#[]⟩, .slice none 0 0] 24 (0, 0)) := Keeps.heap (Keeps.alloc (S := fun _ => False) _ _) (heap_alloc_new w1 _) (fun h => h)
    have hF1 : ((w1.alloc (.cells #[.string ⟨#[]⟩, .slice none 0 0] 24)).alloc (.cells #[I c, I (k : Int)] 27)).heap[w1.heap.size + 1]? = some (.cells #[I c, I (k : Int)] 27 (0, 0)) := by
      have := heap_alloc_new (w1.alloc (.cells #[.string ⟨#[]⟩, .slice none 0 0] 24)) (.cells #[I c, I (k : Int)] 27)
      simpa using this
    obtain ⟨s0, s1, -, -, sl⟩ := sk_get hS1
    obtain ⟨f0, f1, -, -, fl⟩ := sk_get hF1
    have N1 := Lib.hid (k1.trans m1)
    have haw := awake_sk _ (he.new N1.out)
    clear hno hS1 hF1 k1 m1
    go_wp2_with fail
    refine haw.mono ?_
    rintro e w2 ⟨rfl, n2⟩
    have S0 := New.cell n2 s0
    have S1 := New.cell n2 s1
    have hB := World.block_lt_of_cell? _ _ S0
    clear haw s0 s1 sl f0 f1 fl
    go_wp2_with fail
    (try go_ret)
    exact ⟨rfl, N1.out.trans n2⟩
  | ok x =>
    obtain ⟨hro, hlen⟩ := read_ok hA
    have hok := skparse_ok w a0 he hs x hA
    rw [toList_len] at hlen
    have hln := hro.ln
    rw [toList_len] at hln
    have hbd := hro.bnd (by rw [toList_len]; exact hlen)
    have hpa := printA_two hro.nm hro.rt
    have HRO := Lib.hid hro
    clear hA hro
    go_enter Tryd.func6, Tryd.ntmps6
    go_wp2_with fail
    refine (hok).mono ?_
    rintro e w1 ⟨w1t, w1ht, rfl, w1own, kw1⟩
    obtain ⟨w1nm, w1ia, w1ic, w1it⟩ := w1t
    have mw1 : New w1 ((w1.alloc (.cells #[.string w1nm, .slice w1ia w1it.length w1ic] 24)).alloc (.cells #[I 0, I 0] 27)) := ((New.refl _).alloc _).alloc _
    have hSw1 : ((w1.alloc (.cells #[.string w1nm, .slice w1ia w1it.length w1ic] 24)).alloc (.cells #[I 0, I 0] 27)).heap[w1.heap.size]? = some (.cells #[.string w1nm, .slice w1ia w1it.length w1ic] 24 (0, 0)) := Keeps.heap (Keeps.alloc (S := fun _ => False) _ _) (heap_alloc_new w1 _) (fun h => h)
    have hFw1 : ((w1.alloc (.cells #[.string w1nm, .slice w1ia w1it.length w1ic] 24)).alloc (.cells #[I 0, I 0] 27)).heap[w1.heap.size + 1]? = some (.cells #[I 0, I 0] 27 (0, 0)) := by
      have := heap_alloc_new (w1.alloc (.cells #[.string w1nm, .slice w1ia w1it.length w1ic] 24)) (.cells #[I 0, I 0] 27)
      simpa using this
    obtain ⟨w1s0, w1s1, -, -, w1sl⟩ := sk_get hSw1
    obtain ⟨w1f0, w1f1, -, -, w1fl⟩ := sk_get hFw1
    have N1 := Lib.hid ((kw1.trans mw1))
    have Dw1 := Lib.hid (kw1.trans mw1)
    have Ow1 := Lib.hid (w1own.at.new mw1)
    have Uw1 := Lib.hid w1own
    have Tw1 := Lib.hid w1ht
    have hv : Sk.v ⟨w1nm, w1ia, w1ic, w1it⟩ = .agg #[.string w1nm, .slice w1ia w1it.length w1ic] := rfl
    rw [hv]
    clear hv hSw1 hFw1 kw1 mw1 w1own w1ht
    have hpr := skprint_ok _ ⟨w1nm, w1ia, w1ic, w1it⟩ 0 (he.new N1.out) x hbd Tw1.out Ow1.out
    have hv : Sk.v ⟨w1nm, w1ia, w1ic, w1it⟩ = .agg #[.string w1nm, .slice w1ia w1it.length w1ic] := rfl
    rw [hv] at hpr
    have HBD := Lib.hid hbd
    clear hok hv hbd
    rcases hpa with ⟨hp1, hp2⟩ | ⟨hp1, hp2⟩
    · rw [hp2] at hpr
      have hbig : (262144 : Int) < (a0.size : Int) := by omega
      have hbd2 : decide ((262144 : Int) < (a0.size : Int)) = true := decide_eq_true hbig
      clear hp1 hp2
      go_wp2_with fail
      refine hpr.mono ?_
      rintro e w2 ⟨rfl, n2⟩
      have N2 := Lib.hid (N1.out.trans n2)
      have haw := awake_sk _ (he.new N2.out)
      clear hpr n2 w1s0 w1s1 w1sl w1f0 w1f1 w1fl
      go_wp2_with fail
      refine haw.mono ?_
      rintro e w3 ⟨rfl, n3⟩
      go_wp2_with fail
      (try go_ret)
      exact ⟨rfl, N2.out.trans n3⟩
    · rw [hp2] at hpr
      obtain ⟨X, hX⟩ : ∃ X : ByteArray, (⟨(printW x.mem).toArray⟩ : ByteArray) = X := ⟨_, rfl⟩
      have hXl : X.data.toList = printW x.mem := by rw [← hX]
      have hXs : X.size ≤ 1048576 := by rw [← toList_len, hXl]; exact hp1
      obtain ⟨y, hy, hyb⟩ := printed_parse x.mem HRO.out.nm HRO.out.rt HRO.out.bd hp1
      rw [skL_bare] at hyb
      rw [← hXl] at hy
      rw [hX] at hpr
      have hok2 := fun W e => skparse_ok W X e (by omega) y hy
      have HYB := Lib.hid hyb
      clear hX hXl hy hyb hp1 hp2
      go_wp2_with fail
      refine hpr.mono ?_
      rintro e w2 ⟨rfl, n2⟩
      have N2 := Lib.hid (N1.out.trans n2)
      have O2 := Lib.hid (Ow1.out.new n2)
      have a0' := New.cell n2 w1s0
      have a1' := New.cell n2 w1s1
      have hh2 := hok2 w2 (he.new N2.out)
      clear hpr n2 w1s0 w1s1 w1sl w1f0 w1f1 w1fl hok2
      go_wp2_with fail
      refine (hh2).mono ?_
      rintro e w3 ⟨w3t, w3ht, rfl, w3own, kw3⟩
      obtain ⟨w3nm, w3ia, w3ic, w3it⟩ := w3t
      have mw3 : New w3 ((w3.alloc (.cells #[.string w3nm, .slice w3ia w3it.length w3ic] 24)).alloc (.cells #[I 0, I 0] 27)) := ((New.refl _).alloc _).alloc _
      have hSw3 : ((w3.alloc (.cells #[.string w3nm, .slice w3ia w3it.length w3ic] 24)).alloc (.cells #[I 0, I 0] 27)).heap[w3.heap.size]? = some (.cells #[.string w3nm, .slice w3ia w3it.length w3ic] 24 (0, 0)) := Keeps.heap (Keeps.alloc (S := fun _ => False) _ _) (heap_alloc_new w3 _) (fun h => h)
      have hFw3 : ((w3.alloc (.cells #[.string w3nm, .slice w3ia w3it.length w3ic] 24)).alloc (.cells #[I 0, I 0] 27)).heap[w3.heap.size + 1]? = some (.cells #[I 0, I 0] 27 (0, 0)) := by
        have := heap_alloc_new (w3.alloc (.cells #[.string w3nm, .slice w3ia w3it.length w3ic] 24)) (.cells #[I 0, I 0] 27)
        simpa using this
      obtain ⟨w3s0, w3s1, -, -, w3sl⟩ := sk_get hSw3
      obtain ⟨w3f0, w3f1, -, -, w3fl⟩ := sk_get hFw3
      have N3 := Lib.hid (N2.out.trans (kw3.trans mw3))
      have Dw3 := Lib.hid (kw3.trans mw3)
      have Ow3 := Lib.hid (w3own.at.new mw3)
      have Uw3 := Lib.hid w3own
      have Tw3 := Lib.hid w3ht
      have hv : Sk.v ⟨w3nm, w3ia, w3ic, w3it⟩ = .agg #[.string w3nm, .slice w3ia w3it.length w3ic] := rfl
      rw [hv]
      clear hv hSw3 hFw3 kw3 mw3 w3own w3ht
      have b0 := New.cell Dw3.out a0'
      have b1 := New.cell Dw3.out a1'
      have O3 := Lib.hid (O2.out.new Dw3.out)
      have haw := awake_sk _ (he.new N3.out)
      clear hh2 a0' a1'
      go_wp2_with fail
      refine haw.mono ?_
      rintro e w4 ⟨rfl, n4⟩
      have A0 := New.cell n4 b0
      have A1 := New.cell n4 b1
      have B0 := New.cell n4 w3s0
      have B1 := New.cell n4 w3s1
      have C0 := New.cell n4 w3f0
      have C1 := New.cell n4 w3f1
      have hb1 := World.block_lt_of_cell? _ _ A0
      have hb2 := World.block_lt_of_cell? _ _ B0
      have hb3 := World.block_lt_of_cell? _ _ C0
      have hsb := HBD.out.mem Tw1.out
      have hal := fun W (n : New w4 W) => alike_yes W ⟨w1nm, w1ia, w1ic, w1it⟩ ⟨w3nm, w3ia, w3ic, w3it⟩ ((O3.out.new n4).new n) ((Ow3.out.new n4).new n) (alike_of Tw1.out Tw3.out HYB.out.symm).1 (alike_of Tw1.out Tw3.out HYB.out.symm).2 hsb.i (fun z hz => (hsb.bd z hz).ln)
      have hv1 : Sk.v ⟨w1nm, w1ia, w1ic, w1it⟩ = .agg #[.string w1nm, .slice w1ia w1it.length w1ic] := rfl
      have hv2 : Sk.v ⟨w3nm, w3ia, w3ic, w3it⟩ = .agg #[.string w3nm, .slice w3ia w3it.length w3ic] := rfl
      rw [hv1, hv2] at hal
      have N4 := Lib.hid (N3.out.trans n4)
      clear haw b0 b1 w3s0 w3s1 w3sl w3f0 w3f1 w3fl hsb n4 hv1 hv2
      go_wp2_with fail
      refine (hal _ (New.refl _)).mono ?_
      rintro e w5 ⟨rfl, n5⟩
      go_wp2_with fail
      (try go_ret)
      exact ⟨rfl, N4.out.trans n5⟩

set_option maxRecDepth 100000 in
theorem contract (H : Type) (enc : TypeId × Value → H) (W : World) (base : Nat) (args : Array Value) (ds gs : List (DataW H)) (before : List MemPlace)
    (hval0 : ∀ (j : Nat) t v, Tryd.f6.params[j]? = some t → args[j]? = some v → Value.okWide Tryd.prog W .any base t v)
    (hW : DataW.Whole enc Tryd.prog Tryd.f6.params.toList Rows.sketchAgainSpec.vars false W args.toList ds gs before)
    (hsz0 : (DataW.weightsEach Tryd.prog (Tryd.f6.params.toList ++ Rows.sketchAgainSpec.plain.varTypes Tryd.prog) (ds ++ gs)).all (· ≤ reachBytes) = true) (hL : laidMetH Tryd.prog Rows.sketchAgainRow.laid W) :
    Calls Tryd.prog 6 args W fun e W' => ∃ v, e = .returned v ∧ Rows.sketchAgainSpec.post enc Tryd.prog Tryd.f6 false true false false W args v W' := by
  have hval := hval0
  have hsz := hsz0
  clear hsz0
  have hW' := hW
  have he : Env W := env_of (by exact hL)
  obtain ⟨p, q, hA0, hV, rfl, hfz, hnd⟩ := hW
  have hA : DataW.TrodAll enc Tryd.prog W 0 (fun _ => true) true Tryd.f6.params.toList args.toList ds p := hA0
  rw [Tryd.params6] at hA hval hsz
  obtain ⟨v0, vs0, d0, ds0, p0, q0, hargs, rfl, rfl, h0, r0'⟩ := trodAll_cons hA
  obtain ⟨rfl, rfl, rfl⟩ := trodAll_nil r0'
  obtain rfl : args = #[v0] := by cases args; simp_all
  obtain ⟨rfl, rfl⟩ := trodVars_none hV
  have k0 := h0
  have lt0 : ∀ x ∈ p0, x.block < W.heap.size := by obtain ⟨m, hm⟩ := k0; exact DataW.trod_lt m _ _ _ hm
  obtain ⟨a0, rfl, e0, _, w0⟩ := open_string Tryd.underlying9 (hval 0 9 v0 rfl rfl) h0
  have s0 : a0.size ≤ 140737488351232 := by
    have hh := sized_string hsz (j := 0) (t := 9) (bytes := a0.data.toList) rfl (by rw [e0]; rfl)
    have hr : reachBytes = 140737488351232 := rfl
    rw [hr, Array.length_toList] at hh
    exact hh
  clear hA0 hval0
  refine (walk W he a0 s0).mono fun e W' ⟨he, hnew⟩ => ?_
  have bel := hnew.below
  subst he
  exact ⟨_, rfl, _, _, _, [], _, [], hW', trodAll_mk1 (shut_bool Tryd.underlying4 _), (trodAll_cons_mk (Below.trod laidOut (by kernel_rfl) (of_decide_eq_true (by kernel_rfl)) k0 bel lt0) trodAll_mk0), rfl, bel.frame _, fun h => by cases h⟩

theorem reads (os : Os) {H : Type} (enc : TypeId × Value → H) : ∃ places, DataW.whole enc Tryd.prog ((laidWorld os).forCall (fun _ _ => 0) ⟨#[], #[.string ByteArray.empty], []⟩).memory Tryd.f6.params.toList Rows.sketchAgainSpec.vars false #[.string ByteArray.empty].toList 8 = some ([.lit (.string [])], [], places) :=
  ⟨[], by kernel_rfl⟩

set_option maxRecDepth 100000 in
theorem lifted (os : Os) (started : os.Started) (H : Type) (enc : TypeId × Value → H) (F : Stop.Interp) :
    ReturnsInHanded {} Tryd.checked os 6 .any ((OpenSpec.ofChange Rows.sketchAgainSpec).preRow enc Tryd.prog Tryd.f6 Rows.sketchAgainRow.domain false Rows.sketchAgainRow.laid) (((OpenSpec.ofChange Rows.sketchAgainSpec).at F).post enc Tryd.prog Tryd.f6 false true false false) := by
  obtain ⟨places, hx⟩ := reads os enc
  refine returnsInHanded_of_row (C := Tryd.checked) (s := OpenSpec.ofChange Rows.sketchAgainSpec) own started (by kernel_rfl) Tryd.func6
    (witness_row_at (enc := enc) (C := Tryd.checked) false (laidWorld os) #[.string ByteArray.empty] rfl (by kernel_rfl) (by kernel_rfl) (by kernel_rfl)
      (OpenSpec.preRow_of_cond 8 hx (by kernel_rfl) (fun k hk => by cases hk) (by kernel_rfl) (laid_met os _))) ?_
  intro W base args ds gs before hval hW _ _ hsz hL _ _
  exact contract H enc W base args ds gs before hval hW hsz hL

theorem said : Rows.SketchAgainSaid :=
  OpenClaim.holds_of_cond 6 Tryd.f6 rfl rfl rfl rfl rfl rfl rfl ⟨rfl, rfl, rfl, rfl, rfl⟩ rfl rfl rfl rfl rfl (by kernel_rfl) Tryd.func6 (by kernel_rfl)
    (of_decide_eq_true (by kernel_rfl)) (by unfold Func.isWrapper; first | (rw [if_pos (by decide +kernel)]; kernel_rfl) | (rw [if_neg (by decide +kernel)]; exact ⟨rfl, rfl⟩))
    (fun os started H enc _ F => by rw [OpenClaim.pre_eq_preRow]; exact lifted os started H enc F)

theorem plain (f : FuncId) (fn : Func) (hf : Tryd.pinned.checked.prog.funcNamed "pianola/pianolalaw05.SketchAgain" = some f) (hfn : Tryd.pinned.checked.prog.funcs[f]? = some fn) :
    true = Tryd.pinned.checked.prog.looks [] ∧ ∀ (j : Nat) t, fn.params[j]? = some t → Tryd.pinned.checked.prog.wantsStandIn t = false := by
  obtain rfl : f = 6 := Option.some.inj ((show Tryd.prog.funcNamed "pianola/pianolalaw05.SketchAgain" = some 6 by kernel_rfl).symm.trans hf) |>.symm
  obtain rfl : fn = Tryd.f6 := (Option.some.inj (Tryd.func6.symm.trans hfn)).symm
  refine ⟨by kernel_rfl, fun j t ht => ?_⟩
  rw [Tryd.params6] at ht
  have hm := Array.mem_of_getElem? ht
  have : t = 9 := by
    simpa [or_assoc] using hm
  rcases this with rfl
  · exact (show Tryd.prog.wantsStandIn 9 = false by kernel_rfl)

/-- THE CARD. -/
theorem proved : Rows.SketchAgainCardSaid :=
  Claim7.holds_tied_plain_at .later [] _ _ _ _ said (fun _ h => by cases h) (by kernel_rfl) (fun _ h => by cases h) sketchAgain_row_tie rfl ⟨rfl, rfl⟩ (by kernel_rfl) rfl plain (by kernel_rfl)
end Go.Proofs.YtohalcbhckahmaaDoor.sketchAgain
