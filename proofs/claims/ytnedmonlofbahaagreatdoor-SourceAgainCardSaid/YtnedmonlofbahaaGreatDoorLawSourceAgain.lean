/-
  'SourceAgain': the law returns true at every input; what it is handed reads afterwards as before; the variables of the library that it reads hold what the program's text lays.
-/
import Derived.Test.YtnedmonlofbahaaGreatDoorSrcT
import Derived.Test.YtnedmonlofbahaaGreatDoorSrcC
namespace Go.Proofs.YtnedmonlofbahaaGreatDoor.sourceAgain
open Go Go.RowKit Go.Joins Go.ChangeShapes Go.WideShapes Go.ChangeAt
open Go.ChangeMaps (open_string shut_string)
set_option linter.all false

set_option maxRecDepth 100000 in
set_option maxHeartbeats 4000000 in
theorem walk (w : World) (he : EnvS w) (a0 : ByteArray) (h0 : a0.size ≤ 140737488351232) :
    Calls Tryz.prog 6 #[.string a0] w fun e w' => e = .returned (.bool true) ∧ New w w' := by
  have hs : a0.size ≤ 9223372036854775807 := by omega
  have hA1 := sparse_any w a0 he.env hs
  have HE := Lib.hid he
  by_cases h0 : (srcF a0.data.toList).1 = 0
  case neg =>
    have hA2 : Calls Tryz.prog 10 #[.string a0] w fun e w' => e = .returned (.tuple #[zGr, .iface 33 (.agg #[I (srcF a0.data.toList).1, I (srcF a0.data.toList).2])]) ∧ New w w' := hA1.mono fun e w' h => by
      unfold SParsed at h
      rcases h with ⟨_, h1, h2⟩ | ⟨h1, _⟩
      · exact ⟨h1, h2⟩
      · exact absurd h1 h0
    clear hA1 h0 hs he
    go_enter Tryz.func6, Tryz.ntmps6
    go_wp2_with fail
    refine hA2.mono ?_
    rintro e w1 ⟨rfl, n1⟩
    have n2 : New w1 (w1.alloc (.cells #[.string ⟨#[]⟩, .slice none 0 0, .slice none 0 0, .slice none 0 0, .slice none 0 0] 26)) := (New.refl _).alloc _
    have HG := Lib.hid (heap_alloc_new w1 (.cells #[.string ⟨#[]⟩, .slice none 0 0, .slice none 0 0, .slice none 0 0, .slice none 0 0] 26))
    have N2 := Lib.hid (n1.trans n2)
    have haw := awake_src _ (HE.out.new N2.out)
    clear hA2 n1 n2
    go_wp2_with fail
    refine haw.mono ?_
    rintro e w2 ⟨rfl, n3⟩
    obtain ⟨u0, u1, u2, u3, u4, ul⟩ := gr_cells (Keeps.heap n3 HG.out (fun h => h))
    have N3 := Lib.hid (N2.out.trans n3)
    clear haw n3
    go_wp2_with fail
    (try go_ret)
    exact ⟨rfl, N3.out⟩
  case pos =>
    have hA2 : Calls Tryz.prog 10 #[.string a0] w fun e w' => ∃ q, e = .returned (.tuple #[q.v, .nilIface]) ∧ GrAt w' q ∧ (findG q).1 = 0 ∧ GNum q ∧ New w w' := hA1.mono fun e w' h => by
      unfold SParsed at h
      rcases h with ⟨h1, _⟩ | ⟨h1, B, q, _, h3, h4, h5, h6⟩
      · exact absurd h0 h1
      · obtain ⟨g1, g2, _, _⟩ := glen_src h1 h5
        exact ⟨q, h3, h4.at, g1, g2, h6⟩
    clear hA1 h0 hs he
    go_enter Tryz.func6, Tryz.ntmps6
    go_wp2_with fail
    refine hA2.mono ?_
    rintro e w1 ⟨q, rfl, hq, g1, g2, n1⟩
    have n2 : New w1 (w1.alloc (.cells q.cs 26)) := (New.refl _).alloc _
    have hpr := sprint_ok (w1.alloc (.cells q.cs 26)) q (HE.out.env.new (n1.trans n2)) (hq.new n2) g1 g2
    have HG := Lib.hid (heap_alloc_new w1 (.cells q.cs 26))
    have HQ := Lib.hid (hq.new n2)
    have hag := sparse_again q g1 g2
    have hsz : (⟨(printW (drawS q)).toArray⟩ : ByteArray).size ≤ 1048576 := by rw [arr_size]; exact draw_len (find_fair g1).1 g2
    have hp2 := fun (W : World) (h : Gr) (e : Env W) (ha : GrAt W h) (hb : h.bare = q.bare) => sprint_ok W h e ha (by rw [findG_same hb]; exact g1) (g2.same hb.symm)
    have hpe := fun (h : Gr) (hb : h.bare = q.bare) => draw_bare hb
    have hck := fun (W : World) (n : New (w1.alloc (.cells q.cs 26)) W) => ccheck_any W q ((hq.new n2).new n) (gr_len (find_fair g1).1)
    rw [g1] at hck
    have hsg := fun (W : World) (h : Gr) (n : New (w1.alloc (.cells q.cs 26)) W) (ha : GrAt W h) (hb : h.bare = q.bare) => sameGraph_yes W q h ((hq.new n2).new n) ha hb.symm (gr_len (find_fair g1).1)
    obtain ⟨T, hT⟩ : ∃ T : ByteArray, (⟨(printW (drawS q)).toArray⟩ : ByteArray) = T := ⟨_, rfl⟩
    have hp3 := fun (W : World) (h : Gr) (e : Env W) (ha : GrAt W h) (hb : h.bare = q.bare) => by
      have := hp2 W h e ha hb
      rw [hpe h hb, hT] at this
      exact this
    rw [hT] at hpr hag hsz
    have N2 := Lib.hid (n1.trans n2)
    have HP3 := Lib.hid hp3
    have HCK := Lib.hid hck
    have HSG := Lib.hid hsg
    have HAG := Lib.hid hag
    have hqv : q.v = .agg #[.string q.name, .slice q.aa q.acts.length q.ac, .slice q.ea q.edges.length q.ec, .slice q.ia q.ins.length q.ic, .slice q.oa q.outs.length q.oc] := rfl
    rw [hqv] at hpr ⊢
    simp only [Gr.cs] at hpr
    have hsI : ((T.size : Int) ≤ 1048576) := by omega
    have hsd : decide (T.size ≤ 1048576) = true := decide_eq_true hsz
    have hsi : decide ((T.size : Int) ≤ 1048576) = true := decide_eq_true hsI
    clear hA2 hq g1 g2 n1 n2 hp2 hpe hck hsg hT hp3 hag hqv
    go_wp2_with fail
    refine hpr.mono ?_
    rintro e w2 ⟨rfl, n3⟩
    have hag := HAG.out w2 (HE.out.env.new (N2.out.trans n3))
    have M3 := Lib.hid n3
    have N3 := Lib.hid (N2.out.trans n3)
    have HG3 := Lib.hid (Keeps.heap n3 HG.out (fun h => h))
    clear hpr n3 HAG HG
    go_wp2_with fail
    refine hag.mono ?_
    rintro e w3 ⟨h, rfl, hh, hhb, n4⟩
    have n5 : New w3 (w3.alloc (.cells h.cs 26)) := (New.refl _).alloc _
    have HH := Lib.hid (heap_alloc_new w3 (.cells h.cs 26))
    have hpr2 := HP3.out (w3.alloc (.cells h.cs 26)) h (HE.out.env.new ((N3.out.trans n4).trans n5)) (hh.new n5) hhb
    have M4 := Lib.hid ((M3.out.trans n4).trans n5)
    have N4 := Lib.hid ((N3.out.trans n4).trans n5)
    have HG4 := Lib.hid (Keeps.heap (n4.trans n5) HG3.out (fun h => h))
    have HHA := Lib.hid (hh.new n5)
    have HHB := Lib.hid hhb
    have hhv : h.v = .agg #[.string h.name, .slice h.aa h.acts.length h.ac, .slice h.ea h.edges.length h.ec, .slice h.ia h.ins.length h.ic, .slice h.oa h.outs.length h.oc] := rfl
    rw [hhv] at hpr2 ⊢
    simp only [Gr.cs] at hpr2
    clear hag n4 n5 hh hhb HP3 HG3 N3 M3 hhv
    go_wp2_with fail
    refine hpr2.mono ?_
    rintro e w4 ⟨rfl, n6⟩
    have M5 := Lib.hid (M4.out.trans n6)
    have N5 := Lib.hid (N4.out.trans n6)
    have haw := awake_src w4 (HE.out.new N5.out)
    have HG5 := Lib.hid (Keeps.heap n6 HG4.out (fun h => h))
    have HH5 := Lib.hid (Keeps.heap n6 HH.out (fun h => h))
    have HHA5 := Lib.hid (HHA.out.new n6)
    clear hpr2 n6 HG4 HH HHA M4 N4
    go_wp2_with fail
    refine haw.mono ?_
    rintro e w5 ⟨rfl, n7⟩
    obtain ⟨u0, u1, u2, u3, u4, ul⟩ := gr_cells (Keeps.heap n7 HG5.out (fun h => h))
    have hck := HCK.out w5 (M5.out.trans n7)
    have hqv : q.v = .agg #[.string q.name, .slice q.aa q.acts.length q.ac, .slice q.ea q.edges.length q.ec, .slice q.ia q.ins.length q.ic, .slice q.oa q.outs.length q.oc] := rfl
    rw [hqv] at hck
    have N6 := Lib.hid (N5.out.trans n7)
    have M6 := Lib.hid (M5.out.trans n7)
    have HG6 := Lib.hid (Keeps.heap n7 HG5.out (fun h => h))
    have HH6 := Lib.hid (Keeps.heap n7 HH5.out (fun h => h))
    have HHA6 := Lib.hid (HHA5.out.new n7)
    clear haw n7 HG5 HH5 HHA5 M5 N5 hqv HCK
    go_wp2_with fail
    refine hck.mono ?_
    rintro e w6 ⟨rfl, n8⟩
    clear u0 u1 u2 u3 u4 ul
    obtain ⟨u0, u1, u2, u3, u4, ul⟩ := gr_cells (Keeps.heap n8 HG6.out (fun h => h))
    obtain ⟨v0, v1, v2, v3, v4, vl⟩ := gr_cells (Keeps.heap n8 HH6.out (fun h => h))
    have hsg := HSG.out w6 h (M6.out.trans n8) (HHA6.out.new n8) HHB.out
    simp only [Gr.v, Gr.cs] at hsg
    have N7 := Lib.hid (N6.out.trans n8)
    clear hck n8 HG6 HH6 HHA6 M6 N6 HSG
    go_wp2_with fail
    refine hsg.mono ?_
    rintro e w7 ⟨rfl, n9⟩
    have N8 := Lib.hid (N7.out.trans n9)
    clear hsg n9
    go_wp2_with fail
    (try go_ret)
    exact ⟨rfl, N8.out⟩

set_option maxRecDepth 100000 in
theorem contract (H : Type) (enc : TypeId × Value → H) (W : World) (base : Nat) (args : Array Value) (ds gs : List (DataW H)) (before : List MemPlace)
    (hval0 : ∀ (j : Nat) t v, Tryz.f6.params[j]? = some t → args[j]? = some v → Value.okWide Tryz.prog W .any base t v)
    (hW : DataW.Whole enc Tryz.prog Tryz.f6.params.toList Rows.sourceAgainSpec.vars false W args.toList ds gs before)
    (hsz0 : (DataW.weightsEach Tryz.prog (Tryz.f6.params.toList ++ Rows.sourceAgainSpec.plain.varTypes Tryz.prog) (ds ++ gs)).all (· ≤ reachBytes) = true) (hL : laidMetH Tryz.prog Rows.sourceAgainRow.laid W) :
    Calls Tryz.prog 6 args W fun e W' => ∃ v, e = .returned v ∧ Rows.sourceAgainSpec.post enc Tryz.prog Tryz.f6 false true false false W args v W' := by
  have hval := hval0
  have hsz := hsz0
  clear hsz0
  have hW' := hW
  have he : EnvS W := env_of (by exact hL)
  obtain ⟨p, q, hA0, hV, rfl, hfz, hnd⟩ := hW
  have hA : DataW.TrodAll enc Tryz.prog W 0 (fun _ => true) true Tryz.f6.params.toList args.toList ds p := hA0
  rw [Tryz.params6] at hA hval hsz
  obtain ⟨v0, vs0, d0, ds0, p0, q0, hargs, rfl, rfl, h0, r0'⟩ := trodAll_cons hA
  obtain ⟨rfl, rfl, rfl⟩ := trodAll_nil r0'
  obtain rfl : args = #[v0] := by cases args; simp_all
  obtain ⟨rfl, rfl⟩ := trodVars_none hV
  have k0 := h0
  have lt0 : ∀ x ∈ p0, x.block < W.heap.size := by obtain ⟨m, hm⟩ := k0; exact DataW.trod_lt m _ _ _ hm
  obtain ⟨a0, rfl, e0, _, w0⟩ := open_string Tryz.underlying9 (hval 0 9 v0 rfl rfl) h0
  have s0 : a0.size ≤ 140737488351232 := by
    have hh := sized_string hsz (j := 0) (t := 9) (bytes := a0.data.toList) rfl (by rw [e0]; rfl)
    have hr : reachBytes = 140737488351232 := rfl
    rw [hr, Array.length_toList] at hh
    exact hh
  clear hA0 hval0
  refine (walk W he a0 s0).mono fun e W' ⟨he, hnew⟩ => ?_
  have bel := hnew.below
  subst he
  exact ⟨_, rfl, _, _, _, [], _, [], hW', trodAll_mk1 (shut_bool Tryz.underlying4 _), (trodAll_cons_mk (Below.trod laidOut (by kernel_rfl) (of_decide_eq_true (by kernel_rfl)) k0 bel lt0) trodAll_mk0), rfl, bel.frame _, fun h => by cases h⟩

theorem reads (os : Os) {H : Type} (enc : TypeId × Value → H) : ∃ places, DataW.whole enc Tryz.prog ((laidWorld os).forCall (fun _ _ => 0) ⟨#[], #[.string ByteArray.empty], []⟩).memory Tryz.f6.params.toList Rows.sourceAgainSpec.vars false #[.string ByteArray.empty].toList 8 = some ([.lit (.string [])], [], places) :=
  ⟨[], by kernel_rfl⟩

set_option maxRecDepth 100000 in
theorem lifted (os : Os) (started : os.Started) (H : Type) (enc : TypeId × Value → H) (F : Stop.Interp) :
    ReturnsInHanded {} Tryz.checked os 6 .any ((OpenSpec.ofChange Rows.sourceAgainSpec).preRow enc Tryz.prog Tryz.f6 Rows.sourceAgainRow.domain false Rows.sourceAgainRow.laid) (((OpenSpec.ofChange Rows.sourceAgainSpec).at F).post enc Tryz.prog Tryz.f6 false true false false) := by
  obtain ⟨places, hx⟩ := reads os enc
  refine returnsInHanded_of_row (C := Tryz.checked) (s := OpenSpec.ofChange Rows.sourceAgainSpec) own started (by kernel_rfl) Tryz.func6
    (witness_row_at (enc := enc) (C := Tryz.checked) false (laidWorld os) #[.string ByteArray.empty] rfl (by kernel_rfl) (by kernel_rfl) (by kernel_rfl)
      (OpenSpec.preRow_of_cond 8 hx (by kernel_rfl) (fun k hk => by cases hk) (by kernel_rfl) (laid_met os _))) ?_
  intro W base args ds gs before hval hW _ _ hsz hL _ _
  exact contract H enc W base args ds gs before hval hW hsz hL

theorem said : Rows.SourceAgainSaid :=
  OpenClaim.holds_of_cond 6 Tryz.f6 rfl rfl rfl rfl rfl rfl rfl ⟨rfl, rfl, rfl, rfl, rfl⟩ rfl rfl rfl rfl rfl (by kernel_rfl) Tryz.func6 (by kernel_rfl)
    (of_decide_eq_true (by kernel_rfl)) (by unfold Func.isWrapper; first | (rw [if_pos (by decide +kernel)]; kernel_rfl) | (rw [if_neg (by decide +kernel)]; exact ⟨rfl, rfl⟩))
    (fun os started H enc _ F => by rw [OpenClaim.pre_eq_preRow]; exact lifted os started H enc F)

theorem plain (f : FuncId) (fn : Func) (hf : Tryz.pinned.checked.prog.funcNamed "pianola/pianolalaw09.SourceAgain" = some f) (hfn : Tryz.pinned.checked.prog.funcs[f]? = some fn) :
    true = Tryz.pinned.checked.prog.looks [] ∧ ∀ (j : Nat) t, fn.params[j]? = some t → Tryz.pinned.checked.prog.wantsStandIn t = false := by
  obtain rfl : f = 6 := Option.some.inj ((show Tryz.prog.funcNamed "pianola/pianolalaw09.SourceAgain" = some 6 by kernel_rfl).symm.trans hf) |>.symm
  obtain rfl : fn = Tryz.f6 := (Option.some.inj (Tryz.func6.symm.trans hfn)).symm
  refine ⟨by kernel_rfl, fun j t ht => ?_⟩
  rw [Tryz.params6] at ht
  have hm := Array.mem_of_getElem? ht
  have : t = 9 := by
    simpa [or_assoc] using hm
  rcases this with rfl
  · exact (show Tryz.prog.wantsStandIn 9 = false by kernel_rfl)

theorem proved : Rows.SourceAgainCardSaid :=
  Claim7.holds_tied_plain_at .later [] _ _ _ _ said (fun _ h => by cases h) (by kernel_rfl) (fun _ h => by cases h) sourceAgain_row_tie rfl ⟨rfl, rfl⟩ (by kernel_rfl) rfl plain (by kernel_rfl)
end Go.Proofs.YtnedmonlofbahaaGreatDoor.sourceAgain
