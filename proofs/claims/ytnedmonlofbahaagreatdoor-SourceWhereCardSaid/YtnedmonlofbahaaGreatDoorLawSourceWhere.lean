/-
  'SourceWhere': the law returns true at every input; what it is handed reads afterwards as before; the variables of the library that it reads hold what the program's text lays.
-/
import Derived.Test.YtnedmonlofbahaaGreatDoorSrcT
import Derived.Test.YtnedmonlofbahaaGreatDoorSrcC
namespace Go.Proofs.YtnedmonlofbahaaGreatDoor.sourceWhere
open Go Go.RowKit Go.Joins Go.ChangeShapes Go.WideShapes Go.ChangeAt
open Go.ChangeMaps (open_string shut_string)
set_option linter.all false

set_option maxRecDepth 100000 in
set_option maxHeartbeats 4000000 in
theorem walk (w : World) (he : EnvS w) (a0 : ByteArray) (h0 : a0.size ≤ 140737488351232) :
    Calls Tryz.prog 7 #[.string a0] w fun e w' => e = .returned (.bool true) ∧ New w w' := by
  have hs : a0.size ≤ 9223372036854775807 := by omega
  have hA1 := sparse_uni w a0 he.env hs
  obtain ⟨p0, p1⟩ := src_place (l := a0.data.toList)
  rw [toList_len] at p1
  have hfa := fun W (k : EtIs W) => fault_any W (srcF a0.data.toList) src_zero k
  have HE := Lib.hid he
  obtain ⟨res, hA⟩ : ∃ r, parseA a0.data.toList = r := ⟨_, rfl⟩
  obtain ⟨ev, hev⟩ : ∃ v, errV (srcF a0.data.toList) = v := ⟨_, rfl⟩
  rw [hev] at hA1 hfa
  cases res with
  | error ck =>
    obtain ⟨c, k⟩ := ck
    have e1 : srcF a0.data.toList = (c, (k : Int)) := by unfold srcF; rw [hA]
    have hc := (parse_fault hA).1
    rw [e1] at p0 p1 hfa
    simp only at p0 p1 hfa
    have hno := fun W (e : Env W) => skparse_no W a0 e hs c k hA
    have hc0 : (c == 0) = false := by simpa using hc
    have hc1 : (c != 0) = true := by simpa using hc
    have d1 : decide ((k : Int) < 0) = false := decide_eq_false (by omega)
    have d2 : decide ((a0.size : Int) < (k : Int)) = false := decide_eq_false (by omega)
    have i1 : ¬ (k : Int) < 0 := by omega
    have i2 : ¬ (a0.size : Int) < (k : Int) := by omega
    have d3 : decide (a0.size < k) = false := decide_eq_false (by omega)
    clear hA hc e1 hev he hs
    go_enter Tryz.func7, Tryz.ntmps7
    go_wp2_with fail
    refine hA1.mono ?_
    rintro e w1 ⟨q, rfl, hq, hql, hqb, n1⟩
    have n2 : New w1 (w1.alloc (.cells q.cs 26)) := (New.refl _).alloc _
    have hn1 := hno (w1.alloc (.cells q.cs 26)) (HE.out.env.new (n1.trans n2))
    have N1 := Lib.hid (n1.trans n2)
    simp only [Gr.v, Gr.cs] at hn1 ⊢
    clear hA1 hno hq hql hqb n1 n2
    go_wp2_with fail
    refine hn1.mono ?_
    rintro e w2 ⟨rfl, n3⟩
    have n4 : New w2 ((w2.alloc (.cells #[.string ⟨#[]⟩, .slice none 0 0] 52)).alloc (.cells #[I c, I (k : Int)] 33)) := ((New.refl _).alloc _).alloc _
    have hF : ((w2.alloc (.cells #[.string ⟨#[]⟩, .slice none 0 0] 52)).alloc (.cells #[I c, I (k : Int)] 33)).heap[w2.heap.size + 1]? = some (.cells #[I c, I (k : Int)] 33 (0, 0)) := by
      have := heap_alloc_new (w2.alloc (.cells #[.string ⟨#[]⟩, .slice none 0 0] 52)) (.cells #[I c, I (k : Int)] 33)
      simpa using this
    have N2 := Lib.hid ((N1.out.trans n3).trans n4)
    have hf1 := hfa _ (HE.out.et.new N2.out)
    have HF := Lib.hid hF
    clear hn1 n3 n4 hF hfa
    go_wp2_with fail
    refine hf1.mono ?_
    rintro e w3 ⟨rfl, n5⟩
    have n6 : New w3 (w3.alloc (.cells #[I c, I (k : Int)] 33)) := (New.refl _).alloc _
    obtain ⟨g0, g1, -, -, gl⟩ := two_get (heap_alloc_new w3 (.cells #[I c, I (k : Int)] 33))
    obtain ⟨f0, f1, -, -, fl⟩ := two_get (Keeps.heap (n5.trans n6) HF.out (fun h => h))
    have N3 := Lib.hid ((N2.out.trans n5).trans n6)
    have haw := awake_src _ (HE.out.new N3.out)
    clear hf1 n5 n6 HF
    go_wp2_with fail
    refine haw.mono ?_
    rintro e w4 ⟨rfl, n7⟩
    have A0 := New.cell n7 g0
    have A1 := New.cell n7 g1
    have B0 := New.cell n7 f0
    have B1 := New.cell n7 f1
    have hb1 := World.block_lt_of_cell? _ _ A0
    have hb2 := World.block_lt_of_cell? _ _ B0
    have N4 := Lib.hid (N3.out.trans n7)
    clear haw n7 g0 g1 gl f0 f1 fl
    go_wp2_with fail
    (try go_ret)
    exact ⟨rfl, N4.out⟩
  | ok x =>
    have hok := fun W (e : Env W) => skparse_ok W a0 e hs x hA
    have hbu := fun W (t : Sk) (ht : t.bare = x.mem) (h : SkAt W t) => build_uni W a0.data.toList x t hA ht h
    obtain ⟨l0, hl0⟩ : ∃ l, srcH a0.data.toList = l := ⟨_, rfl⟩
    rw [hl0] at hA1 hbu
    obtain ⟨f, hf⟩ : ∃ f, srcF a0.data.toList = f := ⟨_, rfl⟩
    rw [hf] at p0 p1 hfa hbu
    obtain ⟨c, k⟩ := f
    simp only at p0 p1 hfa hbu
    have d1 : decide (k < 0) = false := decide_eq_false (by omega)
    have d2 : decide ((a0.size : Int) < k) = false := decide_eq_false (by omega)
    have i1 : ¬ k < 0 := by omega
    have i2 : ¬ (a0.size : Int) < k := by omega
    clear hA hev he hs hf hl0
    go_enter Tryz.func7, Tryz.ntmps7
    go_wp2_with fail
    refine hA1.mono ?_
    rintro e w1 ⟨q, rfl, hq, hql, hqb, n1⟩
    have n2 : New w1 (w1.alloc (.cells q.cs 26)) := (New.refl _).alloc _
    have hn1 := hok (w1.alloc (.cells q.cs 26)) (HE.out.env.new (n1.trans n2))
    have N1 := Lib.hid (n1.trans n2)
    have HG := Lib.hid (heap_alloc_new w1 (.cells q.cs 26))
    have HQ := Lib.hid (hq.new n2)
    have HQL := Lib.hid hql
    have HQB := Lib.hid hqb
    have hqv : q.v = .agg #[.string q.name, .slice q.aa q.acts.length q.ac, .slice q.ea q.edges.length q.ec, .slice q.ia q.ins.length q.ic, .slice q.oa q.outs.length q.oc] := rfl
    simp only [Gr.cs] at hn1
    rw [hqv]
    clear hA1 hok hq hql hqb n1 n2 hqv
    go_wp2_with fail
    refine hn1.mono ?_
    rintro e w2 ⟨t, ht, rfl, hown, n3⟩
    have n4 : New w2 ((w2.alloc (.cells t.cs 52)).alloc (.cells #[I 0, I 0] 33)) := ((New.refl _).alloc _).alloc _
    have hF : ((w2.alloc (.cells t.cs 52)).alloc (.cells #[I 0, I 0] 33)).heap[w2.heap.size + 1]? = some (.cells #[I 0, I 0] 33 (0, 0)) := by
      have := heap_alloc_new (w2.alloc (.cells t.cs 52)) (.cells #[I 0, I 0] 33)
      simpa using this
    have hS : ((w2.alloc (.cells t.cs 52)).alloc (.cells #[I 0, I 0] 33)).heap[w2.heap.size]? = some (.cells t.cs 52 (0, 0)) := Keeps.heap (Keeps.alloc (S := fun _ => False) _ _) (heap_alloc_new w2 _) (fun h => h)
    have N2 := Lib.hid ((N1.out.trans n3).trans n4)
    have hf1 := hfa _ (HE.out.et.new N2.out)
    have hbt := fun W (n : New ((w2.alloc (.cells t.cs 52)).alloc (.cells #[I 0, I 0] 33)) W) => hbu W t ht ((hown.new (n4.trans n)).at)
    have HG2 := Lib.hid (Keeps.heap (n3.trans n4) HG.out (fun h => h))
    have HQ2 := Lib.hid (HQ.out.new (n3.trans n4))
    have HF := Lib.hid hF
    have HS := Lib.hid hS
    have HBT := Lib.hid hbt
    obtain ⟨name, ia, ic, items⟩ := t
    simp only [Sk.cs] at hf1
    have hv : Sk.v ⟨name, ia, ic, items⟩ = .agg #[.string name, .slice ia items.length ic] := rfl
    rw [hv]
    clear hn1 n3 n4 hF hS hfa hbu hbt hv hown ht HG HQ
    go_wp2_with fail
    refine hf1.mono ?_
    rintro e w3 ⟨rfl, n5⟩
    have n6 : New w3 (w3.alloc (.cells #[I c, I k] 33)) := (New.refl _).alloc _
    obtain ⟨g0, g1, -, -, gl⟩ := two_get (heap_alloc_new w3 (.cells #[I c, I k] 33))
    have HX := Lib.hid (heap_alloc_new w3 (.cells #[I c, I k] 33))
    obtain ⟨f0, f1, -, -, fl⟩ := two_get (Keeps.heap (n5.trans n6) HF.out (fun h => h))
    have hS3 := Keeps.heap (n5.trans n6) HS.out (fun h => h)
    simp only [Sk.cs] at hS3
    obtain ⟨s0, s1, -, -, sl⟩ := two_get hS3
    have hb1 := HBT.out (w3.alloc (.cells #[I c, I k] 33)) (n5.trans n6)
    have hv : Sk.v ⟨name, ia, ic, items⟩ = .agg #[.string name, .slice ia items.length ic] := rfl
    rw [hv] at hb1
    have N3 := Lib.hid ((N2.out.trans n5).trans n6)
    have HG3 := Lib.hid (Keeps.heap (n5.trans n6) HG2.out (fun h => h))
    have HQ3 := Lib.hid (HQ2.out.new (n5.trans n6))
    clear hf1 n5 n6 HF HS HBT HG2 HQ2 N2 N1 hS3 hv
    go_wp2_with fail
    refine hb1.mono ?_
    rintro e w4 ⟨q2, rfl, hq2, hq2b, n7⟩
    have n8 : New w4 ((w4.alloc (.cells q2.cs 26)).alloc (.cells #[I c, I k] 33)) := ((New.refl _).alloc _).alloc _
    have hY : ((w4.alloc (.cells q2.cs 26)).alloc (.cells #[I c, I k] 33)).heap[w4.heap.size + 1]? = some (.cells #[I c, I k] 33 (0, 0)) := by
      have := heap_alloc_new (w4.alloc (.cells q2.cs 26)) (.cells #[I c, I k] 33)
      simpa using this
    have hZ : ((w4.alloc (.cells q2.cs 26)).alloc (.cells #[I c, I k] 33)).heap[w4.heap.size]? = some (.cells q2.cs 26 (0, 0)) := Keeps.heap (Keeps.alloc (S := fun _ => False) _ _) (heap_alloc_new w4 _) (fun h => h)
    have N4 := Lib.hid ((N3.out.trans n7).trans n8)
    have haw := awake_src _ (HE.out.new N4.out)
    have HX4 := Lib.hid (Keeps.heap (n7.trans n8) HX.out (fun h => h))
    have HG4 := Lib.hid (Keeps.heap (n7.trans n8) HG3.out (fun h => h))
    have HQ4 := Lib.hid (HQ3.out.new (n7.trans n8))
    have HP4 := Lib.hid (hq2.new n8)
    have HPB := Lib.hid hq2b
    have HY := Lib.hid hY
    have HZ := Lib.hid hZ
    have hqv : q2.v = .agg #[.string q2.name, .slice q2.aa q2.acts.length q2.ac, .slice q2.ea q2.edges.length q2.ec, .slice q2.ia q2.ins.length q2.ic, .slice q2.oa q2.outs.length q2.oc] := rfl
    simp only [Gr.cs] at haw
    rw [hqv]
    clear hb1 n7 n8 hY hZ hq2 hq2b g0 g1 gl f0 f1 fl s0 s1 sl HX HG3 HQ3 N3 hqv
    go_wp2_with fail
    refine haw.mono ?_
    rintro e w5 ⟨rfl, n9⟩
    obtain ⟨g0, g1, -, -, gl⟩ := two_get (Keeps.heap n9 HX4.out (fun h => h))
    obtain ⟨y0, y1, -, -, yl⟩ := two_get (Keeps.heap n9 HY.out (fun h => h))
    obtain ⟨u0, u1, u2, u3, u4, ul⟩ := gr_cells (Keeps.heap n9 HG4.out (fun h => h))
    obtain ⟨v0, v1, v2, v3, v4, vl⟩ := gr_cells (Keeps.heap n9 HZ.out (fun h => h))
    have hsg := sameGraph_yes w5 q q2 (HQ4.out.new n9) (HP4.out.new n9) (by rw [HQB.out, HPB.out]) HQL.out
    simp only [Gr.v, Gr.cs] at hsg
    have N5 := Lib.hid (N4.out.trans n9)
    clear haw n9
    go_wp2_with fail
    refine hsg.mono ?_
    rintro e w6 ⟨rfl, n10⟩
    have N6 := Lib.hid (N5.out.trans n10)
    clear hsg n10
    go_wp2_with fail
    (try go_ret)
    exact ⟨rfl, N6.out⟩

set_option maxRecDepth 100000 in
theorem contract (H : Type) (enc : TypeId × Value → H) (W : World) (base : Nat) (args : Array Value) (ds gs : List (DataW H)) (before : List MemPlace)
    (hval0 : ∀ (j : Nat) t v, Tryz.f7.params[j]? = some t → args[j]? = some v → Value.okWide Tryz.prog W .any base t v)
    (hW : DataW.Whole enc Tryz.prog Tryz.f7.params.toList Rows.sourceWhereSpec.vars false W args.toList ds gs before)
    (hsz0 : (DataW.weightsEach Tryz.prog (Tryz.f7.params.toList ++ Rows.sourceWhereSpec.plain.varTypes Tryz.prog) (ds ++ gs)).all (· ≤ reachBytes) = true) (hL : laidMetH Tryz.prog Rows.sourceWhereRow.laid W) :
    Calls Tryz.prog 7 args W fun e W' => ∃ v, e = .returned v ∧ Rows.sourceWhereSpec.post enc Tryz.prog Tryz.f7 false true false false W args v W' := by
  have hval := hval0
  have hsz := hsz0
  clear hsz0
  have hW' := hW
  have he : EnvS W := env_of (by exact hL)
  obtain ⟨p, q, hA0, hV, rfl, hfz, hnd⟩ := hW
  have hA : DataW.TrodAll enc Tryz.prog W 0 (fun _ => true) true Tryz.f7.params.toList args.toList ds p := hA0
  rw [Tryz.params7] at hA hval hsz
  obtain ⟨v0, vs0, d0, ds0, p0, q0, hargs, rfl, rfl, h0, r0'⟩ := trodAll_cons hA
  obtain ⟨rfl, rfl, rfl⟩ := trodAll_nil r0'
  obtain rfl : args = #[v0] := by cases args; simp_all
  obtain ⟨rfl, rfl⟩ := trodVars_none hV
  have k0 := h0
  have lt0 : ∀ x ∈ p0, x.block < W.heap.size := by obtain ⟨m, hm⟩ := k0; exact DataW.trod_lt m _ _ _ hm
  obtain ⟨a0, rfl, e0, _, w0⟩ := open_string Tryz.underlying9 (hval 0 9 v0 rfl rfl) h0
  have s0 : a0.size ≤ 140737488351232 := by
    have hh := sized_string hsz (j := 0) (t := 9) (bytes := a0.data.toList) rfl (by rw [e0]; rfl)
    have hr : reachBytes = 140737488351232 := rfl
    rw [hr, Array.length_toList] at hh
    exact hh
  clear hA0 hval0
  refine (walk W he a0 s0).mono fun e W' ⟨he, hnew⟩ => ?_
  have bel := hnew.below
  subst he
  exact ⟨_, rfl, _, _, _, [], _, [], hW', trodAll_mk1 (shut_bool Tryz.underlying4 _), (trodAll_cons_mk (Below.trod laidOut (by kernel_rfl) (of_decide_eq_true (by kernel_rfl)) k0 bel lt0) trodAll_mk0), rfl, bel.frame _, fun h => by cases h⟩

theorem reads (os : Os) {H : Type} (enc : TypeId × Value → H) : ∃ places, DataW.whole enc Tryz.prog ((laidWorld os).forCall (fun _ _ => 0) ⟨#[], #[.string ByteArray.empty], []⟩).memory Tryz.f7.params.toList Rows.sourceWhereSpec.vars false #[.string ByteArray.empty].toList 8 = some ([.lit (.string [])], [], places) :=
  ⟨[], by kernel_rfl⟩

set_option maxRecDepth 100000 in
theorem lifted (os : Os) (started : os.Started) (H : Type) (enc : TypeId × Value → H) (F : Stop.Interp) :
    ReturnsInHanded {} Tryz.checked os 7 .any ((OpenSpec.ofChange Rows.sourceWhereSpec).preRow enc Tryz.prog Tryz.f7 Rows.sourceWhereRow.domain false Rows.sourceWhereRow.laid) (((OpenSpec.ofChange Rows.sourceWhereSpec).at F).post enc Tryz.prog Tryz.f7 false true false false) := by
  obtain ⟨places, hx⟩ := reads os enc
  refine returnsInHanded_of_row (C := Tryz.checked) (s := OpenSpec.ofChange Rows.sourceWhereSpec) own started (by kernel_rfl) Tryz.func7
    (witness_row_at (enc := enc) (C := Tryz.checked) false (laidWorld os) #[.string ByteArray.empty] rfl (by kernel_rfl) (by kernel_rfl) (by kernel_rfl)
      (OpenSpec.preRow_of_cond 8 hx (by kernel_rfl) (fun k hk => by cases hk) (by kernel_rfl) (laid_met os _))) ?_
  intro W base args ds gs before hval hW _ _ hsz hL _ _
  exact contract H enc W base args ds gs before hval hW hsz hL

theorem said : Rows.SourceWhereSaid :=
  OpenClaim.holds_of_cond 7 Tryz.f7 rfl rfl rfl rfl rfl rfl rfl ⟨rfl, rfl, rfl, rfl, rfl⟩ rfl rfl rfl rfl rfl (by kernel_rfl) Tryz.func7 (by kernel_rfl)
    (of_decide_eq_true (by kernel_rfl)) (by unfold Func.isWrapper; first | (rw [if_pos (by decide +kernel)]; kernel_rfl) | (rw [if_neg (by decide +kernel)]; exact ⟨rfl, rfl⟩))
    (fun os started H enc _ F => by rw [OpenClaim.pre_eq_preRow]; exact lifted os started H enc F)

theorem plain (f : FuncId) (fn : Func) (hf : Tryz.pinned.checked.prog.funcNamed "pianola/pianolalaw09.SourceWhere" = some f) (hfn : Tryz.pinned.checked.prog.funcs[f]? = some fn) :
    true = Tryz.pinned.checked.prog.looks [] ∧ ∀ (j : Nat) t, fn.params[j]? = some t → Tryz.pinned.checked.prog.wantsStandIn t = false := by
  obtain rfl : f = 7 := Option.some.inj ((show Tryz.prog.funcNamed "pianola/pianolalaw09.SourceWhere" = some 7 by kernel_rfl).symm.trans hf) |>.symm
  obtain rfl : fn = Tryz.f7 := (Option.some.inj (Tryz.func7.symm.trans hfn)).symm
  refine ⟨by kernel_rfl, fun j t ht => ?_⟩
  rw [Tryz.params7] at ht
  have hm := Array.mem_of_getElem? ht
  have : t = 9 := by
    simpa [or_assoc] using hm
  rcases this with rfl
  · exact (show Tryz.prog.wantsStandIn 9 = false by kernel_rfl)

theorem proved : Rows.SourceWhereCardSaid :=
  Claim7.holds_tied_plain_at .later [] _ _ _ _ said (fun _ h => by cases h) (by kernel_rfl) (fun _ h => by cases h) sourceWhere_row_tie rfl ⟨rfl, rfl⟩ (by kernel_rfl) rfl plain (by kernel_rfl)
end Go.Proofs.YtnedmonlofbahaaGreatDoor.sourceWhere
