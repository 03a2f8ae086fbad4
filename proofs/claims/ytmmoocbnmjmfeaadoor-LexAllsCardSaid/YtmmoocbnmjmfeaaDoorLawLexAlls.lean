/-
  'LexAlls': the law returns true at every input; what it is handed reads afterwards as before; the variables of the library that it reads hold what the program's text lays.
-/
import Derived.Test.YtmmoocbnmjmfeaaDoorLexT
import Derived.Test.YtmmoocbnmjmfeaaDoorLexU
import Derived.Test.YtmmoocbnmjmfeaaDoorLexW
namespace Go.Proofs.YtmmoocbnmjmfeaaDoor.lexAlls
open Go Go.RowKit Go.Joins Go.ChangeShapes Go.WideShapes Go.ChangeAt
open Go.ChangeMaps (open_string shut_string)
set_option linter.all false

set_option maxRecDepth 100000 in
set_option maxHeartbeats 4000000 in
theorem walk (w : World) (he : Env w) (a0 : ByteArray) (h0 : a0.size ≤ 140737488351232) :
    Calls Tryd.prog 3 #[.string a0] w fun e w' => e = .returned (.bool true) ∧ New w w' := by
  have hs : a0.size ≤ 9223372036854775807 := by omega
  obtain ⟨⟨l, c, k⟩, hA⟩ : ∃ r, lexA a0.data.toList = r := ⟨_, rfl⟩
  have nA := (lexA_count (l := a0.data.toList)).1
  rw [hA] at nA
  simp only at nA
  obtain ⟨n, hn⟩ : ∃ n, l.length = n := ⟨_, rfl⟩
  have cO : ∀ W e w', AllAns W a0 e w' → ∃ a cc, e = .returned (.tuple #[.slice a n cc, .agg #[I c, I k]]) ∧ New W w' ∧ w'.ownsRow W.heap.size 33 4 (.slice a n cc) n (l.flatMap tokCells) := by
    rintro W e w' ⟨a, cc, rfl, n1, ho⟩
    rw [hA] at ho ⊢
    simp only at *
    subst hn
    exact ⟨a, cc, rfl, n1, ho⟩
  have cA := fun W (e : Env W) => (call_any W a0 e hs).mono (cO W)
  have cR := fun W => (rall_any W a0 hs).mono (cO W)
  have hcc : (c == c) = true := by simp
  have hkk : ((k : Int) == (k : Int)) = true := by simp
  have hn2 : n ≤ 2000000 := by omega
  have HLN := Lib.hid hn
  clear hA hs nA hn cO
  go_enter Tryd.func3, Tryd.ntmps3
  go_wp2_with fail
  refine (cA _ he).mono ?_
  rintro e w1 ⟨p1, c1, rfl, n1, o1⟩
  have m1 : New w1 (w1.alloc (.cells #[I c, I k] 25)) := (New.refl _).alloc _
  have t1 : New w (w1.alloc (.cells #[I c, I k] 25)) := n1.trans m1
  go_wp2_with fail
  refine (cA _ (he.new t1)).mono ?_
  rintro e w2 ⟨p2, c2, rfl, n2, o2⟩
  have m2 : New w2 (w2.alloc (.cells #[I c, I k] 25)) := (New.refl _).alloc _
  have t2 : New w (w2.alloc (.cells #[I c, I k] 25)) := (t1.trans n2).trans m2
  have fA0 : w2.cell? ⟨w1.heap.size, 0, none⟩ = some (I c) := New.cell n2 (by rw [cell_of_block (heap_alloc_new w1 _) 0]; simp)
  have fA1 : w2.cell? ⟨w1.heap.size, 1, none⟩ = some (I k) := New.cell n2 (by rw [cell_of_block (heap_alloc_new w1 _) 1]; simp)
  go_wp2_with fail
  refine (cR _).mono ?_
  rintro e w3 ⟨p3, c3, rfl, n3, o3⟩
  have k3 : New w2 w3 := m2.trans n3
  have gA0 := New.cell k3 fA0
  have gA1 := New.cell k3 fA1
  have gB0 : w3.cell? ⟨w2.heap.size, 0, none⟩ = some (I c) := New.cell n3 (by rw [cell_of_block (heap_alloc_new w2 _) 0]; simp)
  have gB1 : w3.cell? ⟨w2.heap.size, 1, none⟩ = some (I k) := New.cell n3 (by rw [cell_of_block (heap_alloc_new w2 _) 1]; simp)
  have bA : w1.heap.size < w3.heap.size := World.block_lt_of_cell? w3 _ gA0
  have bB : w2.heap.size < w3.heap.size := World.block_lt_of_cell? w3 _ gB0
  have m3 : New w3 (w3.alloc (.cells #[I c, I k] 25)) := (New.refl w3).alloc _
  have t3 : New w (w3.alloc (.cells #[I c, I k] 25)) := (t2.trans n3).trans m3
  have r1 := (((m1.trans n2).trans k3).trans m3).owns o1
  have r2 := (k3.trans m3).owns o2
  have r3 := m3.owns o3
  have q2 := ownsRow_rebase r2 (base' := w.heap.size) (fun k hk => by
    have := (own_of_blk r2 (blk_of_own hk)).1
    have := t1.size; omega)
  have dis : ∀ k, blk p1 k → ¬ blk p2 k := fun k h1 h2 => by
    have e1 := (own_of_blk r2 h2).1
    have e2 := (own_of_blk o1 h1).2
    have := m1.size; omega
  have T3 : Two w (w3.alloc (.cells #[I c, I k] 25)) p1 n c1 l p2 n c2 l := ⟨t3, r1, q2, dis⟩
  have hs1 := fun W (x : New (w3.alloc (.cells #[I c, I k] 25)) W) => same_yes W p1 p3 c1 c3 l ((SlAt.of_owns r1).new x) ((SlAt.of_owns r3).new x) n HLN.out (by omega)
  have hs2 := fun W (x : New (w3.alloc (.cells #[I c, I k] 25)) W) => same_yes W p2 p3 c2 c3 l ((SlAt.of_owns r2).new x) ((SlAt.of_owns r3).new x) n HLN.out (by omega)
  have HT := Lib.hid T3
  clear n1 n2 n3 o1 o2 o3 r1 r2 r3 q2 dis T3 fA0 fA1 k3 m1 m2 m3 t1 t2 cA cR
  go_wp2_with fail
  refine (hs1 _ (New.refl _)).mono ?_
  rintro e w4 ⟨rfl, n4⟩
  go_wp2_with fail
  refine (hs2 _ n4).mono ?_
  rintro e w5 ⟨rfl, n5⟩
  go_wp2_with fail
  refine (awake_any _ (he.new ((t3.trans n4).trans n5))).mono ?_
  rintro e w6 ⟨rfl, n6⟩
  have T6 : Hid (Two w w6 p1 n c1 l p2 n c2 l) := Lib.hid ⟨HT.out.nw.trans ((n4.trans n5).trans n6), ((n4.trans n5).trans n6).owns HT.out.oa, ((n4.trans n5).trans n6).owns HT.out.ob, HT.out.dis⟩
  clear n4 n5 n6 hs1 hs2 HT
  go_wp2_with fail
  refine (apart_any w w6 p1 n c1 l p2 n c2 l T6.out HLN.out HLN.out hn2 hn2).mono ?_
  rintro e w7 ⟨rfl, n7⟩
  go_wp2_with fail
  go_ret
  exact ⟨rfl, n7⟩

set_option maxRecDepth 100000 in
theorem contract (H : Type) (enc : TypeId × Value → H) (W : World) (base : Nat) (args : Array Value) (ds gs : List (DataW H)) (before : List MemPlace)
    (hval0 : ∀ (j : Nat) t v, Tryd.f3.params[j]? = some t → args[j]? = some v → Value.okWide Tryd.prog W .any base t v)
    (hW : DataW.Whole enc Tryd.prog Tryd.f3.params.toList Rows.lexAllsSpec.vars false W args.toList ds gs before)
    (hsz0 : (DataW.weightsEach Tryd.prog (Tryd.f3.params.toList ++ Rows.lexAllsSpec.plain.varTypes Tryd.prog) (ds ++ gs)).all (· ≤ reachBytes) = true) (hL : laidMetH Tryd.prog Rows.lexAllsRow.laid W) :
    Calls Tryd.prog 3 args W fun e W' => ∃ v, e = .returned v ∧ Rows.lexAllsSpec.post enc Tryd.prog Tryd.f3 false true false false W args v W' := by
  have hval := hval0
  have hsz := hsz0
  clear hsz0
  have hW' := hW
  have he : Env W := env_of (by exact hL)
  obtain ⟨p, q, hA0, hV, rfl, hfz, hnd⟩ := hW
  have hA : DataW.TrodAll enc Tryd.prog W 0 (fun _ => true) true Tryd.f3.params.toList args.toList ds p := hA0
  rw [Tryd.params3] at hA hval hsz
  obtain ⟨v0, vs0, d0, ds0, p0, q0, hargs, rfl, rfl, h0, r0'⟩ := trodAll_cons hA
  obtain ⟨rfl, rfl, rfl⟩ := trodAll_nil r0'
  obtain rfl : args = #[v0] := by cases args; simp_all
  obtain ⟨rfl, rfl⟩ := trodVars_none hV
  have k0 := h0
  have lt0 : ∀ x ∈ p0, x.block < W.heap.size := by obtain ⟨m, hm⟩ := k0; exact DataW.trod_lt m _ _ _ hm
  obtain ⟨a0, rfl, e0, _, w0⟩ := open_string Tryd.underlying9 (hval 0 9 v0 rfl rfl) h0
  have s0 : a0.size ≤ 140737488351232 := by
    have hh := sized_string hsz (j := 0) (t := 9) (bytes := a0.data.toList) rfl (by rw [e0]; rfl)
    have hr : reachBytes = 140737488351232 := rfl
    rw [hr, Array.length_toList] at hh
    exact hh
  clear hA0 hval0
  refine (walk W he a0 s0).mono fun e W' ⟨he, hnew⟩ => ?_
  have bel := hnew.below
  subst he
  exact ⟨_, rfl, _, _, _, [], _, [], hW', trodAll_mk1 (shut_bool Tryd.underlying4 _), (trodAll_cons_mk (Below.trod laidOut (by kernel_rfl) (of_decide_eq_true (by kernel_rfl)) k0 bel lt0) trodAll_mk0), rfl, bel.frame _, fun h => by cases h⟩

theorem reads (os : Os) {H : Type} (enc : TypeId × Value → H) : ∃ places, DataW.whole enc Tryd.prog ((laidWorld os).forCall (fun _ _ => 0) ⟨#[], #[.string ByteArray.empty], []⟩).memory Tryd.f3.params.toList Rows.lexAllsSpec.vars false #[.string ByteArray.empty].toList 8 = some ([.lit (.string [])], [], places) :=
  ⟨[], by kernel_rfl⟩

set_option maxRecDepth 100000 in
theorem lifted (os : Os) (started : os.Started) (H : Type) (enc : TypeId × Value → H) (F : Stop.Interp) :
    ReturnsInHanded {} Tryd.checked os 3 .any ((OpenSpec.ofChange Rows.lexAllsSpec).preRow enc Tryd.prog Tryd.f3 Rows.lexAllsRow.domain false Rows.lexAllsRow.laid) (((OpenSpec.ofChange Rows.lexAllsSpec).at F).post enc Tryd.prog Tryd.f3 false true false false) := by
  obtain ⟨places, hx⟩ := reads os enc
  refine returnsInHanded_of_row (C := Tryd.checked) (s := OpenSpec.ofChange Rows.lexAllsSpec) own started (by kernel_rfl) Tryd.func3
    (witness_row_at (enc := enc) (C := Tryd.checked) false (laidWorld os) #[.string ByteArray.empty] rfl (by kernel_rfl) (by kernel_rfl) (by kernel_rfl)
      (OpenSpec.preRow_of_cond 8 hx (by kernel_rfl) (fun k hk => by cases hk) (by kernel_rfl) (laid_met os _))) ?_
  intro W base args ds gs before hval hW _ _ hsz hL _ _
  exact contract H enc W base args ds gs before hval hW hsz hL

theorem said : Rows.LexAllsSaid :=
  OpenClaim.holds_of_cond 3 Tryd.f3 rfl rfl rfl rfl rfl rfl rfl ⟨rfl, rfl, rfl, rfl, rfl⟩ rfl rfl rfl rfl rfl (by kernel_rfl) Tryd.func3 (by kernel_rfl)
    (of_decide_eq_true (by kernel_rfl)) (by unfold Func.isWrapper; first | (rw [if_pos (by decide +kernel)]; kernel_rfl) | (rw [if_neg (by decide +kernel)]; exact ⟨rfl, rfl⟩))
    (fun os started H enc _ F => by rw [OpenClaim.pre_eq_preRow]; exact lifted os started H enc F)

theorem plain (f : FuncId) (fn : Func) (hf : Tryd.pinned.checked.prog.funcNamed "pianola/pianolalaw04.LexAlls" = some f) (hfn : Tryd.pinned.checked.prog.funcs[f]? = some fn) :
    true = Tryd.pinned.checked.prog.looks [] ∧ ∀ (j : Nat) t, fn.params[j]? = some t → Tryd.pinned.checked.prog.wantsStandIn t = false := by
  obtain rfl : f = 3 := Option.some.inj ((show Tryd.prog.funcNamed "pianola/pianolalaw04.LexAlls" = some 3 by kernel_rfl).symm.trans hf) |>.symm
  obtain rfl : fn = Tryd.f3 := (Option.some.inj (Tryd.func3.symm.trans hfn)).symm
  refine ⟨by kernel_rfl, fun j t ht => ?_⟩
  rw [Tryd.params3] at ht
  have hm := Array.mem_of_getElem? ht
  have : t = 9 := by
    simpa [or_assoc] using hm
  rcases this with rfl
  · exact (show Tryd.prog.wantsStandIn 9 = false by kernel_rfl)

/-- THE CARD. -/
theorem proved : Rows.LexAllsCardSaid :=
  Claim7.holds_tied_plain_at .later [] _ _ _ _ said (fun _ h => by cases h) (by kernel_rfl) (fun _ h => by cases h) lexAlls_row_tie rfl ⟨rfl, rfl⟩ (by kernel_rfl) rfl plain (by kernel_rfl)
end Go.Proofs.YtmmoocbnmjmfeaaDoor.lexAlls
