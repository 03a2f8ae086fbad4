/-
  'SketchNames': the law returns true at every input; what it is handed reads afterwards as before; the variables of the library that it reads hold what the program's text lays.
-/
import Derived.Test.YtohalcbhckahmaaDoorSkT
import Derived.Test.YtohalcbhckahmaaDoorSkK
namespace Go.Proofs.YtohalcbhckahmaaDoor.sketchNames
open Go Go.RowKit Go.Joins Go.ChangeShapes Go.WideShapes Go.ChangeAt
open Go.ChangeMaps (open_string shut_string)
set_option linter.all false

def nmT : LSk := ⟨[103], [⟨1, [97], [98], [], plZ, plZ, 8⟩, ⟨2, [], [], [], ⟨[97], 0, 23⟩, ⟨[98], 0, 28⟩, 18⟩, ⟨3, [120], [], [], plZ, ⟨[97], 0, 38⟩, 32⟩, ⟨4, [121], [], [], ⟨[97], 0, 46⟩, plZ, 42⟩]⟩
def nmTxt : ByteArray := ⟨#[103, 114, 97, 112, 104, 32, 103, 123, 97, 99, 116, 111, 114, 32, 97, 61, 98, 59, 101, 100, 103, 101, 32, 97, 46, 48, 45, 62, 98, 46, 48, 59, 105, 110, 32, 120, 45, 62, 97, 46, 48, 59, 111, 117, 116, 32, 97, 46, 48, 45, 62, 121, 59, 125]⟩
theorem nmPar : parseA nmTxt.data.toList = .ok nmT := by kernel_rfl
theorem nmNil : parseA (⟨#[]⟩ : ByteArray).data.toList = .error (50, 0) := by kernel_rfl
theorem nm5 : printA ⟨⟨#[103]⟩, none, 0, [(⟨5, ⟨#[]⟩, ⟨#[]⟩, none, 0, [], ⟨#[]⟩, 0, 0, ⟨#[]⟩, 0, 0, 0⟩ : SIt)]⟩ = ([], 1) := by kernel_rfl
theorem nm4 : (printA ⟨⟨#[103]⟩, none, 0, [(⟨4, ⟨#[121]⟩, ⟨#[]⟩, none, 0, [], ⟨#[97]⟩, 0, 0, ⟨#[]⟩, 0, 0, 0⟩ : SIt)]⟩).2 = 0 := by kernel_rfl
theorem one_sk (w : World) (x : SIt) (hx : x.xs = []) : SkAt (w.alloc (.cells (itA x) ItT)) ⟨⟨#[103]⟩, some ⟨w.heap.size, 0, none⟩, 1, [x]⟩ := by
  refine ⟨?_, ?_⟩
  · have h : SlAt (w.alloc (.cells (itA x) ItT)) (some ⟨w.heap.size, 0, none⟩) (itA x).toList := SlAt.lit w _ _
    simpa [itCells] using h
  · intro y hy
    simp only [List.mem_singleton] at hy
    subst hy
    rw [hx]; exact SlAt.nil _ _
theorem one_bd (x : SIt) (a : Option Addr) (c : Nat) (h1 : ISz x) (h2 : IBnd x) : SBnd ⟨⟨#[103]⟩, a, c, [x]⟩ :=
  ⟨by show (⟨#[103]⟩ : ByteArray).size ≤ _; decide, by show 1 ≤ _; omega, fun y hy => by simp only [List.mem_singleton] at hy; subst hy; exact h1, fun y hy => by simp only [List.mem_singleton] at hy; subst hy; exact h2⟩
theorem one_pr (w : World) (he : Env w) (x : SIt) (hx : x.xs = []) (h1 : ISz x) (h2 : IBnd x) (v : ByteArray) (c : Int) (hp : (⟨(printA ⟨⟨#[103]⟩, none, 0, [x]⟩).1.toArray⟩ : ByteArray) = v) (hc : (printA ⟨⟨#[103]⟩, none, 0, [x]⟩).2 = c) :
    Calls Tryd.prog 18 #[.agg #[.string ⟨#[103]⟩, .slice (some ⟨w.heap.size, 0, none⟩) 1 1]] (w.alloc (.cells (itA x) ItT)) fun e w' => e = .returned (.tuple #[.string v, I c]) ∧ New (w.alloc (.cells (itA x) ItT)) w' := by
  have h := print_any (w.alloc (.cells (itA x) ItT)) ⟨⟨#[103]⟩, some ⟨w.heap.size, 0, none⟩, 1, [x]⟩ (he.new ((New.refl _).alloc _)) (one_sk w x hx) (one_bd x _ _ h1 h2)
  have e : printA ⟨⟨#[103]⟩, some ⟨w.heap.size, 0, none⟩, 1, [x]⟩ = printA ⟨⟨#[103]⟩, none, 0, [x]⟩ := rfl
  rw [e, hp, hc] at h
  exact h
set_option maxRecDepth 100000 in
set_option maxHeartbeats 4000000 in
theorem walk (w : World) (he : Env w)  :
    Calls Tryd.prog 10 #[] w fun e w' => e = .returned (.bool true) ∧ New w w' := by
  have h1 : ∀ W, Env W → Calls Tryd.prog 11 #[.string ⟨#[]⟩] W _ := fun W e => skparse_no W ⟨#[]⟩ e (by decide) 50 0 nmNil
  have h2 : ∀ W, Env W → Calls Tryd.prog 11 #[.string ⟨#[103, 114, 97, 112, 104, 32, 103, 123, 97, 99, 116, 111, 114, 32, 97, 61, 98, 59, 101, 100, 103, 101, 32, 97, 46, 48, 45, 62, 98, 46, 48, 59, 105, 110, 32, 120, 45, 62, 97, 46, 48, 59, 111, 117, 116, 32, 97, 46, 48, 45, 62, 121, 59, 125]⟩] W _ := fun W e => skparse_ok W nmTxt e (by decide) nmT nmPar
  obtain ⟨v4, hv4⟩ : ∃ v, (⟨(printA ⟨⟨#[103]⟩, none, 0, [(⟨4, ⟨#[121]⟩, ⟨#[]⟩, none, 0, [], ⟨#[97]⟩, 0, 0, ⟨#[]⟩, 0, 0, 0⟩ : SIt)]⟩).1.toArray⟩ : ByteArray) = v := ⟨_, rfl⟩
  have p5 := fun W (e : Env W) => one_pr W e (⟨5, ⟨#[]⟩, ⟨#[]⟩, none, 0, [], ⟨#[]⟩, 0, 0, ⟨#[]⟩, 0, 0, 0⟩ : SIt) rfl ⟨by decide, by decide, by decide, by decide⟩ ⟨by decide, by decide, (fun n hn => by cases hn), by decide⟩ ⟨#[]⟩ 1 (by rw [nm5]) (by rw [nm5])
  have p4 := fun W (e : Env W) => one_pr W e (⟨4, ⟨#[121]⟩, ⟨#[]⟩, none, 0, [], ⟨#[97]⟩, 0, 0, ⟨#[]⟩, 0, 0, 0⟩ : SIt) rfl ⟨by decide, by decide, by decide, by decide⟩ ⟨by decide, by decide, (fun n hn => by cases hn), by decide⟩ v4 0 hv4 nm4
  simp only [itA, List.length_nil] at p5 p4
  clear hv4
  go_enter Tryd.func10, Tryd.ntmps10
  go_wp2_with fail
  refine (h1 _ he).mono ?_
  rintro e w1 ⟨rfl, n1⟩
  have n2 : New w1 ((w1.alloc (.cells #[.string ⟨#[]⟩, .slice none 0 0] 24)).alloc (.cells #[I 50, I 0] 27)) := ((New.refl _).alloc _).alloc _
  have hF : ((w1.alloc (.cells #[.string ⟨#[]⟩, .slice none 0 0] 24)).alloc (.cells #[I 50, I 0] 27)).heap[w1.heap.size + 1]? = some (.cells #[I 50, I 0] 27 (0, 0)) := by
    have := heap_alloc_new (w1.alloc (.cells #[.string ⟨#[]⟩, .slice none 0 0] 24)) (.cells #[I 50, I 0] 27)
    simpa using this
  obtain ⟨f0, f1, -, -, -⟩ := sk_get hF
  have hz : ((w1.alloc (.cells #[.string ⟨#[]⟩, .slice none 0 0] 24)).alloc (.cells #[I 50, I 0] 27)).heap.size = w1.heap.size + 1 + 1 := by simp
  have hp5 := p5 _ (he.new (n1.trans n2))
  rw [hz] at hp5
  have N2 := Lib.hid (n1.trans n2)
  clear n1 n2 hF p5 hz h1
  go_wp2_with fail
  refine hp5.mono ?_
  rintro e w2 ⟨rfl, n3⟩
  have k3 := ((New.refl _).alloc (.cells #[.int .u8 5, .string ⟨#[]⟩, .string ⟨#[]⟩, .slice none 0 0, .string ⟨#[]⟩, .int .i64 0, .int .i64 0, .string ⟨#[]⟩, .int .i64 0, .int .i64 0, .int .i64 0] ItT)).trans n3
  have a0 := New.cell k3 f0
  have a1 := New.cell k3 f1
  have N3 := Lib.hid (N2.out.trans k3)
  have hp4 := p4 w2 (he.new N3.out)
  clear hp5 n3 k3 f0 f1 p4
  go_wp2_with fail
  refine hp4.mono ?_
  rintro e w3 ⟨rfl, n4⟩
  have k4 := ((New.refl w2).alloc (.cells #[.int .u8 4, .string ⟨#[121]⟩, .string ⟨#[]⟩, .slice none 0 0, .string ⟨#[97]⟩, .int .i64 0, .int .i64 0, .string ⟨#[]⟩, .int .i64 0, .int .i64 0, .int .i64 0] ItT)).trans n4
  have b0 := New.cell k4 a0
  have b1 := New.cell k4 a1
  have N4 := Lib.hid (N3.out.trans k4)
  have hh := h2 w3 (he.new N4.out)
  clear hp4 n4 k4 a0 a1 h2
  go_wp2_with fail
  refine hh.mono ?_
  rintro e w4 ⟨t, ht, rfl, hown, n5⟩
  obtain ⟨e1, e2⟩ := bare_len' ht
  have e3 : t.items.length = 4 := e2
  have hsl := hown.at.sl
  have hk0 : t.items[0].kind = 1 := by rw [bare_item ht 0 (by omega) (by decide)]; rfl
  have hk1 : t.items[1].kind = 2 := by rw [bare_item ht 1 (by omega) (by decide)]; rfl
  have hk2 : t.items[2].kind = 3 := by rw [bare_item ht 2 (by omega) (by decide)]; rfl
  have hk3 : t.items[3].kind = 4 := by rw [bare_item ht 3 (by omega) (by decide)]; rfl
  obtain ⟨name, ia, ic, items⟩ := t
  simp only at e3 hsl hk0 hk1 hk2 hk3
  obtain ⟨bb, off, hab, q0, -⟩ := items_row hsl (i := 0) (by omega)
  obtain ⟨bb1, off1, hab1, q1, -⟩ := items_row hsl (i := 1) (by omega)
  obtain ⟨bb2, off2, hab2, q2, -⟩ := items_row hsl (i := 2) (by omega)
  obtain ⟨bb3, off3, hab3, q3, -⟩ := items_row hsl (i := 3) (by omega)
  subst hab
  cases hab1
  cases hab2
  cases hab3
  rw [hk0] at q0
  rw [hk1] at q1
  rw [hk2] at q2
  rw [hk3] at q3
  simp only [Nat.zero_mul, Nat.add_zero, Nat.one_mul, show 2 * 11 = 22 from rfl, show 3 * 11 = 33 from rfl] at q0 q1 q2 q3
  have hv : Sk.v ⟨name, some ⟨bb, off, none⟩, ic, items⟩ = .agg #[.string name, .slice (some ⟨bb, off, none⟩) 4 ic] := by show Value.agg #[_, .slice _ items.length _] = _; rw [e3]
  rw [hv]
  have m5 : New w4 ((w4.alloc (.cells #[.string name, .slice (some ⟨bb, off, none⟩) 4 ic] 24)).alloc (.cells #[I 0, I 0] 27)) := ((New.refl _).alloc _).alloc _
  have hS : ((w4.alloc (.cells #[.string name, .slice (some ⟨bb, off, none⟩) 4 ic] 24)).alloc (.cells #[I 0, I 0] 27)).heap[w4.heap.size]? = some (.cells #[.string name, .slice (some ⟨bb, off, none⟩) 4 ic] 24 (0, 0)) := Keeps.heap (Keeps.alloc (S := fun _ => False) _ _) (heap_alloc_new w4 _) (fun h => h)
  have hG : ((w4.alloc (.cells #[.string name, .slice (some ⟨bb, off, none⟩) 4 ic] 24)).alloc (.cells #[I 0, I 0] 27)).heap[w4.heap.size + 1]? = some (.cells #[I 0, I 0] 27 (0, 0)) := by
    have := heap_alloc_new (w4.alloc (.cells #[.string name, .slice (some ⟨bb, off, none⟩) 4 ic] 24)) (.cells #[I 0, I 0] 27)
    simpa using this
  obtain ⟨s0, s1, -, -, -⟩ := sk_get hS
  obtain ⟨g0, g1, -, -, -⟩ := sk_get hG
  have N5 := Lib.hid ((N4.out.trans n5).trans m5)
  have c0 := New.cell (n5.trans m5) b0
  have c1 := New.cell (n5.trans m5) b1
  have haw := awake_sk _ (he.new N5.out)
  have Q0 := New.cell m5 q0
  have Q1 := New.cell m5 q1
  have Q2 := New.cell m5 q2
  have Q3 := New.cell m5 q3
  have hX := World.block_lt_of_cell? _ _ q0
  have HAW := Lib.hid haw
  clear hh ht hown e1 e2 e3 hsl hk0 hk1 hk2 hk3 hv n5 hS hG b0 b1 haw
  go_wp2_with fail
  have haw := HAW.out
  refine haw.mono ?_
  rintro e w6 ⟨rfl, n6⟩
  have C0 := New.cell n6 c0
  have C1 := New.cell n6 c1
  have G0 := New.cell n6 g0
  have G1 := New.cell n6 g1
  have hB := World.block_lt_of_cell? _ _ C0
  have hB2 := World.block_lt_of_cell? _ _ G0
  have N6 := Lib.hid (N5.out.trans n6)
  clear haw HAW n6 c0 c1 g0 g1 s0 s1 Q0 Q1 Q2 Q3 q0 q1 q2 q3 m5
  go_wp2_with fail
  go_ret
  exact ⟨rfl, N6.out⟩

set_option maxRecDepth 100000 in
theorem contract (H : Type) (enc : TypeId × Value → H) (W : World) (base : Nat) (args : Array Value) (ds gs : List (DataW H)) (before : List MemPlace)
    (hval0 : ∀ (j : Nat) t v, Tryd.f10.params[j]? = some t → args[j]? = some v → Value.okWide Tryd.prog W .any base t v)
    (hW : DataW.Whole enc Tryd.prog Tryd.f10.params.toList Rows.sketchNamesSpec.vars false W args.toList ds gs before)
    (hsz0 : (DataW.weightsEach Tryd.prog (Tryd.f10.params.toList ++ Rows.sketchNamesSpec.plain.varTypes Tryd.prog) (ds ++ gs)).all (· ≤ reachBytes) = true) (hL : laidMetH Tryd.prog Rows.sketchNamesRow.laid W) :
    Calls Tryd.prog 10 args W fun e W' => ∃ v, e = .returned v ∧ Rows.sketchNamesSpec.post enc Tryd.prog Tryd.f10 false true false false W args v W' := by
  have hval := hval0
  have hsz := hsz0
  clear hsz0
  have hW' := hW
  have he : Env W := env_of (by exact hL)
  obtain ⟨p, q, hA0, hV, rfl, hfz, hnd⟩ := hW
  have hA : DataW.TrodAll enc Tryd.prog W 0 (fun _ => true) true Tryd.f10.params.toList args.toList ds p := hA0
  rw [Tryd.params10] at hA hval hsz
  obtain ⟨hargs, rfl, rfl⟩ := trodAll_nil hA
  obtain rfl : args = #[] := by cases args; simp_all
  obtain ⟨rfl, rfl⟩ := trodVars_none hV
  clear hA0 hval0
  refine (walk W he ).mono fun e W' ⟨he, hnew⟩ => ?_
  have bel := hnew.below
  subst he
  exact ⟨_, rfl, _, _, _, [], _, [], hW', trodAll_mk1 (shut_bool Tryd.underlying4 _), trodAll_mk0, rfl, bel.frame _, fun h => by cases h⟩

theorem reads (os : Os) {H : Type} (enc : TypeId × Value → H) : ∃ places, DataW.whole enc Tryd.prog ((laidWorld os).forCall (fun _ _ => 0) ⟨#[], (#[] : Array Value), []⟩).memory Tryd.f10.params.toList Rows.sketchNamesSpec.vars false (#[] : Array Value).toList 8 = some ([], [], places) :=
  ⟨[], by kernel_rfl⟩

set_option maxRecDepth 100000 in
theorem lifted (os : Os) (started : os.Started) (H : Type) (enc : TypeId × Value → H) (F : Stop.Interp) :
    ReturnsInHanded {} Tryd.checked os 10 .any ((OpenSpec.ofChange Rows.sketchNamesSpec).preRow enc Tryd.prog Tryd.f10 Rows.sketchNamesRow.domain false Rows.sketchNamesRow.laid) (((OpenSpec.ofChange Rows.sketchNamesSpec).at F).post enc Tryd.prog Tryd.f10 false true false false) := by
  obtain ⟨places, hx⟩ := reads os enc
  refine returnsInHanded_of_row (C := Tryd.checked) (s := OpenSpec.ofChange Rows.sketchNamesSpec) own started (by kernel_rfl) Tryd.func10
    (witness_row_at (enc := enc) (C := Tryd.checked) false (laidWorld os) (#[] : Array Value) rfl (by kernel_rfl) (by kernel_rfl) (by kernel_rfl)
      (OpenSpec.preRow_of_cond 8 hx (by kernel_rfl) (fun k hk => by cases hk) (by kernel_rfl) (laid_met os _))) ?_
  intro W base args ds gs before hval hW _ _ hsz hL _ _
  exact contract H enc W base args ds gs before hval hW hsz hL

theorem said : Rows.SketchNamesSaid :=
  OpenClaim.holds_of_cond 10 Tryd.f10 rfl rfl rfl rfl rfl rfl rfl ⟨rfl, rfl, rfl, rfl, rfl⟩ rfl rfl rfl rfl rfl (by kernel_rfl) Tryd.func10 (by kernel_rfl)
    (of_decide_eq_true (by kernel_rfl)) (by unfold Func.isWrapper; first | (rw [if_pos (by decide +kernel)]; kernel_rfl) | (rw [if_neg (by decide +kernel)]; exact ⟨rfl, rfl⟩))
    (fun os started H enc _ F => by rw [OpenClaim.pre_eq_preRow]; exact lifted os started H enc F)

theorem plain (f : FuncId) (fn : Func) (hf : Tryd.pinned.checked.prog.funcNamed "pianola/pianolalaw05.SketchNames" = some f) (hfn : Tryd.pinned.checked.prog.funcs[f]? = some fn) :
    true = Tryd.pinned.checked.prog.looks [] ∧ ∀ (j : Nat) t, fn.params[j]? = some t → Tryd.pinned.checked.prog.wantsStandIn t = false := by
  obtain rfl : f = 10 := Option.some.inj ((show Tryd.prog.funcNamed "pianola/pianolalaw05.SketchNames" = some 10 by kernel_rfl).symm.trans hf) |>.symm
  obtain rfl : fn = Tryd.f10 := (Option.some.inj (Tryd.func10.symm.trans hfn)).symm
  refine ⟨by kernel_rfl, fun j t ht => ?_⟩
  rw [Tryd.params10] at ht
  simp at ht

/-- THE CARD. -/
theorem proved : Rows.SketchNamesCardSaid :=
  Claim7.holds_tied_plain_at .later [] _ _ _ _ said (fun _ h => by cases h) (by kernel_rfl) (fun _ h => by cases h) sketchNames_row_tie rfl ⟨rfl, rfl⟩ (by kernel_rfl) rfl plain (by kernel_rfl)
end Go.Proofs.YtohalcbhckahmaaDoor.sketchNames
