/-
  'LexNames': the law returns true at every input; what it is handed reads afterwards as before; the variables of the library that it reads hold what the program's text lays.
-/
import Derived.Test.YtmmoocbnmjmfeaaDoorLexT
namespace Go.Proofs.YtmmoocbnmjmfeaaDoor.lexNames
open Go Go.RowKit Go.Joins Go.ChangeShapes Go.WideShapes Go.ChangeAt
open Go.ChangeMaps (open_string shut_string)
set_option linter.all false

theorem val0 : lexA (⟨#[97, 98, 99, 100, 101, 102, 103, 104, 105, 106, 107, 108, 109, 110, 111, 112, 113]⟩ : ByteArray).data.toList = ([], 42, 0) := by kernel_rfl
def tks1 : List LTok := [⟨1, [97, 98, 99, 100, 101, 102, 103, 104, 105, 106, 107, 108, 109, 110, 111, 112], 0, 0⟩, ⟨0, [], 0, 16⟩]
theorem val1 : lexA (⟨#[97, 98, 99, 100, 101, 102, 103, 104, 105, 106, 107, 108, 109, 110, 111, 112]⟩ : ByteArray).data.toList = (tks1, 0, 0) := by kernel_rfl
theorem val2 : lexA (⟨#[120, 32, 45, 48]⟩ : ByteArray).data.toList = ([], 41, 2) := by kernel_rfl
theorem val3 : lexA (⟨#[0]⟩ : ByteArray).data.toList = ([], 40, 0) := by kernel_rfl
def tks4 : List LTok := [⟨0, [], 0, 0⟩]
theorem val4 : lexA (⟨#[]⟩ : ByteArray).data.toList = (tks4, 0, 0) := by kernel_rfl
set_option maxRecDepth 100000 in
set_option maxHeartbeats 4000000 in
theorem walk (w : World) (he : Env w)  :
    Calls Tryd.prog 10 #[] w fun e w' => e = .returned (.bool true) ∧ New w w' := by
  have h0 : ∀ W, Env W → Calls Tryd.prog 11 #[.string ⟨#[97, 98, 99, 100, 101, 102, 103, 104, 105, 106, 107, 108, 109, 110, 111, 112, 113]⟩] W _ := fun W e => callA W ⟨#[97, 98, 99, 100, 101, 102, 103, 104, 105, 106, 107, 108, 109, 110, 111, 112, 113]⟩ e (by decide) [] 42 0 val0 0 rfl
  have h1 : ∀ W, Env W → Calls Tryd.prog 11 #[.string ⟨#[97, 98, 99, 100, 101, 102, 103, 104, 105, 106, 107, 108, 109, 110, 111, 112]⟩] W _ := fun W e => callA W ⟨#[97, 98, 99, 100, 101, 102, 103, 104, 105, 106, 107, 108, 109, 110, 111, 112]⟩ e (by decide) tks1 0 0 val1 2 rfl
  have h2 : ∀ W, Env W → Calls Tryd.prog 11 #[.string ⟨#[120, 32, 45, 48]⟩] W _ := fun W e => callA W ⟨#[120, 32, 45, 48]⟩ e (by decide) [] 41 2 val2 0 rfl
  have h3 : ∀ W, Env W → Calls Tryd.prog 11 #[.string ⟨#[0]⟩] W _ := fun W e => callA W ⟨#[0]⟩ e (by decide) [] 40 0 val3 0 rfl
  have h4 : ∀ W, Env W → Calls Tryd.prog 11 #[.string ⟨#[]⟩] W _ := fun W e => callA W ⟨#[]⟩ e (by decide) tks4 0 0 val4 1 rfl
  have g0 : ∀ W, Calls Tryd.prog 16 #[.string ⟨#[97, 98, 99, 100, 101, 102, 103, 104, 105, 106, 107, 108, 109, 110, 111, 112, 113]⟩] W fun e w' => e = .returned (.bool false) ∧ New W w' := fun W => by
    have e : nameB ⟨#[97, 98, 99, 100, 101, 102, 103, 104, 105, 106, 107, 108, 109, 110, 111, 112, 113]⟩ = false := by kernel_rfl
    rw [← e]; exact cname_any W _ (by decide)
  have g1 : ∀ W, Calls Tryd.prog 16 #[.string ⟨#[97, 98, 99, 100, 101, 102, 103, 104, 105, 106, 107, 108, 109, 110, 111, 112]⟩] W fun e w' => e = .returned (.bool true) ∧ New W w' := fun W => by
    have e : nameB ⟨#[97, 98, 99, 100, 101, 102, 103, 104, 105, 106, 107, 108, 109, 110, 111, 112]⟩ = true := by kernel_rfl
    rw [← e]; exact cname_any W _ (by decide)
  go_enter Tryd.func10, Tryd.ntmps10
  go_wp2_with fail
  refine (h0 _ he).mono ?_
  rintro e w1 ⟨a0, c0, rfl, k0, -⟩
  have n0 : New w w1 := k0
  go_wp2_with fail
  have m1 : New w1 (w1.alloc (.cells #[I 42, I 0] 25)) := (New.refl _).alloc _
  have t1 : New w (w1.alloc (.cells #[I 42, I 0] 25)) := n0.trans m1
  refine (h1 _ (he.new t1)).mono ?_
  rintro e w2 ⟨a1, c1, rfl, k1, -⟩
  have n1 : New w w2 := t1.trans k1
  go_wp2_with fail
  have m2 : New w2 (w2.alloc (.cells #[I 0, I 0] 25)) := (New.refl _).alloc _
  have t2 : New w (w2.alloc (.cells #[I 0, I 0] 25)) := n1.trans m2
  refine (h2 _ (he.new t2)).mono ?_
  rintro e w3 ⟨a2, c2, rfl, k2, -⟩
  have n2 : New w w3 := t2.trans k2
  go_wp2_with fail
  have m3 : New w3 (w3.alloc (.cells #[I 41, I 2] 25)) := (New.refl _).alloc _
  have t3 : New w (w3.alloc (.cells #[I 41, I 2] 25)) := n2.trans m3
  refine (h3 _ (he.new t3)).mono ?_
  rintro e w4 ⟨a3, c3, rfl, k3, -⟩
  have n3 : New w w4 := t3.trans k3
  go_wp2_with fail
  have m4 : New w4 (w4.alloc (.cells #[I 40, I 0] 25)) := (New.refl _).alloc _
  have t4 : New w (w4.alloc (.cells #[I 40, I 0] 25)) := n3.trans m4
  refine (h4 _ (he.new t4)).mono ?_
  rintro e w5 ⟨a4, c4, rfl, k4, -⟩
  have n4 : New w w5 := t4.trans k4
  have fw500 : w5.cell? ⟨w1.heap.size, 0, none⟩ = some (I 42) := New.cell ((((k1).trans (m2.trans k2)).trans (m3.trans k3)).trans (m4.trans k4)) (by rw [cell_of_block (heap_alloc_new w1 _) 0]; simp)
  have fw501 : w5.cell? ⟨w1.heap.size, 1, none⟩ = some (I 0) := New.cell ((((k1).trans (m2.trans k2)).trans (m3.trans k3)).trans (m4.trans k4)) (by rw [cell_of_block (heap_alloc_new w1 _) 1]; simp)
  have bw50 : w1.heap.size < w5.heap.size := World.block_lt_of_cell? w5 _ fw500
  have fw510 : w5.cell? ⟨w2.heap.size, 0, none⟩ = some (I 0) := New.cell (((k2).trans (m3.trans k3)).trans (m4.trans k4)) (by rw [cell_of_block (heap_alloc_new w2 _) 0]; simp)
  have fw511 : w5.cell? ⟨w2.heap.size, 1, none⟩ = some (I 0) := New.cell (((k2).trans (m3.trans k3)).trans (m4.trans k4)) (by rw [cell_of_block (heap_alloc_new w2 _) 1]; simp)
  have bw51 : w2.heap.size < w5.heap.size := World.block_lt_of_cell? w5 _ fw510
  have fw520 : w5.cell? ⟨w3.heap.size, 0, none⟩ = some (I 41) := New.cell ((k3).trans (m4.trans k4)) (by rw [cell_of_block (heap_alloc_new w3 _) 0]; simp)
  have fw521 : w5.cell? ⟨w3.heap.size, 1, none⟩ = some (I 2) := New.cell ((k3).trans (m4.trans k4)) (by rw [cell_of_block (heap_alloc_new w3 _) 1]; simp)
  have bw52 : w3.heap.size < w5.heap.size := World.block_lt_of_cell? w5 _ fw520
  have fw530 : w5.cell? ⟨w4.heap.size, 0, none⟩ = some (I 40) := New.cell (k4) (by rw [cell_of_block (heap_alloc_new w4 _) 0]; simp)
  have fw531 : w5.cell? ⟨w4.heap.size, 1, none⟩ = some (I 0) := New.cell (k4) (by rw [cell_of_block (heap_alloc_new w4 _) 1]; simp)
  have bw53 : w4.heap.size < w5.heap.size := World.block_lt_of_cell? w5 _ fw530
  have m5 : New w5 (w5.alloc (.cells #[I 0, I 0] 25)) := (New.refl _).alloc _
  have t5 := n4.trans m5
  go_wp2_with fail
  refine (awake_any _ (he.new t5)).mono ?_
  rintro e w6 ⟨rfl, k5⟩
  have q00 : w6.cell? ⟨w1.heap.size, 0, none⟩ = some _ := New.cell (m5.trans k5) fw500
  have q01 : w6.cell? ⟨w1.heap.size, 1, none⟩ = some _ := New.cell (m5.trans k5) fw501
  have q10 : w6.cell? ⟨w2.heap.size, 0, none⟩ = some _ := New.cell (m5.trans k5) fw510
  have q11 : w6.cell? ⟨w2.heap.size, 1, none⟩ = some _ := New.cell (m5.trans k5) fw511
  have q20 : w6.cell? ⟨w3.heap.size, 0, none⟩ = some _ := New.cell (m5.trans k5) fw520
  have q21 : w6.cell? ⟨w3.heap.size, 1, none⟩ = some _ := New.cell (m5.trans k5) fw521
  have q30 : w6.cell? ⟨w4.heap.size, 0, none⟩ = some _ := New.cell (m5.trans k5) fw530
  have q31 : w6.cell? ⟨w4.heap.size, 1, none⟩ = some _ := New.cell (m5.trans k5) fw531
  have HN := Lib.hid (t5.trans k5)
  clear k0 n0 k1 n1 k2 n2 k3 n3 k4 n4 t1 m1 t2 m2 t3 m3 t4 m4 t5 m5 k5 he h0 h1 h2 h3 h4
  go_wp2_with fail
  refine (g0 _).mono ?_
  rintro e w7 ⟨rfl, n7⟩
  go_wp2_with fail
  refine (g1 _).mono ?_
  rintro e w8 ⟨rfl, n8⟩
  go_wp2_with fail
  go_ret
  exact ⟨rfl, (HN.out.trans n7).trans n8⟩

set_option maxRecDepth 100000 in
theorem contract (H : Type) (enc : TypeId × Value → H) (W : World) (base : Nat) (args : Array Value) (ds gs : List (DataW H)) (before : List MemPlace)
    (hval0 : ∀ (j : Nat) t v, Tryd.f10.params[j]? = some t → args[j]? = some v → Value.okWide Tryd.prog W .any base t v)
    (hW : DataW.Whole enc Tryd.prog Tryd.f10.params.toList Rows.lexNamesSpec.vars false W args.toList ds gs before)
    (hsz0 : (DataW.weightsEach Tryd.prog (Tryd.f10.params.toList ++ Rows.lexNamesSpec.plain.varTypes Tryd.prog) (ds ++ gs)).all (· ≤ reachBytes) = true) (hL : laidMetH Tryd.prog Rows.lexNamesRow.laid W) :
    Calls Tryd.prog 10 args W fun e W' => ∃ v, e = .returned v ∧ Rows.lexNamesSpec.post enc Tryd.prog Tryd.f10 false true false false W args v W' := by
  have hval := hval0
  have hsz := hsz0
  clear hsz0
  have hW' := hW
  have he : Env W := env_of (by exact hL)
  obtain ⟨p, q, hA0, hV, rfl, hfz, hnd⟩ := hW
  have hA : DataW.TrodAll enc Tryd.prog W 0 (fun _ => true) true Tryd.f10.params.toList args.toList ds p := hA0
  rw [Tryd.params10] at hA hval hsz
  obtain ⟨hargs, rfl, rfl⟩ := trodAll_nil hA
  obtain rfl : args = #[] := by cases args; simp_all
  obtain ⟨rfl, rfl⟩ := trodVars_none hV
  clear hA0 hval0
  refine (walk W he ).mono fun e W' ⟨he, hnew⟩ => ?_
  have bel := hnew.below
  subst he
  exact ⟨_, rfl, _, _, _, [], _, [], hW', trodAll_mk1 (shut_bool Tryd.underlying4 _), trodAll_mk0, rfl, bel.frame _, fun h => by cases h⟩

theorem reads (os : Os) {H : Type} (enc : TypeId × Value → H) : ∃ places, DataW.whole enc Tryd.prog ((laidWorld os).forCall (fun _ _ => 0) ⟨#[], (#[] : Array Value), []⟩).memory Tryd.f10.params.toList Rows.lexNamesSpec.vars false (#[] : Array Value).toList 8 = some ([], [], places) :=
  ⟨[], by kernel_rfl⟩

set_option maxRecDepth 100000 in
theorem lifted (os : Os) (started : os.Started) (H : Type) (enc : TypeId × Value → H) (F : Stop.Interp) :
    ReturnsInHanded {} Tryd.checked os 10 .any ((OpenSpec.ofChange Rows.lexNamesSpec).preRow enc Tryd.prog Tryd.f10 Rows.lexNamesRow.domain false Rows.lexNamesRow.laid) (((OpenSpec.ofChange Rows.lexNamesSpec).at F).post enc Tryd.prog Tryd.f10 false true false false) := by
  obtain ⟨places, hx⟩ := reads os enc
  refine returnsInHanded_of_row (C := Tryd.checked) (s := OpenSpec.ofChange Rows.lexNamesSpec) own started (by kernel_rfl) Tryd.func10
    (witness_row_at (enc := enc) (C := Tryd.checked) false (laidWorld os) (#[] : Array Value) rfl (by kernel_rfl) (by kernel_rfl) (by kernel_rfl)
      (OpenSpec.preRow_of_cond 8 hx (by kernel_rfl) (fun k hk => by cases hk) (by kernel_rfl) (laid_met os _))) ?_
  intro W base args ds gs before hval hW _ _ hsz hL _ _
  exact contract H enc W base args ds gs before hval hW hsz hL

theorem said : Rows.LexNamesSaid :=
  OpenClaim.holds_of_cond 10 Tryd.f10 rfl rfl rfl rfl rfl rfl rfl ⟨rfl, rfl, rfl, rfl, rfl⟩ rfl rfl rfl rfl rfl (by kernel_rfl) Tryd.func10 (by kernel_rfl)
    (of_decide_eq_true (by kernel_rfl)) (by unfold Func.isWrapper; first | (rw [if_pos (by decide +kernel)]; kernel_rfl) | (rw [if_neg (by decide +kernel)]; exact ⟨rfl, rfl⟩))
    (fun os started H enc _ F => by rw [OpenClaim.pre_eq_preRow]; exact lifted os started H enc F)

theorem plain (f : FuncId) (fn : Func) (hf : Tryd.pinned.checked.prog.funcNamed "pianola/pianolalaw04.LexNames" = some f) (hfn : Tryd.pinned.checked.prog.funcs[f]? = some fn) :
    true = Tryd.pinned.checked.prog.looks [] ∧ ∀ (j : Nat) t, fn.params[j]? = some t → Tryd.pinned.checked.prog.wantsStandIn t = false := by
  obtain rfl : f = 10 := Option.some.inj ((show Tryd.prog.funcNamed "pianola/pianolalaw04.LexNames" = some 10 by kernel_rfl).symm.trans hf) |>.symm
  obtain rfl : fn = Tryd.f10 := (Option.some.inj (Tryd.func10.symm.trans hfn)).symm
  refine ⟨by kernel_rfl, fun j t ht => ?_⟩
  rw [Tryd.params10] at ht
  simp at ht

/-- THE CARD. -/
theorem proved : Rows.LexNamesCardSaid :=
  Claim7.holds_tied_plain_at .later [] _ _ _ _ said (fun _ h => by cases h) (by kernel_rfl) (fun _ h => by cases h) lexNames_row_tie rfl ⟨rfl, rfl⟩ (by kernel_rfl) rfl plain (by kernel_rfl)
end Go.Proofs.YtmmoocbnmjmfeaaDoor.lexNames
