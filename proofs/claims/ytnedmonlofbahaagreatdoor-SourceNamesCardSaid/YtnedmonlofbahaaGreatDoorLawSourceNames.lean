/-
  'SourceNames': the law returns true at every input; what it is handed reads afterwards as before; the variables of the library that it reads hold what the program's text lays.
-/
import Derived.Test.YtnedmonlofbahaaGreatDoorSrcT
import Derived.Test.YtnedmonlofbahaaGreatDoorSrcC
import Derived.Test.YtnedmonlofbahaaGreatDoorSrcD
namespace Go.Proofs.YtnedmonlofbahaaGreatDoor.sourceNames
open Go Go.RowKit Go.Joins Go.ChangeShapes Go.WideShapes Go.ChangeAt
open Go.ChangeMaps (open_string shut_string)
set_option linter.all false

def nmT : ByteArray := ⟨#[103, 114, 97, 112, 104, 32, 103, 32, 123, 32, 97, 99, 116, 111, 114, 32, 97, 32, 61, 32, 117, 112, 32, 50, 32, 125]⟩
theorem nm_f : srcF nmT.data.toList = (50, 25) := by kernel_rfl
def nmG : Gr := ⟨⟨#[103]⟩, none, 0, [], none, 0, [], none, 0, [], none, 0, []⟩
theorem nmG_at (w : World) : GrAt w nmG := ⟨SlAt.nil _ _, SlAt.nil _ _, SlAt.nil _ _, SlAt.nil _ _, (fun x hx => by cases hx), (fun x hx => by cases hx)⟩
theorem nmG_len : GLen nmG := ⟨by decide, by decide, by decide, by decide, (fun x hx => by cases hx), (fun x hx => by cases hx), (fun x hx => by cases hx), (fun x hx => by cases hx), by decide⟩
theorem nmG_f : (findG nmG).1 = 80 := by kernel_rfl
set_option maxRecDepth 100000 in
set_option maxHeartbeats 4000000 in
theorem walk (w : World) (he : EnvS w)  :
    Calls Tryz.prog 9 #[] w fun e w' => e = .returned (.bool true) ∧ New w w' := by
  have h1 : Calls Tryz.prog 10 #[.string ⟨#[103, 114, 97, 112, 104, 32, 103, 32, 123, 32, 97, 99, 116, 111, 114, 32, 97, 32, 61, 32, 117, 112, 32, 50, 32, 125]⟩] w fun e w' => e = .returned (.tuple #[zGr, .iface 33 (.agg #[I 50, I 25])]) ∧ New w w' := (sparse_any w nmT he.env (by decide)).mono fun e w' h => by
    unfold SParsed at h
    rw [nm_f] at h
    rcases h with ⟨_, h1, h2⟩ | ⟨h0, _⟩
    · exact ⟨h1, h2⟩
    · simp at h0
  have h2 := fun W => sprint_bad W nmG (nmG_at W) nmG_len (fun x hx => by cases hx) (by rw [nmG_f]; decide)
  rw [nmG_f] at h2
  simp only [Gr.v, Gr.cs, nmG, List.length_nil] at h2
  have i1 := fun W => is_F 50 25 50 W
  have i2 := fun W => is_F 50 25 61 W
  have i3 := fun W => is_E 80 80 W
  have i4 := fun W => is_E 80 82 W
  rw [show ((50 : Int) == 50) = true by decide] at i1
  rw [show ((50 : Int) == 61) = false by decide] at i2
  rw [show ((80 : Int) == 80) = true by decide] at i3
  rw [show ((80 : Int) == 82) = false by decide] at i4
  have HE := Lib.hid he
  clear he
  go_enter Tryz.func9, Tryz.ntmps9
  go_wp2_with fail
  refine h1.mono ?_
  rintro e w1 ⟨rfl, n1⟩
  have n2 : New w1 (w1.alloc (.cells #[.string ⟨#[]⟩, .slice none 0 0, .slice none 0 0, .slice none 0 0, .slice none 0 0] 26)) := (New.refl _).alloc _
  have N2 := Lib.hid (n1.trans n2)
  have hp := h2 (w1.alloc (.cells #[.string ⟨#[]⟩, .slice none 0 0, .slice none 0 0, .slice none 0 0, .slice none 0 0] 26))
  clear h1 h2 n1 n2
  go_wp2_with fail
  refine hp.mono ?_
  rintro e w2 ⟨rfl, n3⟩
  have haw := awake_src w2 (HE.out.new (N2.out.trans n3))
  have N3 := Lib.hid (N2.out.trans n3)
  clear hp n3
  go_wp2_with fail
  refine haw.mono ?_
  rintro e w3 ⟨rfl, n4⟩
  have N4 := Lib.hid (N3.out.trans n4)
  clear haw n4
  go_wp2_with fail
  refine (i1 _).mono ?_
  rintro e w4 ⟨rfl, n5⟩
  have N5 := Lib.hid (N4.out.trans n5)
  clear n5 i1
  go_wp2_with fail
  refine (i2 _).mono ?_
  rintro e w5 ⟨rfl, n6⟩
  have N6 := Lib.hid (N5.out.trans n6)
  clear n6 i2
  go_wp2_with fail
  refine (i3 _).mono ?_
  rintro e w6 ⟨rfl, n7⟩
  have N7 := Lib.hid (N6.out.trans n7)
  clear n7 i3
  go_wp2_with fail
  refine (i4 _).mono ?_
  rintro e w7 ⟨rfl, n8⟩
  have N8 := Lib.hid (N7.out.trans n8)
  clear n8 i4
  go_wp2_with fail
  (try go_ret)
  exact ⟨rfl, N8.out⟩

set_option maxRecDepth 100000 in
theorem contract (H : Type) (enc : TypeId × Value → H) (W : World) (base : Nat) (args : Array Value) (ds gs : List (DataW H)) (before : List MemPlace)
    (hval0 : ∀ (j : Nat) t v, Tryz.f9.params[j]? = some t → args[j]? = some v → Value.okWide Tryz.prog W .any base t v)
    (hW : DataW.Whole enc Tryz.prog Tryz.f9.params.toList Rows.sourceNamesSpec.vars false W args.toList ds gs before)
    (hsz0 : (DataW.weightsEach Tryz.prog (Tryz.f9.params.toList ++ Rows.sourceNamesSpec.plain.varTypes Tryz.prog) (ds ++ gs)).all (· ≤ reachBytes) = true) (hL : laidMetH Tryz.prog Rows.sourceNamesRow.laid W) :
    Calls Tryz.prog 9 args W fun e W' => ∃ v, e = .returned v ∧ Rows.sourceNamesSpec.post enc Tryz.prog Tryz.f9 false true false false W args v W' := by
  have hval := hval0
  have hsz := hsz0
  clear hsz0
  have hW' := hW
  have he : EnvS W := env_of (by exact hL)
  obtain ⟨p, q, hA0, hV, rfl, hfz, hnd⟩ := hW
  have hA : DataW.TrodAll enc Tryz.prog W 0 (fun _ => true) true Tryz.f9.params.toList args.toList ds p := hA0
  rw [Tryz.params9] at hA hval hsz
  obtain ⟨hargs, rfl, rfl⟩ := trodAll_nil hA
  obtain rfl : args = #[] := by cases args; simp_all
  obtain ⟨rfl, rfl⟩ := trodVars_none hV
  clear hA0 hval0
  refine (walk W he ).mono fun e W' ⟨he, hnew⟩ => ?_
  have bel := hnew.below
  subst he
  exact ⟨_, rfl, _, _, _, [], _, [], hW', trodAll_mk1 (shut_bool Tryz.underlying4 _), trodAll_mk0, rfl, bel.frame _, fun h => by cases h⟩

theorem reads (os : Os) {H : Type} (enc : TypeId × Value → H) : ∃ places, DataW.whole enc Tryz.prog ((laidWorld os).forCall (fun _ _ => 0) ⟨#[], (#[] : Array Value), []⟩).memory Tryz.f9.params.toList Rows.sourceNamesSpec.vars false (#[] : Array Value).toList 8 = some ([], [], places) :=
  ⟨[], by kernel_rfl⟩

set_option maxRecDepth 100000 in
theorem lifted (os : Os) (started : os.Started) (H : Type) (enc : TypeId × Value → H) (F : Stop.Interp) :
    ReturnsInHanded {} Tryz.checked os 9 .any ((OpenSpec.ofChange Rows.sourceNamesSpec).preRow enc Tryz.prog Tryz.f9 Rows.sourceNamesRow.domain false Rows.sourceNamesRow.laid) (((OpenSpec.ofChange Rows.sourceNamesSpec).at F).post enc Tryz.prog Tryz.f9 false true false false) := by
  obtain ⟨places, hx⟩ := reads os enc
  refine returnsInHanded_of_row (C := Tryz.checked) (s := OpenSpec.ofChange Rows.sourceNamesSpec) own started (by kernel_rfl) Tryz.func9
    (witness_row_at (enc := enc) (C := Tryz.checked) false (laidWorld os) (#[] : Array Value) rfl (by kernel_rfl) (by kernel_rfl) (by kernel_rfl)
      (OpenSpec.preRow_of_cond 8 hx (by kernel_rfl) (fun k hk => by cases hk) (by kernel_rfl) (laid_met os _))) ?_
  intro W base args ds gs before hval hW _ _ hsz hL _ _
  exact contract H enc W base args ds gs before hval hW hsz hL

theorem said : Rows.SourceNamesSaid :=
  OpenClaim.holds_of_cond 9 Tryz.f9 rfl rfl rfl rfl rfl rfl rfl ⟨rfl, rfl, rfl, rfl, rfl⟩ rfl rfl rfl rfl rfl (by kernel_rfl) Tryz.func9 (by kernel_rfl)
    (of_decide_eq_true (by kernel_rfl)) (by unfold Func.isWrapper; first | (rw [if_pos (by decide +kernel)]; kernel_rfl) | (rw [if_neg (by decide +kernel)]; exact ⟨rfl, rfl⟩))
    (fun os started H enc _ F => by rw [OpenClaim.pre_eq_preRow]; exact lifted os started H enc F)

theorem plain (f : FuncId) (fn : Func) (hf : Tryz.pinned.checked.prog.funcNamed "pianola/pianolalaw09.SourceNames" = some f) (hfn : Tryz.pinned.checked.prog.funcs[f]? = some fn) :
    true = Tryz.pinned.checked.prog.looks [] ∧ ∀ (j : Nat) t, fn.params[j]? = some t → Tryz.pinned.checked.prog.wantsStandIn t = false := by
  obtain rfl : f = 9 := Option.some.inj ((show Tryz.prog.funcNamed "pianola/pianolalaw09.SourceNames" = some 9 by kernel_rfl).symm.trans hf) |>.symm
  obtain rfl : fn = Tryz.f9 := (Option.some.inj (Tryz.func9.symm.trans hfn)).symm
  refine ⟨by kernel_rfl, fun j t ht => ?_⟩
  rw [Tryz.params9] at ht
  simp at ht

theorem proved : Rows.SourceNamesCardSaid :=
  Claim7.holds_tied_plain_at .later [] _ _ _ _ said (fun _ h => by cases h) (by kernel_rfl) (fun _ h => by cases h) sourceNames_row_tie rfl ⟨rfl, rfl⟩ (by kernel_rfl) rfl plain (by kernel_rfl)
end Go.Proofs.YtnedmonlofbahaaGreatDoor.sourceNames
