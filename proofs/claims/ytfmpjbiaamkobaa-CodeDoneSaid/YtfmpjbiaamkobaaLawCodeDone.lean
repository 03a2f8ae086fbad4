/-
  'CodeDone': the law returns true at every input; what it is handed reads afterwards as before.
-/
import Derived.Test.YtfmpjbiaamkobaaRead
import Derived.Test.YtfmpjbiaamkobaaReadProg
import Derived.Test.YtfmpjbiaamkobaaCodeDo
import Derived.Test.YtfmpjbiaamkobaaCodeY
namespace Go.Proofs.Ytfmpjbiaamkobaa.codeDone
open Go Go.RowKit Go.Joins Go.ChangeShapes Go.WideShapes Go.ChangeAt
open Go.ChangeMaps (open_string shut_string)
set_option linter.all false

set_option maxRecDepth 100000 in
set_option maxHeartbeats 4000000 in
theorem bad (w : World) (p0 : Pg) (hp0 : PgAt w p0) (hl0 : Lens p0) (h0 : (stepsR p0).2 ≠ 0) :
    Calls Try.prog 10 #[p0.v] w fun e w' => e = .returned (.bool true) ∧ New w w' := by
  have ka : New w (w.alloc (.cells p0.cs 26)) := Keeps.alloc _ _
  have h2 := fun W k => csteps_any W p0 (hp0.new k) hl0
  rw [stepsR_bad h0] at h2
  simp only at h2
  generalize (stepsR p0).2 = r at h0 h2
  have e0 : (r != 0) = true := by simpa using h0
  simp only [Pg.v, Pg.cs] at h2 ka ⊢
  clear hp0 hl0 h0
  go_enter Try.func10, Try.ntmps10
  go_wp2_with fail
  refine (h2 _ ka).mono ?_
  rintro e w1 ⟨rfl, n1⟩
  go_wp2_with fail
  refine (awake_any _).mono ?_
  rintro e w9 ⟨rfl, n9⟩
  go_wp2_with fail
  go_ret
  exact ⟨rfl, (ka.trans n1).trans n9⟩

set_option maxRecDepth 100000 in
set_option maxHeartbeats 4000000 in
theorem walk (w : World) (p0 : Pg) (hp0 : PgAt w p0) (hl0 : Lens p0) (hw0 : PgWf p0) :
    Calls Try.prog 10 #[p0.v] w fun e w' => e = .returned (.bool true) ∧ New w w' := by
  by_cases h0 : (stepsR p0).2 = 0
  · exact done_good w p0 hp0 hl0 h0 awake_any
  · exact bad w p0 hp0 hl0 h0
set_option maxRecDepth 100000 in
theorem lifted (os : Os) (started : os.Started) (H : Type) (enc : TypeId × Value → H) :
    ReturnsInHanded {} Try.checked os 10 .any (Rows.codeDoneSpec.pre6 enc Try.prog Try.f10 Rows.codeDoneRow.domain false) (Rows.codeDoneSpec.post enc Try.prog Try.f10 false true false false) := by
  refine returnsInHanded_of_change (C := Try.checked) own started (by kernel_rfl) Try.func10
    (ChangeSpec.witness6 (enc := enc) (C := Try.checked) false ⟨#[], #[.agg #[.int .i64 0, .int .i64 0, .int .i64 0, .int .i64 0, .slice none 0 0, .slice none 0 0, .slice none 0 0]], []⟩ 8 (by kernel_rfl) (by kernel_rfl) (by kernel_rfl) (by kernel_rfl)) ?_
  intro W base args ds gs before hval0 hW hcnd _
  have hval : ∀ (j : Nat) t v, Try.f10.params[j]? = some t → args[j]? = some v → Value.okWide Try.prog W .any base t v := hval0
  have hW' := hW
  obtain ⟨p, q, hA0, hV, rfl, hfz, hnd⟩ := hW
  have hA : DataW.TrodAll enc Try.prog W 0 (fun _ => true) true Try.f10.params.toList args.toList ds p := hA0
  rw [Try.params10] at hA hval
  obtain ⟨v0, vs0, d0, ds0, p0, q0, hargs, rfl, rfl, h0, r0'⟩ := trodAll_cons hA
  obtain ⟨rfl, rfl, rfl⟩ := trodAll_nil r0'
  obtain rfl : args = #[v0] := by cases args; simp_all
  obtain ⟨rfl, rfl⟩ := trodVars_none hV
  have k0 := h0
  have lt0 : ∀ x ∈ p0, x.block < W.heap.size := by obtain ⟨m, hm⟩ := k0; exact DataW.trod_lt m _ _ _ hm
  obtain ⟨p0', rfl, hp0, hl0, hw0⟩ := read_prog (hval 0 26 v0 rfl rfl) h0
  clear hA0 hval0
  refine (walk W p0' hp0 hl0 hw0).mono fun e W' ⟨he, hnew⟩ => ?_
  have bel := hnew.below
  subst he
  exact ⟨_, rfl, _, _, _, [], _, [], hW', trodAll_mk1 (shut_bool Try.underlying4 _), (trodAll_cons_mk (Below.trod laidOut (by kernel_rfl) (of_decide_eq_true (by kernel_rfl)) k0 bel lt0) trodAll_mk0), rfl, bel.frame _, fun h => by cases h⟩

theorem over : Rows.codeDoneRow.holds Try.pinned (OpenSpec.ofChange Rows.codeDoneSpec) :=
  OpenClaim.holds_of_wide 10 Try.f10 rfl rfl rfl rfl rfl rfl rfl ⟨rfl, rfl, rfl, rfl, rfl⟩ rfl rfl rfl rfl rfl (by kernel_rfl) Try.func10 (by kernel_rfl)
    (of_decide_eq_true (by kernel_rfl)) (by unfold Func.isWrapper; first | (rw [if_pos (by decide +kernel)]; kernel_rfl) | (rw [if_neg (by decide +kernel)]; exact ⟨rfl, rfl⟩))
    (fun os started H enc _ => lifted os started H enc)

/-- THE STATEMENT. -/
theorem proved : Rows.CodeDoneSaid := over
end Go.Proofs.Ytfmpjbiaamkobaa.codeDone
