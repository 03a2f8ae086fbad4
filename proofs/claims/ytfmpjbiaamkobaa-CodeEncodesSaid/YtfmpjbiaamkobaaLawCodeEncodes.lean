/-
  'CodeEncodes': the law returns true at every input; what it is handed reads afterwards as before.
-/
import Derived.Test.YtfmpjbiaamkobaaRead
import Derived.Test.YtfmpjbiaamkobaaReadProg
import Derived.Test.YtfmpjbiaamkobaaCodeY
namespace Go.Proofs.Ytfmpjbiaamkobaa.codeEncodes
open Go Go.RowKit Go.ChangeShapes Go.WideShapes Go.ChangeAt
open Go.ChangeMaps (open_string shut_string)
set_option linter.all false

set_option maxRecDepth 100000 in
set_option maxHeartbeats 4000000 in
theorem walk (w : World) (p0 : Pg) (hp0 : PgAt w p0) (hl0 : Lens p0) (hw0 : PgWf p0) :
    Calls Try.prog 5 #[p0.v] w fun e w' => e = .returned (.bool true) ∧ New w w' := by
  have ka : New w (w.alloc (.cells p0.cs 26)) := Keeps.alloc _ _
  obtain ⟨s, r, h1, h2⟩ : ∃ s r, (∀ W, New w W → Calls Try.prog 19 #[p0.v] W fun e w' => e = .returned (.tuple #[.string s, I r]) ∧ New W w') ∧ (∀ W, New w W → Calls Try.prog 20 #[p0.v] W fun e w' => e = .returned (.tuple #[.string s, I r]) ∧ New W w') := by
    by_cases h0 : (stepsR p0).2 = 0
    · exact ⟨_, _, fun W k => rencode_good W p0 (hp0.new k) hl0 hw0 h0, fun W k => cencode_good W p0 (hp0.new k) hl0 hw0 h0⟩
    · exact ⟨_, _, fun W k => rencode_bad W p0 (hp0.new k) hl0 h0, fun W k => cencode_bad W p0 (hp0.new k) hl0 h0⟩
  simp only [Pg.v, Pg.cs] at h1 h2 ka ⊢
  clear hp0 hl0 hw0
  go_enter Try.func5, Try.ntmps5
  go_wp2_with fail
  refine (h1 _ ka).mono ?_
  rintro e w1 ⟨rfl, n1⟩
  have x0 := n1.cell (p := ⟨w.heap.size, 0, none⟩) (v := I p0.mem) (by simp)
  have x1 := n1.cell (p := ⟨w.heap.size, 1, none⟩) (v := I p0.ctr) (by simp)
  have x2 := n1.cell (p := ⟨w.heap.size, 2, none⟩) (v := I p0.ins) (by simp)
  have x3 := n1.cell (p := ⟨w.heap.size, 3, none⟩) (v := I p0.outs) (by simp)
  have x4 := n1.cell (p := ⟨w.heap.size, 4, none⟩) (v := .slice p0.pa p0.parts.length p0.pc) (by simp)
  have x5 := n1.cell (p := ⟨w.heap.size, 5, none⟩) (v := .slice p0.la p0.lines.length p0.lc) (by simp)
  have x6 := n1.cell (p := ⟨w.heap.size, 6, none⟩) (v := .slice p0.oa p0.ops.length p0.oc) (by simp)
  go_wp2_with fail
  refine (h2 _ (ka.trans n1)).mono ?_
  rintro e w2 ⟨rfl, n2⟩
  go_wp2_with fail
  refine (awake_any _).mono ?_
  rintro e w3 ⟨rfl, n3⟩
  go_wp2_with fail
  go_ret
  exact ⟨rfl, ((ka.trans n1).trans n2).trans n3⟩
set_option maxRecDepth 100000 in
theorem lifted (os : Os) (started : os.Started) (H : Type) (enc : TypeId × Value → H) :
    ReturnsInHanded {} Try.checked os 5 .any (Rows.codeEncodesSpec.pre6 enc Try.prog Try.f5 Rows.codeEncodesRow.domain false) (Rows.codeEncodesSpec.post enc Try.prog Try.f5 false true false false) := by
  refine returnsInHanded_of_change (C := Try.checked) own started (by kernel_rfl) Try.func5
    (ChangeSpec.witness6 (enc := enc) (C := Try.checked) false ⟨#[], #[.agg #[.int .i64 0, .int .i64 0, .int .i64 0, .int .i64 0, .slice none 0 0, .slice none 0 0, .slice none 0 0]], []⟩ 8 (by kernel_rfl) (by kernel_rfl) (by kernel_rfl) (by kernel_rfl)) ?_
  intro W base args ds gs before hval0 hW hcnd _
  have hval : ∀ (j : Nat) t v, Try.f5.params[j]? = some t → args[j]? = some v → Value.okWide Try.prog W .any base t v := hval0
  have hW' := hW
  obtain ⟨p, q, hA0, hV, rfl, hfz, hnd⟩ := hW
  have hA : DataW.TrodAll enc Try.prog W 0 (fun _ => true) true Try.f5.params.toList args.toList ds p := hA0
  rw [Try.params5] at hA hval
  obtain ⟨v0, vs0, d0, ds0, p0, q0, hargs, rfl, rfl, h0, r0'⟩ := trodAll_cons hA
  obtain ⟨rfl, rfl, rfl⟩ := trodAll_nil r0'
  obtain rfl : args = #[v0] := by cases args; simp_all
  obtain ⟨rfl, rfl⟩ := trodVars_none hV
  have k0 := h0
  have lt0 : ∀ x ∈ p0, x.block < W.heap.size := by obtain ⟨m, hm⟩ := k0; exact DataW.trod_lt m _ _ _ hm
  obtain ⟨p0', rfl, hp0, hl0, hw0⟩ := read_prog (hval 0 26 v0 rfl rfl) h0
  clear hA0 hval0
  refine (walk W p0' hp0 hl0 hw0).mono fun e W' ⟨he, hnew⟩ => ?_
  have bel := hnew.below
  subst he
  exact ⟨_, rfl, _, _, _, [], _, [], hW', trodAll_mk1 (shut_bool Try.underlying4 _), (trodAll_cons_mk (Below.trod laidOut (by kernel_rfl) (of_decide_eq_true (by kernel_rfl)) k0 bel lt0) trodAll_mk0), rfl, bel.frame _, fun h => by cases h⟩

theorem over : Rows.codeEncodesRow.holds Try.pinned (OpenSpec.ofChange Rows.codeEncodesSpec) :=
  OpenClaim.holds_of_wide 5 Try.f5 rfl rfl rfl rfl rfl rfl rfl ⟨rfl, rfl, rfl, rfl, rfl⟩ rfl rfl rfl rfl rfl (by kernel_rfl) Try.func5 (by kernel_rfl)
    (of_decide_eq_true (by kernel_rfl)) (by unfold Func.isWrapper; first | (rw [if_pos (by decide +kernel)]; kernel_rfl) | (rw [if_neg (by decide +kernel)]; exact ⟨rfl, rfl⟩))
    (fun os started H enc _ => lifted os started H enc)

/-- THE STATEMENT. -/
theorem proved : Rows.CodeEncodesSaid := over
end Go.Proofs.Ytfmpjbiaamkobaa.codeEncodes
