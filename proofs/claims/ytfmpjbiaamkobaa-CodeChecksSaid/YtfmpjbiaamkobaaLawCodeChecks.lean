/-
  'CodeChecks': the law returns true at every input; what it is handed reads afterwards as before.
-/
import Derived.Test.YtfmpjbiaamkobaaRead
import Derived.Test.YtfmpjbiaamkobaaReadProgS
import Derived.Test.YtfmpjbiaamkobaaCodeX
namespace Go.Proofs.Ytfmpjbiaamkobaa.codeChecks
open Go Go.RowKit Go.Joins Go.ChangeShapes Go.WideShapes Go.ChangeAt
open Go.ChangeMaps (open_string shut_string)
set_option linter.all false

set_option maxRecDepth 100000 in
set_option maxHeartbeats 4000000 in
theorem walk (w : World) (p0 : Pg) (hp0 : PgAt w p0) (hl0 : Lens p0) (hw0 : PgWf p0) (hr0 : Room p0) :
    Calls Try.prog 3 #[p0.v] w fun e w' => e = .returned (.bool true) ∧ New w w' := by
  have ka : New w (w.alloc (.cells p0.cs 26)) := Keeps.alloc _ _
  have h1 := fun W k => rcopy_any W p0 (hp0.new k) hr0
  have h2 := fun W k => rcheck_any W p0 (hp0.new k) hl0
  have h3 : ∀ (W : World) (q : Pg), PgAt W q → Lens q → q.bare = p0.bare → Calls Try.prog 13 #[q.v] W fun e w' => e = .returned (I (stepsR p0).2) ∧ New W w' := by
    intro W q ha hl hb
    have h := ccheck_any W q ha hl
    rw [stepsR_same hb] at h
    exact h
  have h4 : ∀ (W : World) (q : Pg), New w W → PgAt W q → Lens q → q.bare = p0.bare → Calls Try.prog 15 #[q.v, p0.v] W fun e w' => e = .returned (.bool true) ∧ New W w' :=
    fun W q k ha hl hb => sameProg_yes W q p0 ha (hp0.new k) hb hl
  generalize (stepsR p0).2 = r at h2 h3
  generalize hgb : p0.bare = pb at h1 h3 h4
  clear hgb hp0 hl0 hw0 hr0
  simp only [Pg.v, Pg.cs] at h1 h2 h3 h4 ka ⊢
  go_enter Try.func3, Try.ntmps3
  go_wp2_with fail
  refine (h1 _ ka).mono ?_
  rintro e w1 ⟨q, hq, rfl, hown, n1⟩
  have x0 := n1.cell (p := ⟨w.heap.size, 0, none⟩) (v := I p0.mem) (by simp)
  have x1 := n1.cell (p := ⟨w.heap.size, 1, none⟩) (v := I p0.ctr) (by simp)
  have x2 := n1.cell (p := ⟨w.heap.size, 2, none⟩) (v := I p0.ins) (by simp)
  have x3 := n1.cell (p := ⟨w.heap.size, 3, none⟩) (v := I p0.outs) (by simp)
  have x4 := n1.cell (p := ⟨w.heap.size, 4, none⟩) (v := .slice p0.pa p0.parts.length p0.pc) (by simp)
  have x5 := n1.cell (p := ⟨w.heap.size, 5, none⟩) (v := .slice p0.la p0.lines.length p0.lc) (by simp)
  have x6 := n1.cell (p := ⟨w.heap.size, 6, none⟩) (v := .slice p0.oa p0.ops.length p0.oc) (by simp)
  have hat := hown.at
  have hql := lens_of hown
  have HQ := Lib.hid hq
  have hsz1 : w.heap.size < w1.heap.size := World.block_lt_of_cell? w1 _ x0
  clear hq hown h1
  simp only [Pg.v, Pg.cs]
  go_wp2_with fail
  have k3 : New w1 (w1.alloc (.cells #[I q.mem, I q.ctr, I q.ins, I q.outs, .slice q.pa q.parts.length q.pc, .slice q.la q.lines.length q.lc, .slice q.oa q.ops.length q.oc] 26)) := (New.refl w1).alloc _
  have hb : (w1.alloc (.cells #[I q.mem, I q.ctr, I q.ins, I q.outs, .slice q.pa q.parts.length q.pc, .slice q.la q.lines.length q.lc, .slice q.oa q.ops.length q.oc] 26)).heap[w1.heap.size]? = some (.cells #[I q.mem, I q.ctr, I q.ins, I q.outs, .slice q.pa q.parts.length q.pc, .slice q.la q.lines.length q.lc, .slice q.oa q.ops.length q.oc] 26 (0, 0)) := heap_alloc_new w1 _
  generalize (w1.alloc (.cells #[I q.mem, I q.ctr, I q.ins, I q.outs, .slice q.pa q.parts.length q.pc, .slice q.la q.lines.length q.lc, .slice q.oa q.ops.length q.oc] 26)) = w2 at k3 hb ⊢
  refine (h3 w2 q (hat.new k3) hql HQ.out).mono ?_
  rintro e w3 ⟨rfl, n3⟩
  have hb3 := Keeps.heap n3 hb (fun h => h)
  have hk13 := k3.trans n3
  replace x0 := hk13.cell x0
  replace x1 := hk13.cell x1
  replace x2 := hk13.cell x2
  replace x3 := hk13.cell x3
  replace x4 := hk13.cell x4
  replace x5 := hk13.cell x5
  replace x6 := hk13.cell x6
  have y0 : w3.cell? ⟨w1.heap.size, 0, none⟩ = some (I q.mem) := by rw [cell_of_block hb3 0]; simp
  have y1 : w3.cell? ⟨w1.heap.size, 1, none⟩ = some (I q.ctr) := by rw [cell_of_block hb3 1]; simp
  have y2 : w3.cell? ⟨w1.heap.size, 2, none⟩ = some (I q.ins) := by rw [cell_of_block hb3 2]; simp
  have y3 : w3.cell? ⟨w1.heap.size, 3, none⟩ = some (I q.outs) := by rw [cell_of_block hb3 3]; simp
  have y4 : w3.cell? ⟨w1.heap.size, 4, none⟩ = some (.slice q.pa q.parts.length q.pc) := by rw [cell_of_block hb3 4]; simp
  have y5 : w3.cell? ⟨w1.heap.size, 5, none⟩ = some (.slice q.la q.lines.length q.lc) := by rw [cell_of_block hb3 5]; simp
  have y6 : w3.cell? ⟨w1.heap.size, 6, none⟩ = some (.slice q.oa q.ops.length q.oc) := by rw [cell_of_block hb3 6]; simp
  clear hb hb3
  go_wp2_with fail
  refine (h2 w3 ((ka.trans n1).trans hk13)).mono ?_
  rintro e w4 ⟨rfl, n4⟩
  replace x0 := n4.cell x0
  replace y0 := n4.cell y0
  replace x1 := n4.cell x1
  replace y1 := n4.cell y1
  replace x2 := n4.cell x2
  replace y2 := n4.cell y2
  replace x3 := n4.cell x3
  replace y3 := n4.cell y3
  replace x4 := n4.cell x4
  replace y4 := n4.cell y4
  replace x5 := n4.cell x5
  replace y5 := n4.cell y5
  replace x6 := n4.cell x6
  replace y6 := n4.cell y6
  go_wp2_with fail
  refine (h4 w4 q (((ka.trans n1).trans hk13).trans n4) (hat.new (hk13.trans n4)) hql HQ.out).mono ?_
  rintro e w5 ⟨rfl, n5⟩
  go_wp2_with fail
  refine (awake_any _).mono ?_
  rintro e w6 ⟨rfl, n6⟩
  go_wp2_with fail
  go_ret
  exact ⟨rfl, ((((ka.trans n1).trans hk13).trans n4).trans n5).trans n6⟩
set_option maxRecDepth 100000 in
theorem lifted (os : Os) (started : os.Started) (H : Type) (enc : TypeId × Value → H) :
    ReturnsInHanded {} Try.checked os 3 .any (Rows.codeChecksSpec.pre6 enc Try.prog Try.f3 Rows.codeChecksRow.domain false) (Rows.codeChecksSpec.post enc Try.prog Try.f3 false true false false) := by
  refine returnsInHanded_of_change_sized (C := Try.checked) own started (by kernel_rfl) Try.func3
    (ChangeSpec.witness6 (enc := enc) (C := Try.checked) false ⟨#[], #[.agg #[.int .i64 0, .int .i64 0, .int .i64 0, .int .i64 0, .slice none 0 0, .slice none 0 0, .slice none 0 0]], []⟩ 8 (by kernel_rfl) (by kernel_rfl) (by kernel_rfl) (by kernel_rfl)) ?_
  intro W base args ds gs before hval0 hW hcnd hsz0 _
  have hval : ∀ (j : Nat) t v, Try.f3.params[j]? = some t → args[j]? = some v → Value.okWide Try.prog W .any base t v := hval0
  have hsz : (DataW.weightsEach Try.prog (Try.f3.params.toList ++ Rows.codeChecksSpec.plain.varTypes Try.prog) (ds ++ gs)).all (· ≤ reachBytes) = true := hsz0
  clear hsz0
  have hW' := hW
  obtain ⟨p, q, hA0, hV, rfl, hfz, hnd⟩ := hW
  have hA : DataW.TrodAll enc Try.prog W 0 (fun _ => true) true Try.f3.params.toList args.toList ds p := hA0
  rw [Try.params3] at hA hval hsz
  obtain ⟨v0, vs0, d0, ds0, p0, q0, hargs, rfl, rfl, h0, r0'⟩ := trodAll_cons hA
  obtain ⟨rfl, rfl, rfl⟩ := trodAll_nil r0'
  obtain rfl : args = #[v0] := by cases args; simp_all
  obtain ⟨rfl, rfl⟩ := trodVars_none hV
  have k0 := h0
  have lt0 : ∀ x ∈ p0, x.block < W.heap.size := by obtain ⟨m, hm⟩ := k0; exact DataW.trod_lt m _ _ _ hm
  obtain ⟨p0', rfl, hp0, hl0, hw0, hr0⟩ := read_progS (hval 0 26 v0 rfl rfl) h0
  have hr0' : Room p0' := hr0 (fun m hm => of_decide_eq_true (List.all_eq_true.1 hsz m (DataW.weights_mem_each (j := 0) (t := 26) rfl rfl _ hm)))
  clear hA0 hval0
  refine (walk W p0' hp0 hl0 hw0 hr0').mono fun e W' ⟨he, hnew⟩ => ?_
  have bel := hnew.below
  subst he
  exact ⟨_, rfl, _, _, _, [], _, [], hW', trodAll_mk1 (shut_bool Try.underlying4 _), (trodAll_cons_mk (Below.trod laidOut (by kernel_rfl) (of_decide_eq_true (by kernel_rfl)) k0 bel lt0) trodAll_mk0), rfl, bel.frame _, fun h => by cases h⟩

theorem over : Rows.codeChecksRow.holds Try.pinned (OpenSpec.ofChange Rows.codeChecksSpec) :=
  OpenClaim.holds_of_wide 3 Try.f3 rfl rfl rfl rfl rfl rfl rfl ⟨rfl, rfl, rfl, rfl, rfl⟩ rfl rfl rfl rfl rfl (by kernel_rfl) Try.func3 (by kernel_rfl)
    (of_decide_eq_true (by kernel_rfl)) (by unfold Func.isWrapper; first | (rw [if_pos (by decide +kernel)]; kernel_rfl) | (rw [if_neg (by decide +kernel)]; exact ⟨rfl, rfl⟩))
    (fun os started H enc _ => lifted os started H enc)

/-- THE STATEMENT. -/
theorem proved : Rows.CodeChecksSaid := over
end Go.Proofs.Ytfmpjbiaamkobaa.codeChecks
