/-
  'CodeBack': the law returns true at every input; what it is handed reads afterwards as before.
-/
import Derived.Test.YtfmpjbiaamkobaaRead
import Derived.Test.YtfmpjbiaamkobaaReadProg
import Derived.Test.YtfmpjbiaamkobaaCodeZ
namespace Go.Proofs.Ytfmpjbiaamkobaa.codeBack
open Go Go.RowKit Go.Joins Go.ChangeShapes Go.WideShapes Go.ChangeAt
open Go.ChangeMaps (open_string shut_string)
set_option linter.all false

set_option maxRecDepth 100000 in
set_option maxHeartbeats 4000000 in
theorem bad (w : World) (p0 : Pg) (hp0 : PgAt w p0) (hl0 : Lens p0) (hw0 : PgWf p0) (h0 : (stepsR p0).2 ≠ 0) :
    Calls Try.prog 7 #[p0.v] w fun e w' => e = .returned (.bool true) ∧ New w w' := by
  have ka : New w (w.alloc (.cells p0.cs 26)) := Keeps.alloc _ _
  have h1 := fun W k => cencode_bad W p0 (hp0.new k) hl0 h0
  have h2 := fun W k => ccheck_any W p0 (hp0.new k) hl0
  generalize (stepsR p0).2 = r at h0 h1 h2
  have e0 : (r != 0) = true := by simpa using h0
  have e1 : (r == 0) = false := by simpa using h0
  simp only [Pg.v, Pg.cs] at h1 h2 ka ⊢
  clear hp0 hl0 hw0 h0
  go_enter Try.func7, Try.ntmps7
  go_wp2_with fail
  refine (h1 _ ka).mono ?_
  rintro e w1 ⟨rfl, n1⟩
  have x0 := n1.cell (p := ⟨w.heap.size, 0, none⟩) (v := I p0.mem) (by simp)
  have x1 := n1.cell (p := ⟨w.heap.size, 1, none⟩) (v := I p0.ctr) (by simp)
  have x2 := n1.cell (p := ⟨w.heap.size, 2, none⟩) (v := I p0.ins) (by simp)
  have x3 := n1.cell (p := ⟨w.heap.size, 3, none⟩) (v := I p0.outs) (by simp)
  have x4 := n1.cell (p := ⟨w.heap.size, 4, none⟩) (v := .slice p0.pa p0.parts.length p0.pc) (by simp)
  have x5 := n1.cell (p := ⟨w.heap.size, 5, none⟩) (v := .slice p0.la p0.lines.length p0.lc) (by simp)
  have x6 := n1.cell (p := ⟨w.heap.size, 6, none⟩) (v := .slice p0.oa p0.ops.length p0.oc) (by simp)
  go_wp2_with fail
  refine (h2 _ (ka.trans n1)).mono ?_
  rintro e w2 ⟨rfl, n2⟩
  go_wp2_with fail
  refine (awake_any _).mono ?_
  rintro e w3 ⟨rfl, n3⟩
  go_wp2_with fail
  go_ret
  exact ⟨rfl, ((ka.trans n1).trans n2).trans n3⟩

set_option maxRecDepth 100000 in
set_option maxHeartbeats 4000000 in
theorem good (w : World) (p0 : Pg) (hp0 : PgAt w p0) (hl0 : Lens p0) (hw0 : PgWf p0) (h0 : (stepsR p0).2 = 0) :
    Calls Try.prog 7 #[p0.v] w fun e w' => e = .returned (.bool true) ∧ New w w' := by
  have ka : New w (w.alloc (.cells p0.cs 26)) := Keeps.alloc _ _
  have h1 := fun W k => cencode_good W p0 (hp0.new k) hl0 hw0 h0
  have h2 := fun W k => ccheck_any W p0 (hp0.new k) hl0
  rw [h0] at h2
  obtain ⟨hbb, hsz⟩ := sound_bytes h0 hw0
  have h3 := fun W => cdecode_any W (strOfNums (progB p0)) (by omega)
  rw [hbb, decode_back h0 hw0] at h3
  have h4 : ∀ (W : World) (q : Pg), New w W → PgAt W q → q.bare = p0.bare → Calls Try.prog 15 #[p0.v, q.v] W fun e w' => e = .returned (.bool true) ∧ New W w' :=
    fun W q k hq hb => sameProg_yes W p0 q (hp0.new k) hq hb.symm hl0
  generalize strOfNums (progB p0) = s at h1 h3
  generalize hgb : p0.bare = pb at h3 h4
  clear hbb hsz hgb hp0 hl0 hw0 h0
  simp only [Pg.v, Pg.cs] at h1 h2 h4 ka ⊢
  go_enter Try.func7, Try.ntmps7
  go_wp2_with fail
  refine (h1 _ ka).mono ?_
  rintro e w1 ⟨rfl, n1⟩
  go_wp2_with fail
  refine (h3 _).mono ?_
  rintro e w2 ⟨q, hq, rfl, hown, n2⟩
  have x0 := (n1.trans n2).cell (p := ⟨w.heap.size, 0, none⟩) (v := I p0.mem) (by simp)
  have x1 := (n1.trans n2).cell (p := ⟨w.heap.size, 1, none⟩) (v := I p0.ctr) (by simp)
  have x2 := (n1.trans n2).cell (p := ⟨w.heap.size, 2, none⟩) (v := I p0.ins) (by simp)
  have x3 := (n1.trans n2).cell (p := ⟨w.heap.size, 3, none⟩) (v := I p0.outs) (by simp)
  have x4 := (n1.trans n2).cell (p := ⟨w.heap.size, 4, none⟩) (v := .slice p0.pa p0.parts.length p0.pc) (by simp)
  have x5 := (n1.trans n2).cell (p := ⟨w.heap.size, 5, none⟩) (v := .slice p0.la p0.lines.length p0.lc) (by simp)
  have x6 := (n1.trans n2).cell (p := ⟨w.heap.size, 6, none⟩) (v := .slice p0.oa p0.ops.length p0.oc) (by simp)
  have hat := hown.at
  have hql := hown
  have HQ := Lib.hid hq
  clear hq hown hql
  simp only [Pg.v, Pg.cs]
  have hsz2 : w.heap.size < w2.heap.size := World.block_lt_of_cell? w2 _ x0
  go_wp2_with fail
  have k3 : New w2 ((w2.alloc (.cells #[I q.mem, I q.ctr, I q.ins, I q.outs, .slice q.pa q.parts.length q.pc, .slice q.la q.lines.length q.lc, .slice q.oa q.ops.length q.oc] 26)).alloc (.cells #[I 0, I 0] 38)) := ((New.refl w2).alloc _).alloc _
  have hb : ((w2.alloc (.cells #[I q.mem, I q.ctr, I q.ins, I q.outs, .slice q.pa q.parts.length q.pc, .slice q.la q.lines.length q.lc, .slice q.oa q.ops.length q.oc] 26)).alloc (.cells #[I 0, I 0] 38)).heap[w2.heap.size]? = some (.cells #[I q.mem, I q.ctr, I q.ins, I q.outs, .slice q.pa q.parts.length q.pc, .slice q.la q.lines.length q.lc, .slice q.oa q.ops.length q.oc] 26 (0, 0)) := Keeps.heap (S := fun _ => False) (Keeps.alloc _ _) (heap_alloc_new w2 _) (fun h => h)
  have hf : ((w2.alloc (.cells #[I q.mem, I q.ctr, I q.ins, I q.outs, .slice q.pa q.parts.length q.pc, .slice q.la q.lines.length q.lc, .slice q.oa q.ops.length q.oc] 26)).alloc (.cells #[I 0, I 0] 38)).heap[w2.heap.size + 1]? = some (.cells #[I 0, I 0] 38 (0, 0)) := by
    have h := heap_alloc_new (w2.alloc (.cells #[I q.mem, I q.ctr, I q.ins, I q.outs, .slice q.pa q.parts.length q.pc, .slice q.la q.lines.length q.lc, .slice q.oa q.ops.length q.oc] 26)) (.cells #[I 0, I 0] 38)
    have e : (w2.alloc (.cells #[I q.mem, I q.ctr, I q.ins, I q.outs, .slice q.pa q.parts.length q.pc, .slice q.la q.lines.length q.lc, .slice q.oa q.ops.length q.oc] 26)).heap.size = w2.heap.size + 1 := by simp
    rw [e] at h; exact h
  generalize ((w2.alloc (.cells #[I q.mem, I q.ctr, I q.ins, I q.outs, .slice q.pa q.parts.length q.pc, .slice q.la q.lines.length q.lc, .slice q.oa q.ops.length q.oc] 26)).alloc (.cells #[I 0, I 0] 38)) = w3 at k3 hb hf ⊢
  refine (h2 _ (((ka.trans n1).trans n2).trans k3)).mono ?_
  rintro e w4 ⟨rfl, n4⟩
  have hb4 := Keeps.heap n4 hb (fun h => h)
  have hf4 := Keeps.heap n4 hf (fun h => h)
  have hk24 := k3.trans n4
  have hNw := ((ka.trans n1).trans n2).trans hk24
  replace x0 := hk24.cell x0
  replace x1 := hk24.cell x1
  replace x2 := hk24.cell x2
  replace x3 := hk24.cell x3
  replace x4 := hk24.cell x4
  replace x5 := hk24.cell x5
  replace x6 := hk24.cell x6
  have y0 : w4.cell? ⟨w2.heap.size, 0, none⟩ = some (I q.mem) := by rw [cell_of_block hb4 0]; simp
  have y1 : w4.cell? ⟨w2.heap.size, 1, none⟩ = some (I q.ctr) := by rw [cell_of_block hb4 1]; simp
  have y2 : w4.cell? ⟨w2.heap.size, 2, none⟩ = some (I q.ins) := by rw [cell_of_block hb4 2]; simp
  have y3 : w4.cell? ⟨w2.heap.size, 3, none⟩ = some (I q.outs) := by rw [cell_of_block hb4 3]; simp
  have y4 : w4.cell? ⟨w2.heap.size, 4, none⟩ = some (.slice q.pa q.parts.length q.pc) := by rw [cell_of_block hb4 4]; simp
  have y5 : w4.cell? ⟨w2.heap.size, 5, none⟩ = some (.slice q.la q.lines.length q.lc) := by rw [cell_of_block hb4 5]; simp
  have y6 : w4.cell? ⟨w2.heap.size, 6, none⟩ = some (.slice q.oa q.ops.length q.oc) := by rw [cell_of_block hb4 6]; simp
  have z0 : w4.cell? ⟨w2.heap.size + 1, 0, none⟩ = some (I 0) := by rw [cell_of_block hf4 0]; simp
  have z1 : w4.cell? ⟨w2.heap.size + 1, 1, none⟩ = some (I 0) := by rw [cell_of_block hf4 1]; simp
  clear hb4 hf4 hb hf
  go_wp2_with fail
  refine (h4 w4 q hNw (hat.new hk24) HQ.out).mono ?_
  rintro e w5 ⟨rfl, n5⟩
  go_wp2_with fail
  refine (awake_any _).mono ?_
  rintro e w6 ⟨rfl, n6⟩
  go_wp2_with fail
  go_ret
  exact ⟨rfl, (hNw.trans n5).trans n6⟩

set_option maxRecDepth 100000 in
set_option maxHeartbeats 4000000 in
theorem walk (w : World) (p0 : Pg) (hp0 : PgAt w p0) (hl0 : Lens p0) (hw0 : PgWf p0) :
    Calls Try.prog 7 #[p0.v] w fun e w' => e = .returned (.bool true) ∧ New w w' := by
  by_cases h0 : (stepsR p0).2 = 0
  · exact good w p0 hp0 hl0 hw0 h0
  · exact bad w p0 hp0 hl0 hw0 h0
set_option maxRecDepth 100000 in
theorem lifted (os : Os) (started : os.Started) (H : Type) (enc : TypeId × Value → H) :
    ReturnsInHanded {} Try.checked os 7 .any (Rows.codeBackSpec.pre6 enc Try.prog Try.f7 Rows.codeBackRow.domain false) (Rows.codeBackSpec.post enc Try.prog Try.f7 false true false false) := by
  refine returnsInHanded_of_change (C := Try.checked) own started (by kernel_rfl) Try.func7
    (ChangeSpec.witness6 (enc := enc) (C := Try.checked) false ⟨#[], #[.agg #[.int .i64 0, .int .i64 0, .int .i64 0, .int .i64 0, .slice none 0 0, .slice none 0 0, .slice none 0 0]], []⟩ 8 (by kernel_rfl) (by kernel_rfl) (by kernel_rfl) (by kernel_rfl)) ?_
  intro W base args ds gs before hval0 hW hcnd _
  have hval : ∀ (j : Nat) t v, Try.f7.params[j]? = some t → args[j]? = some v → Value.okWide Try.prog W .any base t v := hval0
  have hW' := hW
  obtain ⟨p, q, hA0, hV, rfl, hfz, hnd⟩ := hW
  have hA : DataW.TrodAll enc Try.prog W 0 (fun _ => true) true Try.f7.params.toList args.toList ds p := hA0
  rw [Try.params7] at hA hval
  obtain ⟨v0, vs0, d0, ds0, p0, q0, hargs, rfl, rfl, h0, r0'⟩ := trodAll_cons hA
  obtain ⟨rfl, rfl, rfl⟩ := trodAll_nil r0'
  obtain rfl : args = #[v0] := by cases args; simp_all
  obtain ⟨rfl, rfl⟩ := trodVars_none hV
  have k0 := h0
  have lt0 : ∀ x ∈ p0, x.block < W.heap.size := by obtain ⟨m, hm⟩ := k0; exact DataW.trod_lt m _ _ _ hm
  obtain ⟨p0', rfl, hp0, hl0, hw0⟩ := read_prog (hval 0 26 v0 rfl rfl) h0
  clear hA0 hval0
  refine (walk W p0' hp0 hl0 hw0).mono fun e W' ⟨he, hnew⟩ => ?_
  have bel := hnew.below
  subst he
  exact ⟨_, rfl, _, _, _, [], _, [], hW', trodAll_mk1 (shut_bool Try.underlying4 _), (trodAll_cons_mk (Below.trod laidOut (by kernel_rfl) (of_decide_eq_true (by kernel_rfl)) k0 bel lt0) trodAll_mk0), rfl, bel.frame _, fun h => by cases h⟩

theorem over : Rows.codeBackRow.holds Try.pinned (OpenSpec.ofChange Rows.codeBackSpec) :=
  OpenClaim.holds_of_wide 7 Try.f7 rfl rfl rfl rfl rfl rfl rfl ⟨rfl, rfl, rfl, rfl, rfl⟩ rfl rfl rfl rfl rfl (by kernel_rfl) Try.func7 (by kernel_rfl)
    (of_decide_eq_true (by kernel_rfl)) (by unfold Func.isWrapper; first | (rw [if_pos (by decide +kernel)]; kernel_rfl) | (rw [if_neg (by decide +kernel)]; exact ⟨rfl, rfl⟩))
    (fun os started H enc _ => lifted os started H enc)

/-- THE STATEMENT. -/
theorem proved : Rows.CodeBackSaid := over
end Go.Proofs.Ytfmpjbiaamkobaa.codeBack
