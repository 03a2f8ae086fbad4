/-
  'CodeBytes': the law returns true at every input; what it is handed reads afterwards as before.
-/
import Derived.Test.YtfmpjbiaamkobaaRead
import Derived.Test.YtfmpjbiaamkobaaCodeZ
namespace Go.Proofs.Ytfmpjbiaamkobaa.codeBytes
open Go Go.RowKit Go.Joins Go.ChangeShapes Go.WideShapes Go.ChangeAt
open Go.ChangeMaps (open_string shut_string)
set_option linter.all false

set_option maxRecDepth 100000 in
set_option maxHeartbeats 4000000 in
theorem bad (w : World) (a0 : ByteArray) (hs : a0.size ≤ 9223372036854775807) (c a : Int) (hd : decodeR (bytesOf a0) = .error (c, a)) :
    Calls Try.prog 8 #[.string a0] w fun e w' => e = .returned (.bool true) ∧ New w w' := by
  have h1 := cdecode_any w a0 hs
  rw [hd] at h1
  obtain ⟨ha0, ha1, hc⟩ := decode_fault hd
  rw [bytesOf_len] at ha1
  have e0 : (c != 0) = true := by simpa using hc
  clear hd hc
  go_enter Try.func8, Try.ntmps8
  go_wp2_with fail
  refine h1.mono ?_
  rintro e w1 ⟨rfl, n1⟩
  go_wp2_with fail
  have kw2 : New w1 ((w1.alloc (.cells #[I 0, I 0, I 0, I 0, .slice none 0 0, .slice none 0 0, .slice none 0 0] 26)).alloc (.cells #[I c, I a] 38)) := ((New.refl w1).alloc _).alloc _
  have hb : ((w1.alloc (.cells #[I 0, I 0, I 0, I 0, .slice none 0 0, .slice none 0 0, .slice none 0 0] 26)).alloc (.cells #[I c, I a] 38)).heap[w1.heap.size]? = some (.cells #[I 0, I 0, I 0, I 0, .slice none 0 0, .slice none 0 0, .slice none 0 0] 26 (0, 0)) := Keeps.heap (S := fun _ => False) (Keeps.alloc _ _) (heap_alloc_new w1 _) (fun h => h)
  have hf : ((w1.alloc (.cells #[I 0, I 0, I 0, I 0, .slice none 0 0, .slice none 0 0, .slice none 0 0] 26)).alloc (.cells #[I c, I a] 38)).heap[w1.heap.size + 1]? = some (.cells #[I c, I a] 38 (0, 0)) := by
    have h := heap_alloc_new (w1.alloc (.cells #[I 0, I 0, I 0, I 0, .slice none 0 0, .slice none 0 0, .slice none 0 0] 26)) (.cells #[I c, I a] 38)
    have e : (w1.alloc (.cells #[I 0, I 0, I 0, I 0, .slice none 0 0, .slice none 0 0, .slice none 0 0] 26)).heap.size = w1.heap.size + 1 := by simp
    rw [e] at h; exact h
  generalize ((w1.alloc (.cells #[I 0, I 0, I 0, I 0, .slice none 0 0, .slice none 0 0, .slice none 0 0] 26)).alloc (.cells #[I c, I a] 38)) = w2 at kw2 hb hf ⊢
  refine (awake_any _).mono ?_
  rintro e w3 ⟨rfl, n3⟩
  go_wp2_with fail
  go_ret
  exact ⟨rfl, (n1.trans kw2).trans n3⟩

set_option maxRecDepth 100000 in
set_option maxHeartbeats 4000000 in
theorem good (w : World) (a0 : ByteArray) (hs : a0.size ≤ 9223372036854775807) (p : Pg) (hd : decodeR (bytesOf a0) = .ok p) :
    Calls Try.prog 8 #[.string a0] w fun e w' => e = .returned (.bool true) ∧ New w w' := by
  have h1 := cdecode_any w a0 hs
  rw [hd] at h1
  obtain ⟨hp1, hp2⟩ := decode_bytes (bytesOf_rng a0) hd
  have hpw := decode_wf (bytesOf_rng a0) hd
  have h2 : ∀ (W : World) (q : Pg), q.bare = p → PgAt W q → Lens q → Calls Try.prog 20 #[q.v] W fun e w' => e = .returned (.tuple #[.string a0, I 0]) ∧ New W w' := by
    intro W q hq ha hl
    have hqb : p.bare = q.bare := by rw [← hq, bare_bare]
    have h := cencode_good W q ha hl (wf_same hqb hpw) (by rw [← stepsR_same hqb]; exact hp2)
    rw [← progB_same hqb, hp1, str_back] at h
    exact h
  have h3 : ∀ (W : World) (q : Pg), q.bare = p → PgAt W q → Lens q → Calls Try.prog 13 #[q.v] W fun e w' => e = .returned (I 0) ∧ New W w' := by
    intro W q hq ha hl
    have hqb : p.bare = q.bare := by rw [← hq, bare_bare]
    have h := ccheck_any W q ha hl
    rw [← stepsR_same hqb, hp2] at h
    exact h
  clear hd hp1 hp2 hpw
  go_enter Try.func8, Try.ntmps8
  go_wp2_with fail
  refine h1.mono ?_
  rintro e w1 ⟨q, hq, rfl, hown, n1⟩
  have hat := hown.at
  have hql := lens_of hown
  have HQ := Lib.hid hq
  clear hq hown h1
  simp only [Pg.v, Pg.cs]
  go_wp2_with fail
  have kw2 : New w1 ((w1.alloc (.cells #[I q.mem, I q.ctr, I q.ins, I q.outs, .slice q.pa q.parts.length q.pc, .slice q.la q.lines.length q.lc, .slice q.oa q.ops.length q.oc] 26)).alloc (.cells #[I 0, I 0] 38)) := ((New.refl w1).alloc _).alloc _
  have hb : ((w1.alloc (.cells #[I q.mem, I q.ctr, I q.ins, I q.outs, .slice q.pa q.parts.length q.pc, .slice q.la q.lines.length q.lc, .slice q.oa q.ops.length q.oc] 26)).alloc (.cells #[I 0, I 0] 38)).heap[w1.heap.size]? = some (.cells #[I q.mem, I q.ctr, I q.ins, I q.outs, .slice q.pa q.parts.length q.pc, .slice q.la q.lines.length q.lc, .slice q.oa q.ops.length q.oc] 26 (0, 0)) := Keeps.heap (S := fun _ => False) (Keeps.alloc _ _) (heap_alloc_new w1 _) (fun h => h)
  have hf : ((w1.alloc (.cells #[I q.mem, I q.ctr, I q.ins, I q.outs, .slice q.pa q.parts.length q.pc, .slice q.la q.lines.length q.lc, .slice q.oa q.ops.length q.oc] 26)).alloc (.cells #[I 0, I 0] 38)).heap[w1.heap.size + 1]? = some (.cells #[I 0, I 0] 38 (0, 0)) := by
    have h := heap_alloc_new (w1.alloc (.cells #[I q.mem, I q.ctr, I q.ins, I q.outs, .slice q.pa q.parts.length q.pc, .slice q.la q.lines.length q.lc, .slice q.oa q.ops.length q.oc] 26)) (.cells #[I 0, I 0] 38)
    have e : (w1.alloc (.cells #[I q.mem, I q.ctr, I q.ins, I q.outs, .slice q.pa q.parts.length q.pc, .slice q.la q.lines.length q.lc, .slice q.oa q.ops.length q.oc] 26)).heap.size = w1.heap.size + 1 := by simp
    rw [e] at h; exact h
  generalize ((w1.alloc (.cells #[I q.mem, I q.ctr, I q.ins, I q.outs, .slice q.pa q.parts.length q.pc, .slice q.la q.lines.length q.lc, .slice q.oa q.ops.length q.oc] 26)).alloc (.cells #[I 0, I 0] 38)) = w2 at kw2 hb hf ⊢
  refine (h2 w2 q HQ.out (hat.new kw2) hql).mono ?_
  rintro e w3 ⟨rfl, n3⟩
  have hb4 := Keeps.heap n3 hb (fun h => h)
  have hf4 := Keeps.heap n3 hf (fun h => h)
  have y0 : w3.cell? ⟨w1.heap.size, 0, none⟩ = some (I q.mem) := by rw [cell_of_block hb4 0]; simp
  have y1 : w3.cell? ⟨w1.heap.size, 1, none⟩ = some (I q.ctr) := by rw [cell_of_block hb4 1]; simp
  have y2 : w3.cell? ⟨w1.heap.size, 2, none⟩ = some (I q.ins) := by rw [cell_of_block hb4 2]; simp
  have y3 : w3.cell? ⟨w1.heap.size, 3, none⟩ = some (I q.outs) := by rw [cell_of_block hb4 3]; simp
  have y4 : w3.cell? ⟨w1.heap.size, 4, none⟩ = some (.slice q.pa q.parts.length q.pc) := by rw [cell_of_block hb4 4]; simp
  have y5 : w3.cell? ⟨w1.heap.size, 5, none⟩ = some (.slice q.la q.lines.length q.lc) := by rw [cell_of_block hb4 5]; simp
  have y6 : w3.cell? ⟨w1.heap.size, 6, none⟩ = some (.slice q.oa q.ops.length q.oc) := by rw [cell_of_block hb4 6]; simp
  have z0 : w3.cell? ⟨w1.heap.size + 1, 0, none⟩ = some (I 0) := by rw [cell_of_block hf4 0]; simp
  have z1 : w3.cell? ⟨w1.heap.size + 1, 1, none⟩ = some (I 0) := by rw [cell_of_block hf4 1]; simp
  clear hb4 hf4 hb hf
  go_wp2_with fail
  refine (h3 w3 q HQ.out (hat.new (kw2.trans n3)) hql).mono ?_
  rintro e w4 ⟨rfl, n4⟩
  go_wp2_with fail
  refine (awake_any _).mono ?_
  rintro e w5 ⟨rfl, n5⟩
  go_wp2_with fail
  go_ret
  exact ⟨rfl, (((n1.trans kw2).trans n3).trans n4).trans n5⟩

set_option maxRecDepth 100000 in
set_option maxHeartbeats 4000000 in
theorem walk (a0 : ByteArray) (h0 : a0.size ≤ maxLen) (w : World) :
    Calls Try.prog 8 #[.string a0] w fun e w' => e = .returned (.bool true) ∧ New w w' := by
  have hs : a0.size ≤ 9223372036854775807 := by unfold maxLen at h0; exact h0
  cases hd : decodeR (bytesOf a0) with
  | error r => obtain ⟨c, a⟩ := r; exact bad w a0 hs c a hd
  | ok p => exact good w a0 hs p hd
set_option maxRecDepth 100000 in
theorem lifted (os : Os) (started : os.Started) (H : Type) (enc : TypeId × Value → H) :
    ReturnsInHanded {} Try.checked os 8 .any (Rows.codeBytesSpec.pre6 enc Try.prog Try.f8 Rows.codeBytesRow.domain false) (Rows.codeBytesSpec.post enc Try.prog Try.f8 false true false false) := by
  refine returnsInHanded_of_change (C := Try.checked) own started (by kernel_rfl) Try.func8
    (ChangeSpec.witness6 (enc := enc) (C := Try.checked) false ⟨#[], #[.string ByteArray.empty], []⟩ 8 (by kernel_rfl) (by kernel_rfl) (by kernel_rfl) (by kernel_rfl)) ?_
  intro W base args ds gs before hval0 hW hcnd _
  have hval : ∀ (j : Nat) t v, Try.f8.params[j]? = some t → args[j]? = some v → Value.okWide Try.prog W .any base t v := hval0
  have hW' := hW
  obtain ⟨p, q, hA0, hV, rfl, hfz, hnd⟩ := hW
  have hA : DataW.TrodAll enc Try.prog W 0 (fun _ => true) true Try.f8.params.toList args.toList ds p := hA0
  rw [Try.params8] at hA hval
  obtain ⟨v0, vs0, d0, ds0, p0, q0, hargs, rfl, rfl, h0, r0'⟩ := trodAll_cons hA
  obtain ⟨rfl, rfl, rfl⟩ := trodAll_nil r0'
  obtain rfl : args = #[v0] := by cases args; simp_all
  obtain ⟨rfl, rfl⟩ := trodVars_none hV
  have k0 := h0
  have lt0 : ∀ x ∈ p0, x.block < W.heap.size := by obtain ⟨m, hm⟩ := k0; exact DataW.trod_lt m _ _ _ hm
  obtain ⟨a0, rfl, e0, _, w0⟩ := open_string Try.underlying9 (hval 0 9 v0 rfl rfl) h0
  clear hA0 hval0
  refine (walk a0 w0 W).mono fun e W' ⟨he, hnew⟩ => ?_
  have bel := hnew.below
  subst he
  exact ⟨_, rfl, _, _, _, [], _, [], hW', trodAll_mk1 (shut_bool Try.underlying4 _), (trodAll_cons_mk (Below.trod laidOut (by kernel_rfl) (of_decide_eq_true (by kernel_rfl)) k0 bel lt0) trodAll_mk0), rfl, bel.frame _, fun h => by cases h⟩

theorem over : Rows.codeBytesRow.holds Try.pinned (OpenSpec.ofChange Rows.codeBytesSpec) :=
  OpenClaim.holds_of_wide 8 Try.f8 rfl rfl rfl rfl rfl rfl rfl ⟨rfl, rfl, rfl, rfl, rfl⟩ rfl rfl rfl rfl rfl (by kernel_rfl) Try.func8 (by kernel_rfl)
    (of_decide_eq_true (by kernel_rfl)) (by unfold Func.isWrapper; first | (rw [if_pos (by decide +kernel)]; kernel_rfl) | (rw [if_neg (by decide +kernel)]; exact ⟨rfl, rfl⟩))
    (fun os started H enc _ => lifted os started H enc)

/-- THE STATEMENT. -/
theorem proved : Rows.CodeBytesSaid := over
end Go.Proofs.Ytfmpjbiaamkobaa.codeBytes
