/-
  Layer 20: the small program; awake.
-/
import Derived.Test.YtfmpjbiaamkobaaDoorCodeX
import Derived.Deep.RegionHeld3
namespace Go.Proofs.YtfmpjbiaamkobaaDoor
open Go Go.RowKit Go.Joins
set_option linter.all false

def cntOps : List OpD := [⟨1, 0, 3⟩, ⟨5, 0, 0⟩, ⟨7, 0, 1⟩, ⟨2, 0, 1⟩, ⟨0, 0, 0⟩]
/-- The small program, wherever it lies. -/
def cnt (a b c : Option Addr) : Pg := ⟨2, 1, 0, 1, a, 1, [⟨10, c, 2, [5, -1]⟩], none, 0, [], b, 5, cntOps⟩
def cntB : Pg := ⟨2, 1, 0, 1, none, 0, [⟨10, none, 0, [5, -1]⟩], none, 0, [], none, 0, cntOps⟩
theorem cnt_is (a b c : Option Addr) : (cnt a b c).bare = cntB := rfl
theorem cntB_steps : stepsR cntB = (11, 0) := by kernel_rfl
theorem cnt_steps (a b c : Option Addr) : stepsR (cnt a b c) = (11, 0) := by rw [← stepsR_bare, cnt_is, cntB_steps]
theorem cntB_len : (progB cntB).length = 30 := by kernel_rfl
theorem cnt_bytes (a b c : Option Addr) : progB (cnt a b c) = progB cntB := by rw [← progB_bare, cnt_is]
theorem cnt_lens (a b c : Option Addr) : Lens (cnt a b c) := ⟨by simp [cnt], by simp [cnt], by simp [cnt, cntOps], by simp [cnt], by simp [cnt]⟩
theorem cnt_wf (a b c : Option Addr) : PgWf (cnt a b c) := ⟨by simp [cnt, i64B], by simp [cnt]⟩

set_option maxRecDepth 100000 in
set_option maxHeartbeats 4000000 in
theorem counting_any (w : World) :
    Calls Tryd.prog 10 #[] w fun e w' => ∃ a b c, e = .returned (cnt a b c).v ∧ PgAt w' (cnt a b c) ∧ New w w' := by
  go_enter Tryd.func10, Tryd.ntmps10
  go_wp2_with fail
  refine bodyPost_ret (v := .agg #[I 2, I 1, I 0, I 1, .slice (some ⟨w.heap.size + 1 + 1, 0, none⟩) 1 1, .slice none 0 0, .slice (some ⟨w.heap.size + 1 + 1 + 1, 0, none⟩) 5 5]) (by simp [results, Tryd.results10, go_sem]) rfl ⟨some ⟨w.heap.size + 1 + 1, 0, none⟩, some ⟨w.heap.size + 1 + 1 + 1, 0, none⟩, some ⟨w.heap.size + 1, 0, none⟩, rfl, ?_, ((((New.refl w).alloc _).alloc _).alloc _).alloc _⟩
  refine ⟨?_, ?_, SlAt.nil _ _, fun x hx => ?_, fun x hx => by cases hx⟩
  · exact SlAt.block (e := 24) (fr := (0, 0)) (by
      have h := heap_alloc_new (((w.alloc (.cells #[I 2, I 1, I 0, I 1, .slice (some ⟨w.heap.size + 1 + 1, 0, none⟩) 1 1, .slice none 0 0, .slice (some ⟨w.heap.size + 1 + 1 + 1, 0, none⟩) 5 5] 39)).alloc (.cells #[I 5, I (-1)] 3)).alloc (.cells #[.int .u8 10, .slice (some ⟨w.heap.size + 1, 0, none⟩) 2 2] 52))
        (.cells #[.int .u8 1, I 0, I 3, .int .u8 5, I 0, I 0, .int .u8 7, I 0, I 1, .int .u8 2, I 0, I 1, .int .u8 0, I 0, I 0] 24)
      have e : (((w.alloc (.cells #[I 2, I 1, I 0, I 1, .slice (some ⟨w.heap.size + 1 + 1, 0, none⟩) 1 1, .slice none 0 0, .slice (some ⟨w.heap.size + 1 + 1 + 1, 0, none⟩) 5 5] 39)).alloc (.cells #[I 5, I (-1)] 3)).alloc (.cells #[.int .u8 10, .slice (some ⟨w.heap.size + 1, 0, none⟩) 2 2] 52)).heap.size = w.heap.size + 1 + 1 + 1 := by simp
      rw [e] at h; exact h)
  · exact SlAt.block (e := 52) (fr := (0, 0)) (Keeps.heap (S := fun _ => False) (Keeps.alloc _ _) (by
      have h := heap_alloc_new ((w.alloc (.cells #[I 2, I 1, I 0, I 1, .slice (some ⟨w.heap.size + 1 + 1, 0, none⟩) 1 1, .slice none 0 0, .slice (some ⟨w.heap.size + 1 + 1 + 1, 0, none⟩) 5 5] 39)).alloc (.cells #[I 5, I (-1)] 3)) (.cells #[.int .u8 10, .slice (some ⟨w.heap.size + 1, 0, none⟩) 2 2] 52)
      have e : ((w.alloc (.cells #[I 2, I 1, I 0, I 1, .slice (some ⟨w.heap.size + 1 + 1, 0, none⟩) 1 1, .slice none 0 0, .slice (some ⟨w.heap.size + 1 + 1 + 1, 0, none⟩) 5 5] 39)).alloc (.cells #[I 5, I (-1)] 3)).heap.size = w.heap.size + 1 + 1 := by simp
      rw [e] at h; exact h) (fun h => h))
  · obtain rfl : x = ⟨10, some ⟨w.heap.size + 1, 0, none⟩, 2, [5, -1]⟩ := by simpa [cnt] using hx
    exact SlAt.block (e := 3) (fr := (0, 0)) (Keeps.heap (S := fun _ => False) (Keeps.alloc _ _) (Keeps.heap (S := fun _ => False) (Keeps.alloc _ _) (by
      have h := heap_alloc_new (w.alloc (.cells #[I 2, I 1, I 0, I 1, .slice (some ⟨w.heap.size + 1 + 1, 0, none⟩) 1 1, .slice none 0 0, .slice (some ⟨w.heap.size + 1 + 1 + 1, 0, none⟩) 5 5] 39)) (.cells #[I 5, I (-1)] 3)
      have e : (w.alloc (.cells #[I 2, I 1, I 0, I 1, .slice (some ⟨w.heap.size + 1 + 1, 0, none⟩) 1 1, .slice none 0 0, .slice (some ⟨w.heap.size + 1 + 1 + 1, 0, none⟩) 5 5] 39)).heap.size = w.heap.size + 1 := by simp
      rw [e] at h; exact h) (fun h => h)) (fun h => h))

set_option maxRecDepth 100000 in
set_option maxHeartbeats 8000000 in
theorem awake_any (w : World) :
    Calls Tryd.prog 6 #[] w fun e w' => e = .returned (.bool true) ∧ New w w' := by
  have hbl : bytesOf (strOfNums (progB cntB)) = progB cntB := by kernel_rfl
  have hsz : (strOfNums (progB cntB)).size = 30 := by rw [strOfNums_size, cntB_len]
  have hdec : decodeR (progB cntB) = .ok cntB := by
    have := decode_back (p := cntB) (by rw [cntB_steps]) ⟨by simp [cntB, i64B], by simp [cntB]⟩
    exact this
  go_enter Tryd.func6, Tryd.ntmps6
  go_wp2_with fail
  refine (counting_any _).mono ?_
  rintro e w1 ⟨a1, b1, c1, rfl, hp1, k1⟩
  go_wp2_with fail
  refine (csteps_any w1 _ hp1 (cnt_lens _ _ _)).mono ?_
  rw [cnt_steps]
  rintro e w2 ⟨rfl, k2⟩
  go_wp2_with fail
  refine (counting_any _).mono ?_
  rintro e w3 ⟨a3, b3, c3, rfl, hp3, k3⟩
  go_wp2_with fail
  refine (cencode_good w3 _ hp3 (cnt_lens _ _ _) (cnt_wf _ _ _) (by rw [cnt_steps])).mono ?_
  rw [cnt_bytes]
  rintro e w4 ⟨rfl, k4⟩
  have hd := fun w => cdecode_any w (strOfNums (progB cntB)) (by omega)
  rw [hbl, hdec] at hd
  generalize strOfNums (progB cntB) = s at hsz hd ⊢
  clear hbl hdec
  go_wp2_with fail
  refine (hd _).mono ?_
  rintro e w5 ⟨q, hq, rfl, hown, k5⟩
  have hN5 : New w w5 := (((k1.trans k2).trans k3).trans k4).trans k5
  have hat := hown.at
  have hql := lens_of hown
  have HQ := Lib.hid hq
  have HS := Lib.hid hsz
  have hsame : ∀ W a b c, New w5 W → PgAt W (cnt a b c) → Calls Tryd.prog 13 #[q.v, (cnt a b c).v] W fun e w' => e = .returned (.bool true) ∧ New W w' :=
    fun W a b c k h => sameProg_yes W q (cnt a b c) (hat.new k) h (by rw [HQ.out]; rfl) hql
  have hlen : ((s.size : Int) == 30) = true := by rw [hsz]; rfl
  clear hq hsz hd
  go_wp2_with fail
  have hb : ((w5.alloc (.cells #[I q.mem, I q.ctr, I q.ins, I q.outs, .slice q.pa q.parts.length q.pc, .slice q.la q.lines.length q.lc, .slice q.oa q.ops.length q.oc] 39)).alloc (.cells #[I 0, I 0] 43)).heap[w5.heap.size]? = some (.cells #[I q.mem, I q.ctr, I q.ins, I q.outs, .slice q.pa q.parts.length q.pc, .slice q.la q.lines.length q.lc, .slice q.oa q.ops.length q.oc] 39 (0, 0)) := Keeps.heap (S := fun _ => False) (Keeps.alloc _ _) (heap_alloc_new w5 _) (fun h => h)
  have hf : ((w5.alloc (.cells #[I q.mem, I q.ctr, I q.ins, I q.outs, .slice q.pa q.parts.length q.pc, .slice q.la q.lines.length q.lc, .slice q.oa q.ops.length q.oc] 39)).alloc (.cells #[I 0, I 0] 43)).heap[w5.heap.size + 1]? = some (.cells #[I 0, I 0] 43 (0, 0)) := by
    have h := heap_alloc_new (w5.alloc (.cells #[I q.mem, I q.ctr, I q.ins, I q.outs, .slice q.pa q.parts.length q.pc, .slice q.la q.lines.length q.lc, .slice q.oa q.ops.length q.oc] 39)) (.cells #[I 0, I 0] 43)
    have e : (w5.alloc (.cells #[I q.mem, I q.ctr, I q.ins, I q.outs, .slice q.pa q.parts.length q.pc, .slice q.la q.lines.length q.lc, .slice q.oa q.ops.length q.oc] 39)).heap.size = w5.heap.size + 1 := by simp
    rw [e] at h; exact h
  have k6 : New w5 ((w5.alloc (.cells #[I q.mem, I q.ctr, I q.ins, I q.outs, .slice q.pa q.parts.length q.pc, .slice q.la q.lines.length q.lc, .slice q.oa q.ops.length q.oc] 39)).alloc (.cells #[I 0, I 0] 43)) := ((New.refl w5).alloc _).alloc _
  generalize ((w5.alloc (.cells #[I q.mem, I q.ctr, I q.ins, I q.outs, .slice q.pa q.parts.length q.pc, .slice q.la q.lines.length q.lc, .slice q.oa q.ops.length q.oc] 39)).alloc (.cells #[I 0, I 0] 43)) = w6 at hb hf k6 ⊢
  have g0 : w6.cell? ⟨w5.heap.size, 0, none⟩ = some (I q.mem) := by rw [cell_of_block hb 0]; simp
  have g1 : w6.cell? ⟨w5.heap.size, 1, none⟩ = some (I q.ctr) := by rw [cell_of_block hb 1]; simp
  have g2 : w6.cell? ⟨w5.heap.size, 2, none⟩ = some (I q.ins) := by rw [cell_of_block hb 2]; simp
  have g3 : w6.cell? ⟨w5.heap.size, 3, none⟩ = some (I q.outs) := by rw [cell_of_block hb 3]; simp
  have g4 : w6.cell? ⟨w5.heap.size, 4, none⟩ = some (.slice q.pa q.parts.length q.pc) := by rw [cell_of_block hb 4]; simp
  have g5 : w6.cell? ⟨w5.heap.size, 5, none⟩ = some (.slice q.la q.lines.length q.lc) := by rw [cell_of_block hb 5]; simp
  have g6 : w6.cell? ⟨w5.heap.size, 6, none⟩ = some (.slice q.oa q.ops.length q.oc) := by rw [cell_of_block hb 6]; simp
  have f0 : w6.cell? ⟨w5.heap.size + 1, 0, none⟩ = some (I 0) := by rw [cell_of_block hf 0]; simp
  have f1 : w6.cell? ⟨w5.heap.size + 1, 1, none⟩ = some (I 0) := by rw [cell_of_block hf 1]; simp
  clear hb hf
  go_region_held3 (fun w' => w'.cell? ⟨w5.heap.size, 0, none⟩ = some (I q.mem) ∧ w'.cell? ⟨w5.heap.size, 1, none⟩ = some (I q.ctr) ∧ w'.cell? ⟨w5.heap.size, 2, none⟩ = some (I q.ins) ∧ w'.cell? ⟨w5.heap.size, 3, none⟩ = some (I q.outs) ∧ w'.cell? ⟨w5.heap.size, 4, none⟩ = some (.slice q.pa q.parts.length q.pc) ∧ w'.cell? ⟨w5.heap.size, 5, none⟩ = some (.slice q.la q.lines.length q.lc) ∧ w'.cell? ⟨w5.heap.size, 6, none⟩ = some (.slice q.oa q.ops.length q.oc) ∧ w'.cell? ⟨w5.heap.size + 1, 0, none⟩ = some (I 0) ∧ w'.cell? ⟨w5.heap.size + 1, 1, none⟩ = some (I 0))
    ((first | (refine ⟨New.cell (w := w6) ?_ g0, New.cell (w := w6) ?_ g1, New.cell (w := w6) ?_ g2, New.cell (w := w6) ?_ g3, New.cell (w := w6) ?_ g4, New.cell (w := w6) ?_ g5, New.cell (w := w6) ?_ g6, New.cell (w := w6) ?_ f0, New.cell (w := w6) ?_ f1⟩ <;> (repeat (first | exact New.refl w6 | refine New.drew ?_ | refine New.trans ?_ n7 | refine New.trans ?_ n8)))))
    ((first | (go_at_call 10; refine (counting_any _).mono ?_; rintro e w7 ⟨a7, b7, c7, rfl, hp7, n7⟩) | (go_at_call 13; refine (hsame _ _ _ _ (k6.trans (((New.refl w6).drew).trans n7)) hp7).mono ?_; rintro e w8 ⟨rfl, n8⟩)))
  simp only [Exit.then]
  go_wp2
  go_ret
  exact ⟨rfl, hN5.trans ((k6.trans (((New.refl w6).drew).trans n7)).trans n8)⟩
end Go.Proofs.YtfmpjbiaamkobaaDoor
