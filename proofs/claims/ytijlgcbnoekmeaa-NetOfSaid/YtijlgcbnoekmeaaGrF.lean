/-
  Layer 8: the document's many, actor.
-/
import Derived.Test.YtijlgcbnoekmeaaGrE
namespace Go.Proofs.Ytijlgcbnoekmeaa
open Go Go.RowKit Go.Joins
set_option linter.all false

/-- A thing found wrong, as the document answers it. -/
def fndV (f : Int × Int × Int × Int) : Value := .agg #[I f.1, .int .u8 f.2.1, I f.2.2.1, I f.2.2.2]
/-- Is there too much of something? -/
def manyG (g : Gr) : Int × Int × Int × Int :=
  if 32 < g.acts.length then (81, 1, 32, 0)
  else if 96 < g.edges.length then (81, 2, 96, 0)
  else if 16 < g.ins.length then (81, 3, 16, 0)
  else if 16 < g.outs.length then (81, 4, 16, 0)
  else (0, 0, 0, 0)

theorem size_alloc (w : World) (o : Obj) : (w.alloc o).heap.size = w.heap.size + 1 := by
  show (w.heap.push o).size = _
  rw [Array.size_push]

set_option maxRecDepth 100000 in
set_option maxHeartbeats 4000000 in
theorem rmany_any (w : World) (g : Gr) (hl : GLen g) :
    Calls Try.prog 53 #[g.v] w fun en w' => en = .returned (fndV (manyG g)) ∧ New w w' := by
  have hla := hl.a
  have hle := hl.e
  have hli := hl.i
  have hlo := hl.o
  clear hl
  unfold manyG
  obtain ⟨gname, gaa, gac, gacts, gea, gec, gedges, gia, gic, gins, goa, goc, gouts⟩ := g
  simp only at *
  simp only [Gr.v, Gr.cs]
  by_cases h0 : 32 < gacts.length
  · rw [if_pos h0]
    have d0 : decide ((32 : Int) < (gacts.length : Int)) = true := decide_eq_true (by omega)
    clear h0
    go_enter Try.func53, Try.ntmps53
    go_wp2_with fail
    exact bodyPost_ret (v := .agg #[I 81, .int .u8 1, I 32, I 0]) (by simp [results, Try.results53, go_sem]) rfl ⟨rfl, ((New.refl w).alloc _).alloc _⟩
  · rw [if_neg h0]
    by_cases h1 : 96 < gedges.length
    · rw [if_pos h1]
      have d0 : decide ((32 : Int) < (gacts.length : Int)) = false := decide_eq_false (by omega)
      have d1 : decide ((96 : Int) < (gedges.length : Int)) = true := decide_eq_true (by omega)
      clear h0 h1
      go_enter Try.func53, Try.ntmps53
      go_wp2_with fail
      exact bodyPost_ret (v := .agg #[I 81, .int .u8 2, I 96, I 0]) (by simp [results, Try.results53, go_sem]) rfl ⟨rfl, ((New.refl w).alloc _).alloc _⟩
    · rw [if_neg h1]
      by_cases h2 : 16 < gins.length
      · rw [if_pos h2]
        have d0 : decide ((32 : Int) < (gacts.length : Int)) = false := decide_eq_false (by omega)
        have d1 : decide ((96 : Int) < (gedges.length : Int)) = false := decide_eq_false (by omega)
        have d2 : decide ((16 : Int) < (gins.length : Int)) = true := decide_eq_true (by omega)
        clear h0 h1 h2
        go_enter Try.func53, Try.ntmps53
        go_wp2_with fail
        exact bodyPost_ret (v := .agg #[I 81, .int .u8 3, I 16, I 0]) (by simp [results, Try.results53, go_sem]) rfl ⟨rfl, ((New.refl w).alloc _).alloc _⟩
      · rw [if_neg h2]
        by_cases h3 : 16 < gouts.length
        · rw [if_pos h3]
          have d0 : decide ((32 : Int) < (gacts.length : Int)) = false := decide_eq_false (by omega)
          have d1 : decide ((96 : Int) < (gedges.length : Int)) = false := decide_eq_false (by omega)
          have d2 : decide ((16 : Int) < (gins.length : Int)) = false := decide_eq_false (by omega)
          have d3 : decide ((16 : Int) < (gouts.length : Int)) = true := decide_eq_true (by omega)
          clear h0 h1 h2 h3
          go_enter Try.func53, Try.ntmps53
          go_wp2_with fail
          exact bodyPost_ret (v := .agg #[I 81, .int .u8 4, I 16, I 0]) (by simp [results, Try.results53, go_sem]) rfl ⟨rfl, ((New.refl w).alloc _).alloc _⟩
        · rw [if_neg h3]
          have d0 : decide ((32 : Int) < (gacts.length : Int)) = false := decide_eq_false (by omega)
          have d1 : decide ((96 : Int) < (gedges.length : Int)) = false := decide_eq_false (by omega)
          have d2 : decide ((16 : Int) < (gins.length : Int)) = false := decide_eq_false (by omega)
          have d3 : decide ((16 : Int) < (gouts.length : Int)) = false := decide_eq_false (by omega)
          clear h0 h1 h2 h3
          go_enter Try.func53, Try.ntmps53
          go_wp2_with fail
          exact bodyPost_ret (v := .agg #[I 0, .int .u8 0, I 0, I 0]) (by simp [results, Try.results53, go_sem]) rfl ⟨rfl, ((New.refl w).alloc _).alloc _⟩
set_option maxRecDepth 100000 in
set_option maxHeartbeats 4000000 in
theorem ractor_any (w : World) (g : Gr) (i : Nat) (hg : GrAt w g) (hl : GLen g) (hi : i < g.acts.length) :
    Calls Try.prog 54 #[g.v, I i] w fun en w' => en = .returned (I (actE g i g.acts[i]).1) ∧ New w w' := by
  have hsa := hg.sa
  have hla := hl.a
  have hxn := (hl.ax _ (List.getElem_mem hi)).1
  have hxs := (hl.ax _ (List.getElem_mem hi)).2
  have HN : ∀ W (k : New w W), Calls Try.prog 68 #[g.v, I i, I 0, I 0, .string g.acts[i].name] W fun en w' => en = .returned (.bool ((namesOf g i 0 0).any (fun t => decide (bytesN t = bytesN g.acts[i].name)))) ∧ New W w' :=
    fun W k => by simpa using rnamed_any W g i 0 0 g.acts[i].name (hg.new k) hl (by omega) (by omega) (by omega)
  have HO : ∀ W (k : New w W), Calls Try.prog 41 #[.int .u8 g.acts[i].tag, .slice g.acts[i].a g.acts[i].xs.length g.acts[i].c] W (Rates W (shapeS g.acts[i].tag g.acts[i].xs)) :=
    fun W k => refOf_any _ _ _ _ W ((hg.ax _ (List.getElem_mem hi)).new k) hxn
  have HNM : ∀ W, Calls Try.prog 52 #[.string g.acts[i].name] W fun e w' => e = .returned (.bool (nameB g.acts[i].name)) ∧ New W w' := fun W => rname_any W _ hxs
  have hE : (actE g i g.acts[i]).1 = if nameB g.acts[i].name = false then 82 else if (namesOf g i 0 0).any (fun t => decide (bytesN t = bytesN g.acts[i].name)) then 83 else (shapeS g.acts[i].tag g.acts[i].xs).1 := by
    unfold actE nameE
    by_cases h1 : nameB g.acts[i].name = false
    · simp [h1]
    · by_cases h2 : (namesOf g i 0 0).any (fun t => decide (bytesN t = bytesN g.acts[i].name)) = true
      · simp only [h1, h2]; simp
      · simp only [h1, h2]; simp
  rw [hE]
  clear hE
  generalize ((namesOf g i 0 0).any (fun t => decide (bytesN t = bytesN g.acts[i].name))) = tk at HN ⊢
  generalize shapeS g.acts[i].tag g.acts[i].xs = sh at HO ⊢
  obtain ⟨b, off, hab, q0, q1, q2⟩ := acts_at hsa hi
  have hi0 : (i : Int) < (g.acts.length : Int) := by omega
  have hbw : b < w.heap.size := World.block_lt_of_cell? w _ q0
  generalize g.acts[i] = x at q0 q1 q2 HN HO HNM hxn hxs ⊢
  generalize nameB x.name = nb at HNM ⊢
  clear hg hl hsa
  obtain ⟨gname, gaa, gac, gacts, gea, gec, gedges, gia, gic, gins, goa, goc, gouts⟩ := g
  simp only at HN hab hi hi0 hla
  simp only [Gr.v, Gr.cs] at HN ⊢
  subst hab
  clear hxn hxs
  cases nb with
  | false =>
    rw [if_pos rfl]
    go_enter Try.func54, Try.ntmps54
    go_wp2_with fail
    have hs0 : (w.alloc (.cells #[.string gname, .slice (some ⟨b, off, none⟩) gacts.length gac, .slice gea gedges.length gec, .slice gia gins.length gic, .slice goa gouts.length goc] 63)).heap.size = w.heap.size + 1 := size_alloc _ _
    have hN0 : New w (w.alloc (.cells #[.string gname, .slice (some ⟨b, off, none⟩) gacts.length gac, .slice gea gedges.length gec, .slice gia gins.length gic, .slice goa gouts.length goc] 63)) := (New.refl w).alloc _
    have hbx : (w.alloc (.cells #[.string gname, .slice (some ⟨b, off, none⟩) gacts.length gac, .slice gea gedges.length gec, .slice gia gins.length gic, .slice goa gouts.length goc] 63)).heap[w.heap.size]? = some (.cells #[.string gname, .slice (some ⟨b, off, none⟩) gacts.length gac, .slice gea gedges.length gec, .slice gia gins.length gic, .slice goa gouts.length goc] 63 (0, 0)) := heap_alloc_new w _
    generalize (w.alloc (.cells #[.string gname, .slice (some ⟨b, off, none⟩) gacts.length gac, .slice gea gedges.length gec, .slice gia gins.length gic, .slice goa gouts.length goc] 63)) = w0 at hN0 hbx hs0 ⊢
    have x0 : w0.cell? ⟨w.heap.size, 0, none⟩ = some (.string gname) := by rw [cell_of_block hbx 0]; simp
    have x1 : w0.cell? ⟨w.heap.size, 1, none⟩ = some (.slice (some ⟨b, off, none⟩) gacts.length gac) := by rw [cell_of_block hbx 1]; simp
    have x2 : w0.cell? ⟨w.heap.size, 2, none⟩ = some (.slice gea gedges.length gec) := by rw [cell_of_block hbx 2]; simp
    have x3 : w0.cell? ⟨w.heap.size, 3, none⟩ = some (.slice gia gins.length gic) := by rw [cell_of_block hbx 3]; simp
    have x4 : w0.cell? ⟨w.heap.size, 4, none⟩ = some (.slice goa gouts.length goc) := by rw [cell_of_block hbx 4]; simp
    clear hbx
    replace q0 := hN0.cell q0
    replace q1 := hN0.cell q1
    replace q2 := hN0.cell q2
    have hB0 : w.heap.size < w0.heap.size := World.block_lt_of_cell? w0 _ x0
    have hN1 : New w0 (w0.alloc (.cells #[.string x.name, .int .u8 x.tag, .slice x.a x.xs.length x.c] 85)) := (New.refl w0).alloc _
    have hbx : (w0.alloc (.cells #[.string x.name, .int .u8 x.tag, .slice x.a x.xs.length x.c] 85)).heap[w0.heap.size]? = some (.cells #[.string x.name, .int .u8 x.tag, .slice x.a x.xs.length x.c] 85 (0, 0)) := heap_alloc_new w0 _
    generalize (w0.alloc (.cells #[.string x.name, .int .u8 x.tag, .slice x.a x.xs.length x.c] 85)) = w1 at hN1 hbx ⊢
    have y0 : w1.cell? ⟨w0.heap.size, 0, none⟩ = some (.string x.name) := by rw [cell_of_block hbx 0]; simp
    have y1 : w1.cell? ⟨w0.heap.size, 1, none⟩ = some (.int .u8 x.tag) := by rw [cell_of_block hbx 1]; simp
    have y2 : w1.cell? ⟨w0.heap.size, 2, none⟩ = some (.slice x.a x.xs.length x.c) := by rw [cell_of_block hbx 2]; simp
    replace x0 := hN1.cell x0
    replace x1 := hN1.cell x1
    replace x2 := hN1.cell x2
    replace x3 := hN1.cell x3
    replace x4 := hN1.cell x4
    have k1 := hN0.trans hN1
    rw [hs0] at y0 y1 y2
    clear hN0 hN1 hbx q0 q1 q2 hs0 hB0
    refine (HNM w1).mono ?_
    rintro e w2 ⟨rfl, k2⟩
    go_wp2_with fail
    go_ret
    exact ⟨rfl, k1.trans k2⟩
  | true =>
    rw [if_neg (by simp)]
    cases tk with
    | true =>
      rw [if_pos rfl]
      go_enter Try.func54, Try.ntmps54
      go_wp2_with fail
      have hs0 : (w.alloc (.cells #[.string gname, .slice (some ⟨b, off, none⟩) gacts.length gac, .slice gea gedges.length gec, .slice gia gins.length gic, .slice goa gouts.length goc] 63)).heap.size = w.heap.size + 1 := size_alloc _ _
      have hN0 : New w (w.alloc (.cells #[.string gname, .slice (some ⟨b, off, none⟩) gacts.length gac, .slice gea gedges.length gec, .slice gia gins.length gic, .slice goa gouts.length goc] 63)) := (New.refl w).alloc _
      have hbx : (w.alloc (.cells #[.string gname, .slice (some ⟨b, off, none⟩) gacts.length gac, .slice gea gedges.length gec, .slice gia gins.length gic, .slice goa gouts.length goc] 63)).heap[w.heap.size]? = some (.cells #[.string gname, .slice (some ⟨b, off, none⟩) gacts.length gac, .slice gea gedges.length gec, .slice gia gins.length gic, .slice goa gouts.length goc] 63 (0, 0)) := heap_alloc_new w _
      generalize (w.alloc (.cells #[.string gname, .slice (some ⟨b, off, none⟩) gacts.length gac, .slice gea gedges.length gec, .slice gia gins.length gic, .slice goa gouts.length goc] 63)) = w0 at hN0 hbx hs0 ⊢
      have x0 : w0.cell? ⟨w.heap.size, 0, none⟩ = some (.string gname) := by rw [cell_of_block hbx 0]; simp
      have x1 : w0.cell? ⟨w.heap.size, 1, none⟩ = some (.slice (some ⟨b, off, none⟩) gacts.length gac) := by rw [cell_of_block hbx 1]; simp
      have x2 : w0.cell? ⟨w.heap.size, 2, none⟩ = some (.slice gea gedges.length gec) := by rw [cell_of_block hbx 2]; simp
      have x3 : w0.cell? ⟨w.heap.size, 3, none⟩ = some (.slice gia gins.length gic) := by rw [cell_of_block hbx 3]; simp
      have x4 : w0.cell? ⟨w.heap.size, 4, none⟩ = some (.slice goa gouts.length goc) := by rw [cell_of_block hbx 4]; simp
      clear hbx
      replace q0 := hN0.cell q0
      replace q1 := hN0.cell q1
      replace q2 := hN0.cell q2
      have hB0 : w.heap.size < w0.heap.size := World.block_lt_of_cell? w0 _ x0
      have hN1 : New w0 (w0.alloc (.cells #[.string x.name, .int .u8 x.tag, .slice x.a x.xs.length x.c] 85)) := (New.refl w0).alloc _
      have hbx : (w0.alloc (.cells #[.string x.name, .int .u8 x.tag, .slice x.a x.xs.length x.c] 85)).heap[w0.heap.size]? = some (.cells #[.string x.name, .int .u8 x.tag, .slice x.a x.xs.length x.c] 85 (0, 0)) := heap_alloc_new w0 _
      generalize (w0.alloc (.cells #[.string x.name, .int .u8 x.tag, .slice x.a x.xs.length x.c] 85)) = w1 at hN1 hbx ⊢
      have y0 : w1.cell? ⟨w0.heap.size, 0, none⟩ = some (.string x.name) := by rw [cell_of_block hbx 0]; simp
      have y1 : w1.cell? ⟨w0.heap.size, 1, none⟩ = some (.int .u8 x.tag) := by rw [cell_of_block hbx 1]; simp
      have y2 : w1.cell? ⟨w0.heap.size, 2, none⟩ = some (.slice x.a x.xs.length x.c) := by rw [cell_of_block hbx 2]; simp
      replace x0 := hN1.cell x0
      replace x1 := hN1.cell x1
      replace x2 := hN1.cell x2
      replace x3 := hN1.cell x3
      replace x4 := hN1.cell x4
      have k1 := hN0.trans hN1
      rw [hs0] at y0 y1 y2
      clear hN0 hN1 hbx q0 q1 q2 hs0 hB0
      refine (HNM w1).mono ?_
      rintro e w2 ⟨rfl, k2⟩
      replace x0 := k2.cell x0
      replace x1 := k2.cell x1
      replace x2 := k2.cell x2
      replace x3 := k2.cell x3
      replace x4 := k2.cell x4
      replace y0 := k2.cell y0
      replace y1 := k2.cell y1
      replace y2 := k2.cell y2
      replace k1 := k1.trans k2
      clear k2
      go_wp2_with fail
      refine (HN w2 k1).mono ?_
      rintro e w3 ⟨rfl, k3⟩
      go_wp2_with fail
      go_ret
      exact ⟨rfl, k1.trans k3⟩
    | false =>
      rw [if_neg (by simp)]
      go_enter Try.func54, Try.ntmps54
      go_wp2_with fail
      have hs0 : (w.alloc (.cells #[.string gname, .slice (some ⟨b, off, none⟩) gacts.length gac, .slice gea gedges.length gec, .slice gia gins.length gic, .slice goa gouts.length goc] 63)).heap.size = w.heap.size + 1 := size_alloc _ _
      have hN0 : New w (w.alloc (.cells #[.string gname, .slice (some ⟨b, off, none⟩) gacts.length gac, .slice gea gedges.length gec, .slice gia gins.length gic, .slice goa gouts.length goc] 63)) := (New.refl w).alloc _
      have hbx : (w.alloc (.cells #[.string gname, .slice (some ⟨b, off, none⟩) gacts.length gac, .slice gea gedges.length gec, .slice gia gins.length gic, .slice goa gouts.length goc] 63)).heap[w.heap.size]? = some (.cells #[.string gname, .slice (some ⟨b, off, none⟩) gacts.length gac, .slice gea gedges.length gec, .slice gia gins.length gic, .slice goa gouts.length goc] 63 (0, 0)) := heap_alloc_new w _
      generalize (w.alloc (.cells #[.string gname, .slice (some ⟨b, off, none⟩) gacts.length gac, .slice gea gedges.length gec, .slice gia gins.length gic, .slice goa gouts.length goc] 63)) = w0 at hN0 hbx hs0 ⊢
      have x0 : w0.cell? ⟨w.heap.size, 0, none⟩ = some (.string gname) := by rw [cell_of_block hbx 0]; simp
      have x1 : w0.cell? ⟨w.heap.size, 1, none⟩ = some (.slice (some ⟨b, off, none⟩) gacts.length gac) := by rw [cell_of_block hbx 1]; simp
      have x2 : w0.cell? ⟨w.heap.size, 2, none⟩ = some (.slice gea gedges.length gec) := by rw [cell_of_block hbx 2]; simp
      have x3 : w0.cell? ⟨w.heap.size, 3, none⟩ = some (.slice gia gins.length gic) := by rw [cell_of_block hbx 3]; simp
      have x4 : w0.cell? ⟨w.heap.size, 4, none⟩ = some (.slice goa gouts.length goc) := by rw [cell_of_block hbx 4]; simp
      clear hbx
      replace q0 := hN0.cell q0
      replace q1 := hN0.cell q1
      replace q2 := hN0.cell q2
      have hB0 : w.heap.size < w0.heap.size := World.block_lt_of_cell? w0 _ x0
      have hN1 : New w0 (w0.alloc (.cells #[.string x.name, .int .u8 x.tag, .slice x.a x.xs.length x.c] 85)) := (New.refl w0).alloc _
      have hbx : (w0.alloc (.cells #[.string x.name, .int .u8 x.tag, .slice x.a x.xs.length x.c] 85)).heap[w0.heap.size]? = some (.cells #[.string x.name, .int .u8 x.tag, .slice x.a x.xs.length x.c] 85 (0, 0)) := heap_alloc_new w0 _
      generalize (w0.alloc (.cells #[.string x.name, .int .u8 x.tag, .slice x.a x.xs.length x.c] 85)) = w1 at hN1 hbx ⊢
      have y0 : w1.cell? ⟨w0.heap.size, 0, none⟩ = some (.string x.name) := by rw [cell_of_block hbx 0]; simp
      have y1 : w1.cell? ⟨w0.heap.size, 1, none⟩ = some (.int .u8 x.tag) := by rw [cell_of_block hbx 1]; simp
      have y2 : w1.cell? ⟨w0.heap.size, 2, none⟩ = some (.slice x.a x.xs.length x.c) := by rw [cell_of_block hbx 2]; simp
      replace x0 := hN1.cell x0
      replace x1 := hN1.cell x1
      replace x2 := hN1.cell x2
      replace x3 := hN1.cell x3
      replace x4 := hN1.cell x4
      have k1 := hN0.trans hN1
      rw [hs0] at y0 y1 y2
      clear hN0 hN1 hbx q0 q1 q2 hs0 hB0
      refine (HNM w1).mono ?_
      rintro e w2 ⟨rfl, k2⟩
      replace x0 := k2.cell x0
      replace x1 := k2.cell x1
      replace x2 := k2.cell x2
      replace x3 := k2.cell x3
      replace x4 := k2.cell x4
      replace y0 := k2.cell y0
      replace y1 := k2.cell y1
      replace y2 := k2.cell y2
      replace k1 := k1.trans k2
      clear k2
      go_wp2_with fail
      refine (HN w2 k1).mono ?_
      rintro e w3 ⟨rfl, k3⟩
      replace y1 := k3.cell y1
      replace y2 := k3.cell y2
      replace k1 := k1.trans k3
      clear k3
      go_wp2_with fail
      refine (HO w3 k1).mono ?_
      rintro e w4 ⟨aa, ca, ab, cb, rfl, _, _, _, k4⟩
      go_wp2_with fail
      go_ret
      exact ⟨rfl, k1.trans k4⟩
end Go.Proofs.Ytijlgcbnoekmeaa
