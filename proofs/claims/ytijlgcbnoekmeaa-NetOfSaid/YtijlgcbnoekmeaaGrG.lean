/-
  Layer 8: the document's edge, in, out.
-/
import Derived.Test.YtijlgcbnoekmeaaGrF
import Derived.Deep.RegionHeld3
namespace Go.Proofs.Ytijlgcbnoekmeaa
open Go Go.RowKit Go.Joins
set_option linter.all false

set_option maxRecDepth 100000 in
set_option maxHeartbeats 4000000 in
theorem redge_any (w : World) (g : Gr) (i : Nat) (hg : GrAt w g) (hl : GLen g) (hi : i < g.edges.length) :
    Calls Try.prog 55 #[g.v, I i] w fun en w' => en = .returned (.tuple #[I (edgeE g i g.edges[i]).1, I (edgeE g i g.edges[i]).2]) ∧ New w w' := by
  have hse := hg.se
  have hla := hl.a
  have hle := hl.e
  have hli := hl.i
  have hlo := hl.o
  have hxn := hl.ex _ (List.getElem_mem hi)
  obtain ⟨b, off, hab, q0, q1, q2, q3, q4⟩ := gedges_at hse hi
  have hi0 : (i : Int) < (g.edges.length : Int) := by omega
  have hbw : b < w.heap.size := World.block_lt_of_cell? w _ q0
  generalize g.edges[i] = x at q0 q1 q2 q3 q4 hxn ⊢
  have HTA : ∀ W (k : New w W), Calls Try.prog 70 #[g.v, I i, I 0, I x.f, I x.fp] W fun en w' => en = .returned (.bool (outTk g i 0 x.f x.fp)) ∧ New W w' :=
    fun W k => by simpa using routTk_any W g i 0 x.f x.fp (hg.new k) hl (by omega) (by omega)
  have HTB : ∀ W (k : New w W), Calls Try.prog 71 #[g.v, I i, I 0, I x.t, I x.tp] W fun en w' => en = .returned (.bool (inTk g i 0 x.t x.tp)) ∧ New W w' :=
    fun W k => by simpa using rinTk_any W g i 0 x.t x.tp (hg.new k) hl (by omega) (by omega)
  have HEA : ∀ W (k : New w W), Calls Try.prog 69 #[g.v, I x.f, I x.fp, .bool true, .bool (outTk g i 0 x.f x.fp)] W fun en w' => en = .returned (I (endE g nOut (outTk g i 0 x.f x.fp) x.f x.fp)) ∧ New W w' :=
    fun W k => rend_any W g x.f x.fp true (outTk g i 0 x.f x.fp) (hg.new k) hl
  have HEB : ∀ W (k : New w W), Calls Try.prog 69 #[g.v, I x.t, I x.tp, .bool false, .bool (inTk g i 0 x.t x.tp)] W fun en w' => en = .returned (I (endE g nIn (inTk g i 0 x.t x.tp) x.t x.tp)) ∧ New W w' :=
    fun W k => rend_any W g x.t x.tp false (inTk g i 0 x.t x.tp) (hg.new k) hl
  have hEE : edgeE g i x = if endE g nOut (outTk g i 0 x.f x.fp) x.f x.fp ≠ 0 then (endE g nOut (outTk g i 0 x.f x.fp) x.f x.fp, 1)
      else if endE g nIn (inTk g i 0 x.t x.tp) x.t x.tp ≠ 0 then (endE g nIn (inTk g i 0 x.t x.tp) x.t x.tp, 2)
      else if 256 < x.xs.length then (88, 0) else (0, 0) := rfl
  rw [hEE]
  clear hEE
  generalize endE g nOut (outTk g i 0 x.f x.fp) x.f x.fp = EA at HEA ⊢
  generalize endE g nIn (inTk g i 0 x.t x.tp) x.t x.tp = EB at HEB ⊢
  generalize outTk g i 0 x.f x.fp = tkA at HTA HEA
  generalize inTk g i 0 x.t x.tp = tkB at HTB HEB
  have HC := HTA
  have HN := HTB
  clear hg hl hse
  obtain ⟨gname, gaa, gac, gacts, gea, gec, gedges, gia, gic, gins, goa, goc, gouts⟩ := g
  simp only at HTA HTB HEA HEB hab hi hi0 hla hle hli hlo
  simp only [Gr.v, Gr.cs] at HTA HTB HEA HEB ⊢
  subst hab
  clear HC HN
  by_cases hA : EA = 0
  · rw [if_neg (by simpa using hA)]
    by_cases hB : EB = 0
    · rw [if_neg (by simpa using hB)]
      have hdA : (EA != 0) = false := by simp [hA]
      have hdB : (EB != 0) = false := by simp [hB]
      clear hA hB
      by_cases hm : 256 < x.xs.length
      · rw [if_pos hm]
        have hd : decide ((256 : Int) < (x.xs.length : Int)) = true := decide_eq_true (by omega)
        go_enter Try.func55, Try.ntmps55
        go_wp2_with fail
        have hs0 : (w.alloc (.cells #[.string gname, .slice gaa gacts.length gac, .slice (some ⟨b, off, none⟩) gedges.length gec, .slice gia gins.length gic, .slice goa gouts.length goc] 63)).heap.size = w.heap.size + 1 := size_alloc _ _
        have hN0 : New w (w.alloc (.cells #[.string gname, .slice gaa gacts.length gac, .slice (some ⟨b, off, none⟩) gedges.length gec, .slice gia gins.length gic, .slice goa gouts.length goc] 63)) := (New.refl w).alloc _
        have hbx : (w.alloc (.cells #[.string gname, .slice gaa gacts.length gac, .slice (some ⟨b, off, none⟩) gedges.length gec, .slice gia gins.length gic, .slice goa gouts.length goc] 63)).heap[w.heap.size]? = some (.cells #[.string gname, .slice gaa gacts.length gac, .slice (some ⟨b, off, none⟩) gedges.length gec, .slice gia gins.length gic, .slice goa gouts.length goc] 63 (0, 0)) := heap_alloc_new w _
        generalize (w.alloc (.cells #[.string gname, .slice gaa gacts.length gac, .slice (some ⟨b, off, none⟩) gedges.length gec, .slice gia gins.length gic, .slice goa gouts.length goc] 63)) = w0 at hN0 hbx hs0 ⊢
        have x0 : w0.cell? ⟨w.heap.size, 0, none⟩ = some (.string gname) := by rw [cell_of_block hbx 0]; simp
        have x1 : w0.cell? ⟨w.heap.size, 1, none⟩ = some (.slice gaa gacts.length gac) := by rw [cell_of_block hbx 1]; simp
        have x2 : w0.cell? ⟨w.heap.size, 2, none⟩ = some (.slice (some ⟨b, off, none⟩) gedges.length gec) := by rw [cell_of_block hbx 2]; simp
        have x3 : w0.cell? ⟨w.heap.size, 3, none⟩ = some (.slice gia gins.length gic) := by rw [cell_of_block hbx 3]; simp
        have x4 : w0.cell? ⟨w.heap.size, 4, none⟩ = some (.slice goa gouts.length goc) := by rw [cell_of_block hbx 4]; simp
        clear hbx
        have hN1 : New w0 (w0.alloc (.cells #[I x.f, I x.fp, I x.t, I x.tp, .slice x.a x.xs.length x.c] 80)) := (New.refl w0).alloc _
        have hbx : (w0.alloc (.cells #[I x.f, I x.fp, I x.t, I x.tp, .slice x.a x.xs.length x.c] 80)).heap[w0.heap.size]? = some (.cells #[I x.f, I x.fp, I x.t, I x.tp, .slice x.a x.xs.length x.c] 80 (0, 0)) := heap_alloc_new w0 _
        generalize (w0.alloc (.cells #[I x.f, I x.fp, I x.t, I x.tp, .slice x.a x.xs.length x.c] 80)) = w1 at hN1 hbx ⊢
        have y0 : w1.cell? ⟨w0.heap.size, 0, none⟩ = some (I x.f) := by rw [cell_of_block hbx 0]; simp
        have y1 : w1.cell? ⟨w0.heap.size, 1, none⟩ = some (I x.fp) := by rw [cell_of_block hbx 1]; simp
        have y2 : w1.cell? ⟨w0.heap.size, 2, none⟩ = some (I x.t) := by rw [cell_of_block hbx 2]; simp
        have y3 : w1.cell? ⟨w0.heap.size, 3, none⟩ = some (I x.tp) := by rw [cell_of_block hbx 3]; simp
        have y4 : w1.cell? ⟨w0.heap.size, 4, none⟩ = some (.slice x.a x.xs.length x.c) := by rw [cell_of_block hbx 4]; simp
        rw [hs0] at y0 y1 y2 y3 y4
        replace x0 := hN1.cell x0
        replace x1 := hN1.cell x1
        replace x2 := hN1.cell x2
        replace x3 := hN1.cell x3
        replace x4 := hN1.cell x4
        have k1 := hN0.trans hN1
        clear hN0 hN1 hbx hs0
        clear q0 q1 q2 q3 q4
        have hT : ∀ W, New w1 W → Calls Try.prog 70 #[(.agg #[.string gname, .slice gaa gacts.length gac, .slice (some ⟨b, off, none⟩) gedges.length gec, .slice gia gins.length gic, .slice goa gouts.length goc]), I i, I 0, I x.f, I x.fp] W fun en w' => en = .returned (.bool tkA) ∧ New w1 w' := fun W k => (HTA W (k1.trans k)).mono fun _ _ h => ⟨h.1, k.trans h.2⟩
        have hE : ∀ W, New w1 W → Calls Try.prog 69 #[(.agg #[.string gname, .slice gaa gacts.length gac, .slice (some ⟨b, off, none⟩) gedges.length gec, .slice gia gins.length gic, .slice goa gouts.length goc]), I x.f, I x.fp, .bool true, .bool tkA] W fun en w' => en = .returned (I EA) ∧ New w1 w' := fun W k => (HEA W (k1.trans k)).mono fun _ _ h => ⟨h.1, k.trans h.2⟩
        go_region_held3 (fun w' => w'.cell? ⟨w.heap.size, 0, none⟩ = some (.string gname) ∧ w'.cell? ⟨w.heap.size, 1, none⟩ = some (.slice gaa gacts.length gac) ∧ w'.cell? ⟨w.heap.size, 2, none⟩ = some (.slice (some ⟨b, off, none⟩) gedges.length gec) ∧ w'.cell? ⟨w.heap.size, 3, none⟩ = some (.slice gia gins.length gic) ∧ w'.cell? ⟨w.heap.size, 4, none⟩ = some (.slice goa gouts.length goc) ∧ w'.cell? ⟨w.heap.size + 1, 0, none⟩ = some (I x.f) ∧ w'.cell? ⟨w.heap.size + 1, 1, none⟩ = some (I x.fp) ∧ w'.cell? ⟨w.heap.size + 1, 2, none⟩ = some (I x.t) ∧ w'.cell? ⟨w.heap.size + 1, 3, none⟩ = some (I x.tp) ∧ w'.cell? ⟨w.heap.size + 1, 4, none⟩ = some (.slice x.a x.xs.length x.c) ∧ New w1 w')
          ((refine ⟨New.cell (w := w1) ?_ x0, New.cell (w := w1) ?_ x1, New.cell (w := w1) ?_ x2, New.cell (w := w1) ?_ x3, New.cell (w := w1) ?_ x4, New.cell (w := w1) ?_ y0, New.cell (w := w1) ?_ y1, New.cell (w := w1) ?_ y2, New.cell (w := w1) ?_ y3, New.cell (w := w1) ?_ y4, ?_⟩ <;> (repeat (first | exact New.refl w1 | exact n3 | exact n2 | refine New.drew ?_))))
          ((first | (go_at_call 70; refine (hT _ ((New.refl w1).drew)).mono ?_; rintro e w2 ⟨rfl, n2⟩) | (go_at_call 69; (first | refine (hE _ n2).mono ?_ | refine (hE _ n2.drew).mono ?_); rintro e w3 ⟨rfl, n3⟩)))
        rename_i hSX
        clear hT hE x0 x1 x2 x3 x4 y0 y1 y2 y3 y4
        obtain ⟨x0, x1, x2, x3, x4, y0, y1, y2, y3, y4, hNX⟩ := hSX
        replace k1 := k1.trans hNX
        simp only [Exit.then]
        clear HTA HEA
        go_wp2_with fail
        have hT : ∀ W, New w3 W → Calls Try.prog 71 #[(.agg #[.string gname, .slice gaa gacts.length gac, .slice (some ⟨b, off, none⟩) gedges.length gec, .slice gia gins.length gic, .slice goa gouts.length goc]), I i, I 0, I x.t, I x.tp] W fun en w' => en = .returned (.bool tkB) ∧ New w3 w' := fun W k => (HTB W (k1.trans k)).mono fun _ _ h => ⟨h.1, k.trans h.2⟩
        have hE : ∀ W, New w3 W → Calls Try.prog 69 #[(.agg #[.string gname, .slice gaa gacts.length gac, .slice (some ⟨b, off, none⟩) gedges.length gec, .slice gia gins.length gic, .slice goa gouts.length goc]), I x.t, I x.tp, .bool false, .bool tkB] W fun en w' => en = .returned (I EB) ∧ New w3 w' := fun W k => (HEB W (k1.trans k)).mono fun _ _ h => ⟨h.1, k.trans h.2⟩
        go_region_held3 (fun w' => w'.cell? ⟨w.heap.size, 0, none⟩ = some (.string gname) ∧ w'.cell? ⟨w.heap.size, 1, none⟩ = some (.slice gaa gacts.length gac) ∧ w'.cell? ⟨w.heap.size, 2, none⟩ = some (.slice (some ⟨b, off, none⟩) gedges.length gec) ∧ w'.cell? ⟨w.heap.size, 3, none⟩ = some (.slice gia gins.length gic) ∧ w'.cell? ⟨w.heap.size, 4, none⟩ = some (.slice goa gouts.length goc) ∧ w'.cell? ⟨w.heap.size + 1, 0, none⟩ = some (I x.f) ∧ w'.cell? ⟨w.heap.size + 1, 1, none⟩ = some (I x.fp) ∧ w'.cell? ⟨w.heap.size + 1, 2, none⟩ = some (I x.t) ∧ w'.cell? ⟨w.heap.size + 1, 3, none⟩ = some (I x.tp) ∧ w'.cell? ⟨w.heap.size + 1, 4, none⟩ = some (.slice x.a x.xs.length x.c) ∧ New w3 w')
          ((refine ⟨New.cell (w := w3) ?_ x0, New.cell (w := w3) ?_ x1, New.cell (w := w3) ?_ x2, New.cell (w := w3) ?_ x3, New.cell (w := w3) ?_ x4, New.cell (w := w3) ?_ y0, New.cell (w := w3) ?_ y1, New.cell (w := w3) ?_ y2, New.cell (w := w3) ?_ y3, New.cell (w := w3) ?_ y4, ?_⟩ <;> (repeat (first | exact New.refl w3 | exact n3 | exact n2 | refine New.drew ?_))))
          ((first | (go_at_call 71; refine (hT _ ((New.refl w3).drew)).mono ?_; rintro e w2 ⟨rfl, n2⟩) | (go_at_call 69; (first | refine (hE _ n2).mono ?_ | refine (hE _ n2.drew).mono ?_); rintro e w4 ⟨rfl, n3⟩)))
        rename_i hSX
        clear hT hE x0 x1 x2 x3 x4 y0 y1 y2 y3 y4
        obtain ⟨x0, x1, x2, x3, x4, y0, y1, y2, y3, y4, hNX⟩ := hSX
        replace k1 := k1.trans hNX
        simp only [Exit.then]
        go_wp2_with fail
        exact bodyPost_ret (v := .tuple #[I 88, I 0]) (by simp [results, Try.results55, go_sem]) rfl ⟨rfl, k1⟩
      · rw [if_neg hm]
        have hd : decide ((256 : Int) < (x.xs.length : Int)) = false := decide_eq_false (by omega)
        go_enter Try.func55, Try.ntmps55
        go_wp2_with fail
        have hs0 : (w.alloc (.cells #[.string gname, .slice gaa gacts.length gac, .slice (some ⟨b, off, none⟩) gedges.length gec, .slice gia gins.length gic, .slice goa gouts.length goc] 63)).heap.size = w.heap.size + 1 := size_alloc _ _
        have hN0 : New w (w.alloc (.cells #[.string gname, .slice gaa gacts.length gac, .slice (some ⟨b, off, none⟩) gedges.length gec, .slice gia gins.length gic, .slice goa gouts.length goc] 63)) := (New.refl w).alloc _
        have hbx : (w.alloc (.cells #[.string gname, .slice gaa gacts.length gac, .slice (some ⟨b, off, none⟩) gedges.length gec, .slice gia gins.length gic, .slice goa gouts.length goc] 63)).heap[w.heap.size]? = some (.cells #[.string gname, .slice gaa gacts.length gac, .slice (some ⟨b, off, none⟩) gedges.length gec, .slice gia gins.length gic, .slice goa gouts.length goc] 63 (0, 0)) := heap_alloc_new w _
        generalize (w.alloc (.cells #[.string gname, .slice gaa gacts.length gac, .slice (some ⟨b, off, none⟩) gedges.length gec, .slice gia gins.length gic, .slice goa gouts.length goc] 63)) = w0 at hN0 hbx hs0 ⊢
        have x0 : w0.cell? ⟨w.heap.size, 0, none⟩ = some (.string gname) := by rw [cell_of_block hbx 0]; simp
        have x1 : w0.cell? ⟨w.heap.size, 1, none⟩ = some (.slice gaa gacts.length gac) := by rw [cell_of_block hbx 1]; simp
        have x2 : w0.cell? ⟨w.heap.size, 2, none⟩ = some (.slice (some ⟨b, off, none⟩) gedges.length gec) := by rw [cell_of_block hbx 2]; simp
        have x3 : w0.cell? ⟨w.heap.size, 3, none⟩ = some (.slice gia gins.length gic) := by rw [cell_of_block hbx 3]; simp
        have x4 : w0.cell? ⟨w.heap.size, 4, none⟩ = some (.slice goa gouts.length goc) := by rw [cell_of_block hbx 4]; simp
        clear hbx
        have hN1 : New w0 (w0.alloc (.cells #[I x.f, I x.fp, I x.t, I x.tp, .slice x.a x.xs.length x.c] 80)) := (New.refl w0).alloc _
        have hbx : (w0.alloc (.cells #[I x.f, I x.fp, I x.t, I x.tp, .slice x.a x.xs.length x.c] 80)).heap[w0.heap.size]? = some (.cells #[I x.f, I x.fp, I x.t, I x.tp, .slice x.a x.xs.length x.c] 80 (0, 0)) := heap_alloc_new w0 _
        generalize (w0.alloc (.cells #[I x.f, I x.fp, I x.t, I x.tp, .slice x.a x.xs.length x.c] 80)) = w1 at hN1 hbx ⊢
        have y0 : w1.cell? ⟨w0.heap.size, 0, none⟩ = some (I x.f) := by rw [cell_of_block hbx 0]; simp
        have y1 : w1.cell? ⟨w0.heap.size, 1, none⟩ = some (I x.fp) := by rw [cell_of_block hbx 1]; simp
        have y2 : w1.cell? ⟨w0.heap.size, 2, none⟩ = some (I x.t) := by rw [cell_of_block hbx 2]; simp
        have y3 : w1.cell? ⟨w0.heap.size, 3, none⟩ = some (I x.tp) := by rw [cell_of_block hbx 3]; simp
        have y4 : w1.cell? ⟨w0.heap.size, 4, none⟩ = some (.slice x.a x.xs.length x.c) := by rw [cell_of_block hbx 4]; simp
        rw [hs0] at y0 y1 y2 y3 y4
        replace x0 := hN1.cell x0
        replace x1 := hN1.cell x1
        replace x2 := hN1.cell x2
        replace x3 := hN1.cell x3
        replace x4 := hN1.cell x4
        have k1 := hN0.trans hN1
        clear hN0 hN1 hbx hs0
        clear q0 q1 q2 q3 q4
        have hT : ∀ W, New w1 W → Calls Try.prog 70 #[(.agg #[.string gname, .slice gaa gacts.length gac, .slice (some ⟨b, off, none⟩) gedges.length gec, .slice gia gins.length gic, .slice goa gouts.length goc]), I i, I 0, I x.f, I x.fp] W fun en w' => en = .returned (.bool tkA) ∧ New w1 w' := fun W k => (HTA W (k1.trans k)).mono fun _ _ h => ⟨h.1, k.trans h.2⟩
        have hE : ∀ W, New w1 W → Calls Try.prog 69 #[(.agg #[.string gname, .slice gaa gacts.length gac, .slice (some ⟨b, off, none⟩) gedges.length gec, .slice gia gins.length gic, .slice goa gouts.length goc]), I x.f, I x.fp, .bool true, .bool tkA] W fun en w' => en = .returned (I EA) ∧ New w1 w' := fun W k => (HEA W (k1.trans k)).mono fun _ _ h => ⟨h.1, k.trans h.2⟩
        go_region_held3 (fun w' => w'.cell? ⟨w.heap.size, 0, none⟩ = some (.string gname) ∧ w'.cell? ⟨w.heap.size, 1, none⟩ = some (.slice gaa gacts.length gac) ∧ w'.cell? ⟨w.heap.size, 2, none⟩ = some (.slice (some ⟨b, off, none⟩) gedges.length gec) ∧ w'.cell? ⟨w.heap.size, 3, none⟩ = some (.slice gia gins.length gic) ∧ w'.cell? ⟨w.heap.size, 4, none⟩ = some (.slice goa gouts.length goc) ∧ w'.cell? ⟨w.heap.size + 1, 0, none⟩ = some (I x.f) ∧ w'.cell? ⟨w.heap.size + 1, 1, none⟩ = some (I x.fp) ∧ w'.cell? ⟨w.heap.size + 1, 2, none⟩ = some (I x.t) ∧ w'.cell? ⟨w.heap.size + 1, 3, none⟩ = some (I x.tp) ∧ w'.cell? ⟨w.heap.size + 1, 4, none⟩ = some (.slice x.a x.xs.length x.c) ∧ New w1 w')
          ((refine ⟨New.cell (w := w1) ?_ x0, New.cell (w := w1) ?_ x1, New.cell (w := w1) ?_ x2, New.cell (w := w1) ?_ x3, New.cell (w := w1) ?_ x4, New.cell (w := w1) ?_ y0, New.cell (w := w1) ?_ y1, New.cell (w := w1) ?_ y2, New.cell (w := w1) ?_ y3, New.cell (w := w1) ?_ y4, ?_⟩ <;> (repeat (first | exact New.refl w1 | exact n3 | exact n2 | refine New.drew ?_))))
          ((first | (go_at_call 70; refine (hT _ ((New.refl w1).drew)).mono ?_; rintro e w2 ⟨rfl, n2⟩) | (go_at_call 69; (first | refine (hE _ n2).mono ?_ | refine (hE _ n2.drew).mono ?_); rintro e w3 ⟨rfl, n3⟩)))
        rename_i hSX
        clear hT hE x0 x1 x2 x3 x4 y0 y1 y2 y3 y4
        obtain ⟨x0, x1, x2, x3, x4, y0, y1, y2, y3, y4, hNX⟩ := hSX
        replace k1 := k1.trans hNX
        simp only [Exit.then]
        clear HTA HEA
        go_wp2_with fail
        have hT : ∀ W, New w3 W → Calls Try.prog 71 #[(.agg #[.string gname, .slice gaa gacts.length gac, .slice (some ⟨b, off, none⟩) gedges.length gec, .slice gia gins.length gic, .slice goa gouts.length goc]), I i, I 0, I x.t, I x.tp] W fun en w' => en = .returned (.bool tkB) ∧ New w3 w' := fun W k => (HTB W (k1.trans k)).mono fun _ _ h => ⟨h.1, k.trans h.2⟩
        have hE : ∀ W, New w3 W → Calls Try.prog 69 #[(.agg #[.string gname, .slice gaa gacts.length gac, .slice (some ⟨b, off, none⟩) gedges.length gec, .slice gia gins.length gic, .slice goa gouts.length goc]), I x.t, I x.tp, .bool false, .bool tkB] W fun en w' => en = .returned (I EB) ∧ New w3 w' := fun W k => (HEB W (k1.trans k)).mono fun _ _ h => ⟨h.1, k.trans h.2⟩
        go_region_held3 (fun w' => w'.cell? ⟨w.heap.size, 0, none⟩ = some (.string gname) ∧ w'.cell? ⟨w.heap.size, 1, none⟩ = some (.slice gaa gacts.length gac) ∧ w'.cell? ⟨w.heap.size, 2, none⟩ = some (.slice (some ⟨b, off, none⟩) gedges.length gec) ∧ w'.cell? ⟨w.heap.size, 3, none⟩ = some (.slice gia gins.length gic) ∧ w'.cell? ⟨w.heap.size, 4, none⟩ = some (.slice goa gouts.length goc) ∧ w'.cell? ⟨w.heap.size + 1, 0, none⟩ = some (I x.f) ∧ w'.cell? ⟨w.heap.size + 1, 1, none⟩ = some (I x.fp) ∧ w'.cell? ⟨w.heap.size + 1, 2, none⟩ = some (I x.t) ∧ w'.cell? ⟨w.heap.size + 1, 3, none⟩ = some (I x.tp) ∧ w'.cell? ⟨w.heap.size + 1, 4, none⟩ = some (.slice x.a x.xs.length x.c) ∧ New w3 w')
          ((refine ⟨New.cell (w := w3) ?_ x0, New.cell (w := w3) ?_ x1, New.cell (w := w3) ?_ x2, New.cell (w := w3) ?_ x3, New.cell (w := w3) ?_ x4, New.cell (w := w3) ?_ y0, New.cell (w := w3) ?_ y1, New.cell (w := w3) ?_ y2, New.cell (w := w3) ?_ y3, New.cell (w := w3) ?_ y4, ?_⟩ <;> (repeat (first | exact New.refl w3 | exact n3 | exact n2 | refine New.drew ?_))))
          ((first | (go_at_call 71; refine (hT _ ((New.refl w3).drew)).mono ?_; rintro e w2 ⟨rfl, n2⟩) | (go_at_call 69; (first | refine (hE _ n2).mono ?_ | refine (hE _ n2.drew).mono ?_); rintro e w4 ⟨rfl, n3⟩)))
        rename_i hSX
        clear hT hE x0 x1 x2 x3 x4 y0 y1 y2 y3 y4
        obtain ⟨x0, x1, x2, x3, x4, y0, y1, y2, y3, y4, hNX⟩ := hSX
        replace k1 := k1.trans hNX
        simp only [Exit.then]
        go_wp2_with fail
        exact bodyPost_ret (v := .tuple #[I 0, I 0]) (by simp [results, Try.results55, go_sem]) rfl ⟨rfl, k1⟩
    · rw [if_pos (by simpa using hB)]
      have hdA : (EA != 0) = false := by simp [hA]
      clear hA
      have hd : (EB != 0) = true := by simp [hB]
      go_enter Try.func55, Try.ntmps55
      go_wp2_with fail
      have hs0 : (w.alloc (.cells #[.string gname, .slice gaa gacts.length gac, .slice (some ⟨b, off, none⟩) gedges.length gec, .slice gia gins.length gic, .slice goa gouts.length goc] 63)).heap.size = w.heap.size + 1 := size_alloc _ _
      have hN0 : New w (w.alloc (.cells #[.string gname, .slice gaa gacts.length gac, .slice (some ⟨b, off, none⟩) gedges.length gec, .slice gia gins.length gic, .slice goa gouts.length goc] 63)) := (New.refl w).alloc _
      have hbx : (w.alloc (.cells #[.string gname, .slice gaa gacts.length gac, .slice (some ⟨b, off, none⟩) gedges.length gec, .slice gia gins.length gic, .slice goa gouts.length goc] 63)).heap[w.heap.size]? = some (.cells #[.string gname, .slice gaa gacts.length gac, .slice (some ⟨b, off, none⟩) gedges.length gec, .slice gia gins.length gic, .slice goa gouts.length goc] 63 (0, 0)) := heap_alloc_new w _
      generalize (w.alloc (.cells #[.string gname, .slice gaa gacts.length gac, .slice (some ⟨b, off, none⟩) gedges.length gec, .slice gia gins.length gic, .slice goa gouts.length goc] 63)) = w0 at hN0 hbx hs0 ⊢
      have x0 : w0.cell? ⟨w.heap.size, 0, none⟩ = some (.string gname) := by rw [cell_of_block hbx 0]; simp
      have x1 : w0.cell? ⟨w.heap.size, 1, none⟩ = some (.slice gaa gacts.length gac) := by rw [cell_of_block hbx 1]; simp
      have x2 : w0.cell? ⟨w.heap.size, 2, none⟩ = some (.slice (some ⟨b, off, none⟩) gedges.length gec) := by rw [cell_of_block hbx 2]; simp
      have x3 : w0.cell? ⟨w.heap.size, 3, none⟩ = some (.slice gia gins.length gic) := by rw [cell_of_block hbx 3]; simp
      have x4 : w0.cell? ⟨w.heap.size, 4, none⟩ = some (.slice goa gouts.length goc) := by rw [cell_of_block hbx 4]; simp
      clear hbx
      have hN1 : New w0 (w0.alloc (.cells #[I x.f, I x.fp, I x.t, I x.tp, .slice x.a x.xs.length x.c] 80)) := (New.refl w0).alloc _
      have hbx : (w0.alloc (.cells #[I x.f, I x.fp, I x.t, I x.tp, .slice x.a x.xs.length x.c] 80)).heap[w0.heap.size]? = some (.cells #[I x.f, I x.fp, I x.t, I x.tp, .slice x.a x.xs.length x.c] 80 (0, 0)) := heap_alloc_new w0 _
      generalize (w0.alloc (.cells #[I x.f, I x.fp, I x.t, I x.tp, .slice x.a x.xs.length x.c] 80)) = w1 at hN1 hbx ⊢
      have y0 : w1.cell? ⟨w0.heap.size, 0, none⟩ = some (I x.f) := by rw [cell_of_block hbx 0]; simp
      have y1 : w1.cell? ⟨w0.heap.size, 1, none⟩ = some (I x.fp) := by rw [cell_of_block hbx 1]; simp
      have y2 : w1.cell? ⟨w0.heap.size, 2, none⟩ = some (I x.t) := by rw [cell_of_block hbx 2]; simp
      have y3 : w1.cell? ⟨w0.heap.size, 3, none⟩ = some (I x.tp) := by rw [cell_of_block hbx 3]; simp
      have y4 : w1.cell? ⟨w0.heap.size, 4, none⟩ = some (.slice x.a x.xs.length x.c) := by rw [cell_of_block hbx 4]; simp
      rw [hs0] at y0 y1 y2 y3 y4
      replace x0 := hN1.cell x0
      replace x1 := hN1.cell x1
      replace x2 := hN1.cell x2
      replace x3 := hN1.cell x3
      replace x4 := hN1.cell x4
      have k1 := hN0.trans hN1
      clear hN0 hN1 hbx hs0
      clear q0 q1 q2 q3 q4
      have hT : ∀ W, New w1 W → Calls Try.prog 70 #[(.agg #[.string gname, .slice gaa gacts.length gac, .slice (some ⟨b, off, none⟩) gedges.length gec, .slice gia gins.length gic, .slice goa gouts.length goc]), I i, I 0, I x.f, I x.fp] W fun en w' => en = .returned (.bool tkA) ∧ New w1 w' := fun W k => (HTA W (k1.trans k)).mono fun _ _ h => ⟨h.1, k.trans h.2⟩
      have hE : ∀ W, New w1 W → Calls Try.prog 69 #[(.agg #[.string gname, .slice gaa gacts.length gac, .slice (some ⟨b, off, none⟩) gedges.length gec, .slice gia gins.length gic, .slice goa gouts.length goc]), I x.f, I x.fp, .bool true, .bool tkA] W fun en w' => en = .returned (I EA) ∧ New w1 w' := fun W k => (HEA W (k1.trans k)).mono fun _ _ h => ⟨h.1, k.trans h.2⟩
      go_region_held3 (fun w' => w'.cell? ⟨w.heap.size, 0, none⟩ = some (.string gname) ∧ w'.cell? ⟨w.heap.size, 1, none⟩ = some (.slice gaa gacts.length gac) ∧ w'.cell? ⟨w.heap.size, 2, none⟩ = some (.slice (some ⟨b, off, none⟩) gedges.length gec) ∧ w'.cell? ⟨w.heap.size, 3, none⟩ = some (.slice gia gins.length gic) ∧ w'.cell? ⟨w.heap.size, 4, none⟩ = some (.slice goa gouts.length goc) ∧ w'.cell? ⟨w.heap.size + 1, 0, none⟩ = some (I x.f) ∧ w'.cell? ⟨w.heap.size + 1, 1, none⟩ = some (I x.fp) ∧ w'.cell? ⟨w.heap.size + 1, 2, none⟩ = some (I x.t) ∧ w'.cell? ⟨w.heap.size + 1, 3, none⟩ = some (I x.tp) ∧ w'.cell? ⟨w.heap.size + 1, 4, none⟩ = some (.slice x.a x.xs.length x.c) ∧ New w1 w')
        ((refine ⟨New.cell (w := w1) ?_ x0, New.cell (w := w1) ?_ x1, New.cell (w := w1) ?_ x2, New.cell (w := w1) ?_ x3, New.cell (w := w1) ?_ x4, New.cell (w := w1) ?_ y0, New.cell (w := w1) ?_ y1, New.cell (w := w1) ?_ y2, New.cell (w := w1) ?_ y3, New.cell (w := w1) ?_ y4, ?_⟩ <;> (repeat (first | exact New.refl w1 | exact n3 | exact n2 | refine New.drew ?_))))
        ((first | (go_at_call 70; refine (hT _ ((New.refl w1).drew)).mono ?_; rintro e w2 ⟨rfl, n2⟩) | (go_at_call 69; (first | refine (hE _ n2).mono ?_ | refine (hE _ n2.drew).mono ?_); rintro e w3 ⟨rfl, n3⟩)))
      rename_i hSX
      clear hT hE x0 x1 x2 x3 x4 y0 y1 y2 y3 y4
      obtain ⟨x0, x1, x2, x3, x4, y0, y1, y2, y3, y4, hNX⟩ := hSX
      replace k1 := k1.trans hNX
      simp only [Exit.then]
      clear HTA HEA
      go_wp2_with fail
      have hT : ∀ W, New w3 W → Calls Try.prog 71 #[(.agg #[.string gname, .slice gaa gacts.length gac, .slice (some ⟨b, off, none⟩) gedges.length gec, .slice gia gins.length gic, .slice goa gouts.length goc]), I i, I 0, I x.t, I x.tp] W fun en w' => en = .returned (.bool tkB) ∧ New w3 w' := fun W k => (HTB W (k1.trans k)).mono fun _ _ h => ⟨h.1, k.trans h.2⟩
      have hE : ∀ W, New w3 W → Calls Try.prog 69 #[(.agg #[.string gname, .slice gaa gacts.length gac, .slice (some ⟨b, off, none⟩) gedges.length gec, .slice gia gins.length gic, .slice goa gouts.length goc]), I x.t, I x.tp, .bool false, .bool tkB] W fun en w' => en = .returned (I EB) ∧ New w3 w' := fun W k => (HEB W (k1.trans k)).mono fun _ _ h => ⟨h.1, k.trans h.2⟩
      go_region_held3 (fun w' => w'.cell? ⟨w.heap.size, 0, none⟩ = some (.string gname) ∧ w'.cell? ⟨w.heap.size, 1, none⟩ = some (.slice gaa gacts.length gac) ∧ w'.cell? ⟨w.heap.size, 2, none⟩ = some (.slice (some ⟨b, off, none⟩) gedges.length gec) ∧ w'.cell? ⟨w.heap.size, 3, none⟩ = some (.slice gia gins.length gic) ∧ w'.cell? ⟨w.heap.size, 4, none⟩ = some (.slice goa gouts.length goc) ∧ w'.cell? ⟨w.heap.size + 1, 0, none⟩ = some (I x.f) ∧ w'.cell? ⟨w.heap.size + 1, 1, none⟩ = some (I x.fp) ∧ w'.cell? ⟨w.heap.size + 1, 2, none⟩ = some (I x.t) ∧ w'.cell? ⟨w.heap.size + 1, 3, none⟩ = some (I x.tp) ∧ w'.cell? ⟨w.heap.size + 1, 4, none⟩ = some (.slice x.a x.xs.length x.c) ∧ New w3 w')
        ((refine ⟨New.cell (w := w3) ?_ x0, New.cell (w := w3) ?_ x1, New.cell (w := w3) ?_ x2, New.cell (w := w3) ?_ x3, New.cell (w := w3) ?_ x4, New.cell (w := w3) ?_ y0, New.cell (w := w3) ?_ y1, New.cell (w := w3) ?_ y2, New.cell (w := w3) ?_ y3, New.cell (w := w3) ?_ y4, ?_⟩ <;> (repeat (first | exact New.refl w3 | exact n3 | exact n2 | refine New.drew ?_))))
        ((first | (go_at_call 71; refine (hT _ ((New.refl w3).drew)).mono ?_; rintro e w2 ⟨rfl, n2⟩) | (go_at_call 69; (first | refine (hE _ n2).mono ?_ | refine (hE _ n2.drew).mono ?_); rintro e w4 ⟨rfl, n3⟩)))
      rename_i hSX
      clear hT hE x0 x1 x2 x3 x4 y0 y1 y2 y3 y4
      obtain ⟨x0, x1, x2, x3, x4, y0, y1, y2, y3, y4, hNX⟩ := hSX
      replace k1 := k1.trans hNX
      simp only [Exit.then]
      go_wp2_with fail
      exact bodyPost_ret (v := .tuple #[I EB, I 2]) (by simp [results, Try.results55, go_sem]) rfl ⟨rfl, k1⟩
  · rw [if_pos (by simpa using hA)]
    have hd : (EA != 0) = true := by simp [hA]
    go_enter Try.func55, Try.ntmps55
    go_wp2_with fail
    have hs0 : (w.alloc (.cells #[.string gname, .slice gaa gacts.length gac, .slice (some ⟨b, off, none⟩) gedges.length gec, .slice gia gins.length gic, .slice goa gouts.length goc] 63)).heap.size = w.heap.size + 1 := size_alloc _ _
    have hN0 : New w (w.alloc (.cells #[.string gname, .slice gaa gacts.length gac, .slice (some ⟨b, off, none⟩) gedges.length gec, .slice gia gins.length gic, .slice goa gouts.length goc] 63)) := (New.refl w).alloc _
    have hbx : (w.alloc (.cells #[.string gname, .slice gaa gacts.length gac, .slice (some ⟨b, off, none⟩) gedges.length gec, .slice gia gins.length gic, .slice goa gouts.length goc] 63)).heap[w.heap.size]? = some (.cells #[.string gname, .slice gaa gacts.length gac, .slice (some ⟨b, off, none⟩) gedges.length gec, .slice gia gins.length gic, .slice goa gouts.length goc] 63 (0, 0)) := heap_alloc_new w _
    generalize (w.alloc (.cells #[.string gname, .slice gaa gacts.length gac, .slice (some ⟨b, off, none⟩) gedges.length gec, .slice gia gins.length gic, .slice goa gouts.length goc] 63)) = w0 at hN0 hbx hs0 ⊢
    have x0 : w0.cell? ⟨w.heap.size, 0, none⟩ = some (.string gname) := by rw [cell_of_block hbx 0]; simp
    have x1 : w0.cell? ⟨w.heap.size, 1, none⟩ = some (.slice gaa gacts.length gac) := by rw [cell_of_block hbx 1]; simp
    have x2 : w0.cell? ⟨w.heap.size, 2, none⟩ = some (.slice (some ⟨b, off, none⟩) gedges.length gec) := by rw [cell_of_block hbx 2]; simp
    have x3 : w0.cell? ⟨w.heap.size, 3, none⟩ = some (.slice gia gins.length gic) := by rw [cell_of_block hbx 3]; simp
    have x4 : w0.cell? ⟨w.heap.size, 4, none⟩ = some (.slice goa gouts.length goc) := by rw [cell_of_block hbx 4]; simp
    clear hbx
    have hN1 : New w0 (w0.alloc (.cells #[I x.f, I x.fp, I x.t, I x.tp, .slice x.a x.xs.length x.c] 80)) := (New.refl w0).alloc _
    have hbx : (w0.alloc (.cells #[I x.f, I x.fp, I x.t, I x.tp, .slice x.a x.xs.length x.c] 80)).heap[w0.heap.size]? = some (.cells #[I x.f, I x.fp, I x.t, I x.tp, .slice x.a x.xs.length x.c] 80 (0, 0)) := heap_alloc_new w0 _
    generalize (w0.alloc (.cells #[I x.f, I x.fp, I x.t, I x.tp, .slice x.a x.xs.length x.c] 80)) = w1 at hN1 hbx ⊢
    have y0 : w1.cell? ⟨w0.heap.size, 0, none⟩ = some (I x.f) := by rw [cell_of_block hbx 0]; simp
    have y1 : w1.cell? ⟨w0.heap.size, 1, none⟩ = some (I x.fp) := by rw [cell_of_block hbx 1]; simp
    have y2 : w1.cell? ⟨w0.heap.size, 2, none⟩ = some (I x.t) := by rw [cell_of_block hbx 2]; simp
    have y3 : w1.cell? ⟨w0.heap.size, 3, none⟩ = some (I x.tp) := by rw [cell_of_block hbx 3]; simp
    have y4 : w1.cell? ⟨w0.heap.size, 4, none⟩ = some (.slice x.a x.xs.length x.c) := by rw [cell_of_block hbx 4]; simp
    rw [hs0] at y0 y1 y2 y3 y4
    replace x0 := hN1.cell x0
    replace x1 := hN1.cell x1
    replace x2 := hN1.cell x2
    replace x3 := hN1.cell x3
    replace x4 := hN1.cell x4
    have k1 := hN0.trans hN1
    clear hN0 hN1 hbx hs0
    clear q0 q1 q2 q3 q4
    have hT : ∀ W, New w1 W → Calls Try.prog 70 #[(.agg #[.string gname, .slice gaa gacts.length gac, .slice (some ⟨b, off, none⟩) gedges.length gec, .slice gia gins.length gic, .slice goa gouts.length goc]), I i, I 0, I x.f, I x.fp] W fun en w' => en = .returned (.bool tkA) ∧ New w1 w' := fun W k => (HTA W (k1.trans k)).mono fun _ _ h => ⟨h.1, k.trans h.2⟩
    have hE : ∀ W, New w1 W → Calls Try.prog 69 #[(.agg #[.string gname, .slice gaa gacts.length gac, .slice (some ⟨b, off, none⟩) gedges.length gec, .slice gia gins.length gic, .slice goa gouts.length goc]), I x.f, I x.fp, .bool true, .bool tkA] W fun en w' => en = .returned (I EA) ∧ New w1 w' := fun W k => (HEA W (k1.trans k)).mono fun _ _ h => ⟨h.1, k.trans h.2⟩
    go_region_held3 (fun w' => w'.cell? ⟨w.heap.size, 0, none⟩ = some (.string gname) ∧ w'.cell? ⟨w.heap.size, 1, none⟩ = some (.slice gaa gacts.length gac) ∧ w'.cell? ⟨w.heap.size, 2, none⟩ = some (.slice (some ⟨b, off, none⟩) gedges.length gec) ∧ w'.cell? ⟨w.heap.size, 3, none⟩ = some (.slice gia gins.length gic) ∧ w'.cell? ⟨w.heap.size, 4, none⟩ = some (.slice goa gouts.length goc) ∧ w'.cell? ⟨w.heap.size + 1, 0, none⟩ = some (I x.f) ∧ w'.cell? ⟨w.heap.size + 1, 1, none⟩ = some (I x.fp) ∧ w'.cell? ⟨w.heap.size + 1, 2, none⟩ = some (I x.t) ∧ w'.cell? ⟨w.heap.size + 1, 3, none⟩ = some (I x.tp) ∧ w'.cell? ⟨w.heap.size + 1, 4, none⟩ = some (.slice x.a x.xs.length x.c) ∧ New w1 w')
      ((refine ⟨New.cell (w := w1) ?_ x0, New.cell (w := w1) ?_ x1, New.cell (w := w1) ?_ x2, New.cell (w := w1) ?_ x3, New.cell (w := w1) ?_ x4, New.cell (w := w1) ?_ y0, New.cell (w := w1) ?_ y1, New.cell (w := w1) ?_ y2, New.cell (w := w1) ?_ y3, New.cell (w := w1) ?_ y4, ?_⟩ <;> (repeat (first | exact New.refl w1 | exact n3 | exact n2 | refine New.drew ?_))))
      ((first | (go_at_call 70; refine (hT _ ((New.refl w1).drew)).mono ?_; rintro e w2 ⟨rfl, n2⟩) | (go_at_call 69; (first | refine (hE _ n2).mono ?_ | refine (hE _ n2.drew).mono ?_); rintro e w3 ⟨rfl, n3⟩)))
    rename_i hSX
    clear hT hE x0 x1 x2 x3 x4 y0 y1 y2 y3 y4
    obtain ⟨x0, x1, x2, x3, x4, y0, y1, y2, y3, y4, hNX⟩ := hSX
    replace k1 := k1.trans hNX
    simp only [Exit.then]
    go_wp2_with fail
    exact bodyPost_ret (v := .tuple #[I EA, I 1]) (by simp [results, Try.results55, go_sem]) rfl ⟨rfl, k1⟩
set_option maxRecDepth 100000 in
set_option maxHeartbeats 4000000 in
theorem rin_any (w : World) (g : Gr) (i : Nat) (hg : GrAt w g) (hl : GLen g) (hi : i < g.ins.length) :
    Calls Try.prog 56 #[g.v, I i] w fun en w' => en = .returned (.tuple #[I (inE g i g.ins[i]).1, I (inE g i g.ins[i]).2]) ∧ New w w' := by
  have hla := hl.a
  have hle := hl.e
  have hli := hl.i
  have hlo := hl.o
  have hxs := hl.ix _ (List.getElem_mem hi)
  obtain ⟨b, off, hab, q0, q1, q2⟩ := ports_at hg.si hi
  have hi0 : (i : Int) < (g.ins.length : Int) := by omega
  have hbw : b < w.heap.size := World.block_lt_of_cell? w _ q0
  generalize g.ins[i] = x at q0 q1 q2 hxs ⊢
  have HM : ∀ W, Calls Try.prog 52 #[.string x.name] W fun e w' => e = .returned (.bool (nameB x.name)) ∧ New W w' := fun W => rname_any W _ hxs
  have HN : ∀ W (k : New w W), Calls Try.prog 68 #[g.v, I g.acts.length, I i, I 0, .string x.name] W fun en w' => en = .returned (.bool ((namesOf g g.acts.length i 0).any (fun t => decide (bytesN t = bytesN x.name)))) ∧ New W w' :=
    fun W k => by simpa using rnamed_any W g g.acts.length i 0 x.name (hg.new k) hl (by omega) (by omega) (by omega)
  have HTA : ∀ W (k : New w W), Calls Try.prog 71 #[g.v, I g.edges.length, I i, I x.ac, I x.po] W fun en w' => en = .returned (.bool (inTk g g.edges.length i x.ac x.po)) ∧ New W w' :=
    fun W k => rinTk_any W g g.edges.length i x.ac x.po (hg.new k) hl (by omega) (by omega)
  have HEA : ∀ W (k : New w W), Calls Try.prog 69 #[g.v, I x.ac, I x.po, .bool false, .bool (inTk g g.edges.length i x.ac x.po)] W fun en w' => en = .returned (I (endE g nIn (inTk g g.edges.length i x.ac x.po) x.ac x.po)) ∧ New W w' :=
    fun W k => rend_any W g x.ac x.po false (inTk g g.edges.length i x.ac x.po) (hg.new k) hl
  have hEE : inE g i x = if nameB x.name = false then (82, 0) else if (namesOf g g.acts.length i 0).any (fun t => decide (bytesN t = bytesN x.name)) then (83, 0) else (endE g nIn (inTk g g.edges.length i x.ac x.po) x.ac x.po, 2) := by
    unfold inE nameE
    by_cases h1 : nameB x.name = false
    · simp [h1]
    · by_cases h2 : (namesOf g g.acts.length i 0).any (fun t => decide (bytesN t = bytesN x.name)) = true
      · simp only [h1, h2]; simp
      · simp only [h1, h2]; simp
  rw [hEE]
  clear hEE
  generalize endE g nIn (inTk g g.edges.length i x.ac x.po) x.ac x.po = EA at HEA ⊢
  generalize inTk g g.edges.length i x.ac x.po = tkA at HTA HEA
  generalize (namesOf g g.acts.length i 0).any (fun t => decide (bytesN t = bytesN x.name)) = tn at HN ⊢
  generalize nameB x.name = nb at HM ⊢
  have HC := HM
  clear hg hl
  obtain ⟨gname, gaa, gac, gacts, gea, gec, gedges, gia, gic, gins, goa, goc, gouts⟩ := g
  simp only at HTA HEA HN hab hi hi0 hla hle hli hlo
  simp only [Gr.v, Gr.cs] at HTA HEA HN ⊢
  subst hab
  clear HC
  cases nb with
  | false =>
    rw [if_pos rfl]
    go_enter Try.func56, Try.ntmps56
    go_wp2_with fail
    have hs0 : (w.alloc (.cells #[.string gname, .slice gaa gacts.length gac, .slice gea gedges.length gec, .slice (some ⟨b, off, none⟩) gins.length gic, .slice goa gouts.length goc] 63)).heap.size = w.heap.size + 1 := size_alloc _ _
    have hN0 : New w (w.alloc (.cells #[.string gname, .slice gaa gacts.length gac, .slice gea gedges.length gec, .slice (some ⟨b, off, none⟩) gins.length gic, .slice goa gouts.length goc] 63)) := (New.refl w).alloc _
    have hbx : (w.alloc (.cells #[.string gname, .slice gaa gacts.length gac, .slice gea gedges.length gec, .slice (some ⟨b, off, none⟩) gins.length gic, .slice goa gouts.length goc] 63)).heap[w.heap.size]? = some (.cells #[.string gname, .slice gaa gacts.length gac, .slice gea gedges.length gec, .slice (some ⟨b, off, none⟩) gins.length gic, .slice goa gouts.length goc] 63 (0, 0)) := heap_alloc_new w _
    generalize (w.alloc (.cells #[.string gname, .slice gaa gacts.length gac, .slice gea gedges.length gec, .slice (some ⟨b, off, none⟩) gins.length gic, .slice goa gouts.length goc] 63)) = w0 at hN0 hbx hs0 ⊢
    have x0 : w0.cell? ⟨w.heap.size, 0, none⟩ = some (.string gname) := by rw [cell_of_block hbx 0]; simp
    have x1 : w0.cell? ⟨w.heap.size, 1, none⟩ = some (.slice gaa gacts.length gac) := by rw [cell_of_block hbx 1]; simp
    have x2 : w0.cell? ⟨w.heap.size, 2, none⟩ = some (.slice gea gedges.length gec) := by rw [cell_of_block hbx 2]; simp
    have x3 : w0.cell? ⟨w.heap.size, 3, none⟩ = some (.slice (some ⟨b, off, none⟩) gins.length gic) := by rw [cell_of_block hbx 3]; simp
    have x4 : w0.cell? ⟨w.heap.size, 4, none⟩ = some (.slice goa gouts.length goc) := by rw [cell_of_block hbx 4]; simp
    clear hbx
    have hN1 : New w0 (w0.alloc (.cells #[.string x.name, I x.ac, I x.po] 118)) := (New.refl w0).alloc _
    have hbx : (w0.alloc (.cells #[.string x.name, I x.ac, I x.po] 118)).heap[w0.heap.size]? = some (.cells #[.string x.name, I x.ac, I x.po] 118 (0, 0)) := heap_alloc_new w0 _
    generalize (w0.alloc (.cells #[.string x.name, I x.ac, I x.po] 118)) = w1 at hN1 hbx ⊢
    have y0 : w1.cell? ⟨w0.heap.size, 0, none⟩ = some (.string x.name) := by rw [cell_of_block hbx 0]; simp
    have y1 : w1.cell? ⟨w0.heap.size, 1, none⟩ = some (I x.ac) := by rw [cell_of_block hbx 1]; simp
    have y2 : w1.cell? ⟨w0.heap.size, 2, none⟩ = some (I x.po) := by rw [cell_of_block hbx 2]; simp
    rw [hs0] at y0 y1 y2
    replace x0 := hN1.cell x0
    replace x1 := hN1.cell x1
    replace x2 := hN1.cell x2
    replace x3 := hN1.cell x3
    replace x4 := hN1.cell x4
    have k1 := hN0.trans hN1
    clear hN0 hN1 hbx hs0
    clear q0 q1 q2
    refine (HM w1).mono ?_
    rintro e wa ⟨rfl, k2⟩
    replace x0 := k2.cell x0
    replace x1 := k2.cell x1
    replace x2 := k2.cell x2
    replace x3 := k2.cell x3
    replace x4 := k2.cell x4
    replace y0 := k2.cell y0
    replace y1 := k2.cell y1
    replace y2 := k2.cell y2
    replace k1 := k1.trans k2
    clear k2 hxs
    go_wp2_with fail
    exact bodyPost_ret (v := .tuple #[I 82, I 0]) (by simp [results, Try.results56, go_sem]) rfl ⟨rfl, k1⟩
  | true =>
    rw [if_neg (by simp)]
    cases tn with
    | true =>
      rw [if_pos rfl]
      go_enter Try.func56, Try.ntmps56
      go_wp2_with fail
      have hs0 : (w.alloc (.cells #[.string gname, .slice gaa gacts.length gac, .slice gea gedges.length gec, .slice (some ⟨b, off, none⟩) gins.length gic, .slice goa gouts.length goc] 63)).heap.size = w.heap.size + 1 := size_alloc _ _
      have hN0 : New w (w.alloc (.cells #[.string gname, .slice gaa gacts.length gac, .slice gea gedges.length gec, .slice (some ⟨b, off, none⟩) gins.length gic, .slice goa gouts.length goc] 63)) := (New.refl w).alloc _
      have hbx : (w.alloc (.cells #[.string gname, .slice gaa gacts.length gac, .slice gea gedges.length gec, .slice (some ⟨b, off, none⟩) gins.length gic, .slice goa gouts.length goc] 63)).heap[w.heap.size]? = some (.cells #[.string gname, .slice gaa gacts.length gac, .slice gea gedges.length gec, .slice (some ⟨b, off, none⟩) gins.length gic, .slice goa gouts.length goc] 63 (0, 0)) := heap_alloc_new w _
      generalize (w.alloc (.cells #[.string gname, .slice gaa gacts.length gac, .slice gea gedges.length gec, .slice (some ⟨b, off, none⟩) gins.length gic, .slice goa gouts.length goc] 63)) = w0 at hN0 hbx hs0 ⊢
      have x0 : w0.cell? ⟨w.heap.size, 0, none⟩ = some (.string gname) := by rw [cell_of_block hbx 0]; simp
      have x1 : w0.cell? ⟨w.heap.size, 1, none⟩ = some (.slice gaa gacts.length gac) := by rw [cell_of_block hbx 1]; simp
      have x2 : w0.cell? ⟨w.heap.size, 2, none⟩ = some (.slice gea gedges.length gec) := by rw [cell_of_block hbx 2]; simp
      have x3 : w0.cell? ⟨w.heap.size, 3, none⟩ = some (.slice (some ⟨b, off, none⟩) gins.length gic) := by rw [cell_of_block hbx 3]; simp
      have x4 : w0.cell? ⟨w.heap.size, 4, none⟩ = some (.slice goa gouts.length goc) := by rw [cell_of_block hbx 4]; simp
      clear hbx
      have hN1 : New w0 (w0.alloc (.cells #[.string x.name, I x.ac, I x.po] 118)) := (New.refl w0).alloc _
      have hbx : (w0.alloc (.cells #[.string x.name, I x.ac, I x.po] 118)).heap[w0.heap.size]? = some (.cells #[.string x.name, I x.ac, I x.po] 118 (0, 0)) := heap_alloc_new w0 _
      generalize (w0.alloc (.cells #[.string x.name, I x.ac, I x.po] 118)) = w1 at hN1 hbx ⊢
      have y0 : w1.cell? ⟨w0.heap.size, 0, none⟩ = some (.string x.name) := by rw [cell_of_block hbx 0]; simp
      have y1 : w1.cell? ⟨w0.heap.size, 1, none⟩ = some (I x.ac) := by rw [cell_of_block hbx 1]; simp
      have y2 : w1.cell? ⟨w0.heap.size, 2, none⟩ = some (I x.po) := by rw [cell_of_block hbx 2]; simp
      rw [hs0] at y0 y1 y2
      replace x0 := hN1.cell x0
      replace x1 := hN1.cell x1
      replace x2 := hN1.cell x2
      replace x3 := hN1.cell x3
      replace x4 := hN1.cell x4
      have k1 := hN0.trans hN1
      clear hN0 hN1 hbx hs0
      clear q0 q1 q2
      refine (HM w1).mono ?_
      rintro e wa ⟨rfl, k2⟩
      replace x0 := k2.cell x0
      replace x1 := k2.cell x1
      replace x2 := k2.cell x2
      replace x3 := k2.cell x3
      replace x4 := k2.cell x4
      replace y0 := k2.cell y0
      replace y1 := k2.cell y1
      replace y2 := k2.cell y2
      replace k1 := k1.trans k2
      clear k2 hxs
      go_wp2_with fail
      refine (HN wa k1).mono ?_
      rintro e wb ⟨rfl, k2⟩
      replace x0 := k2.cell x0
      replace x1 := k2.cell x1
      replace x2 := k2.cell x2
      replace x3 := k2.cell x3
      replace x4 := k2.cell x4
      replace y0 := k2.cell y0
      replace y1 := k2.cell y1
      replace y2 := k2.cell y2
      replace k1 := k1.trans k2
      clear k2
      go_wp2_with fail
      exact bodyPost_ret (v := .tuple #[I 83, I 0]) (by simp [results, Try.results56, go_sem]) rfl ⟨rfl, k1⟩
    | false =>
      rw [if_neg (by simp)]
      go_enter Try.func56, Try.ntmps56
      go_wp2_with fail
      have hs0 : (w.alloc (.cells #[.string gname, .slice gaa gacts.length gac, .slice gea gedges.length gec, .slice (some ⟨b, off, none⟩) gins.length gic, .slice goa gouts.length goc] 63)).heap.size = w.heap.size + 1 := size_alloc _ _
      have hN0 : New w (w.alloc (.cells #[.string gname, .slice gaa gacts.length gac, .slice gea gedges.length gec, .slice (some ⟨b, off, none⟩) gins.length gic, .slice goa gouts.length goc] 63)) := (New.refl w).alloc _
      have hbx : (w.alloc (.cells #[.string gname, .slice gaa gacts.length gac, .slice gea gedges.length gec, .slice (some ⟨b, off, none⟩) gins.length gic, .slice goa gouts.length goc] 63)).heap[w.heap.size]? = some (.cells #[.string gname, .slice gaa gacts.length gac, .slice gea gedges.length gec, .slice (some ⟨b, off, none⟩) gins.length gic, .slice goa gouts.length goc] 63 (0, 0)) := heap_alloc_new w _
      generalize (w.alloc (.cells #[.string gname, .slice gaa gacts.length gac, .slice gea gedges.length gec, .slice (some ⟨b, off, none⟩) gins.length gic, .slice goa gouts.length goc] 63)) = w0 at hN0 hbx hs0 ⊢
      have x0 : w0.cell? ⟨w.heap.size, 0, none⟩ = some (.string gname) := by rw [cell_of_block hbx 0]; simp
      have x1 : w0.cell? ⟨w.heap.size, 1, none⟩ = some (.slice gaa gacts.length gac) := by rw [cell_of_block hbx 1]; simp
      have x2 : w0.cell? ⟨w.heap.size, 2, none⟩ = some (.slice gea gedges.length gec) := by rw [cell_of_block hbx 2]; simp
      have x3 : w0.cell? ⟨w.heap.size, 3, none⟩ = some (.slice (some ⟨b, off, none⟩) gins.length gic) := by rw [cell_of_block hbx 3]; simp
      have x4 : w0.cell? ⟨w.heap.size, 4, none⟩ = some (.slice goa gouts.length goc) := by rw [cell_of_block hbx 4]; simp
      clear hbx
      have hN1 : New w0 (w0.alloc (.cells #[.string x.name, I x.ac, I x.po] 118)) := (New.refl w0).alloc _
      have hbx : (w0.alloc (.cells #[.string x.name, I x.ac, I x.po] 118)).heap[w0.heap.size]? = some (.cells #[.string x.name, I x.ac, I x.po] 118 (0, 0)) := heap_alloc_new w0 _
      generalize (w0.alloc (.cells #[.string x.name, I x.ac, I x.po] 118)) = w1 at hN1 hbx ⊢
      have y0 : w1.cell? ⟨w0.heap.size, 0, none⟩ = some (.string x.name) := by rw [cell_of_block hbx 0]; simp
      have y1 : w1.cell? ⟨w0.heap.size, 1, none⟩ = some (I x.ac) := by rw [cell_of_block hbx 1]; simp
      have y2 : w1.cell? ⟨w0.heap.size, 2, none⟩ = some (I x.po) := by rw [cell_of_block hbx 2]; simp
      rw [hs0] at y0 y1 y2
      replace x0 := hN1.cell x0
      replace x1 := hN1.cell x1
      replace x2 := hN1.cell x2
      replace x3 := hN1.cell x3
      replace x4 := hN1.cell x4
      have k1 := hN0.trans hN1
      clear hN0 hN1 hbx hs0
      clear q0 q1 q2
      refine (HM w1).mono ?_
      rintro e wa ⟨rfl, k2⟩
      replace x0 := k2.cell x0
      replace x1 := k2.cell x1
      replace x2 := k2.cell x2
      replace x3 := k2.cell x3
      replace x4 := k2.cell x4
      replace y0 := k2.cell y0
      replace y1 := k2.cell y1
      replace y2 := k2.cell y2
      replace k1 := k1.trans k2
      clear k2 hxs
      go_wp2_with fail
      refine (HN wa k1).mono ?_
      rintro e wb ⟨rfl, k2⟩
      replace x0 := k2.cell x0
      replace x1 := k2.cell x1
      replace x2 := k2.cell x2
      replace x3 := k2.cell x3
      replace x4 := k2.cell x4
      replace y0 := k2.cell y0
      replace y1 := k2.cell y1
      replace y2 := k2.cell y2
      replace k1 := k1.trans k2
      clear k2
      go_wp2_with fail
      have hT : ∀ W, New wb W → Calls Try.prog 71 #[(.agg #[.string gname, .slice gaa gacts.length gac, .slice gea gedges.length gec, .slice (some ⟨b, off, none⟩) gins.length gic, .slice goa gouts.length goc]), I gedges.length, I i, I x.ac, I x.po] W fun en w' => en = .returned (.bool tkA) ∧ New wb w' := fun W k => (HTA W (k1.trans k)).mono fun _ _ h => ⟨h.1, k.trans h.2⟩
      have hE : ∀ W, New wb W → Calls Try.prog 69 #[(.agg #[.string gname, .slice gaa gacts.length gac, .slice gea gedges.length gec, .slice (some ⟨b, off, none⟩) gins.length gic, .slice goa gouts.length goc]), I x.ac, I x.po, .bool false, .bool tkA] W fun en w' => en = .returned (I EA) ∧ New wb w' := fun W k => (HEA W (k1.trans k)).mono fun _ _ h => ⟨h.1, k.trans h.2⟩
      go_region_held3 (fun w' => w'.cell? ⟨w.heap.size, 0, none⟩ = some (.string gname) ∧ w'.cell? ⟨w.heap.size, 1, none⟩ = some (.slice gaa gacts.length gac) ∧ w'.cell? ⟨w.heap.size, 2, none⟩ = some (.slice gea gedges.length gec) ∧ w'.cell? ⟨w.heap.size, 3, none⟩ = some (.slice (some ⟨b, off, none⟩) gins.length gic) ∧ w'.cell? ⟨w.heap.size, 4, none⟩ = some (.slice goa gouts.length goc) ∧ w'.cell? ⟨w.heap.size + 1, 0, none⟩ = some (.string x.name) ∧ w'.cell? ⟨w.heap.size + 1, 1, none⟩ = some (I x.ac) ∧ w'.cell? ⟨w.heap.size + 1, 2, none⟩ = some (I x.po) ∧ New wb w')
        ((refine ⟨New.cell (w := wb) ?_ x0, New.cell (w := wb) ?_ x1, New.cell (w := wb) ?_ x2, New.cell (w := wb) ?_ x3, New.cell (w := wb) ?_ x4, New.cell (w := wb) ?_ y0, New.cell (w := wb) ?_ y1, New.cell (w := wb) ?_ y2, ?_⟩ <;> (repeat (first | exact New.refl wb | exact n3 | exact n2 | refine New.drew ?_))))
        ((first | (go_at_call 71; refine (hT _ ((New.refl wb).drew)).mono ?_; rintro e w2 ⟨rfl, n2⟩) | (go_at_call 69; (first | refine (hE _ n2).mono ?_ | refine (hE _ n2.drew).mono ?_); rintro e w3 ⟨rfl, n3⟩)))
      rename_i hSX
      clear hT hE x0 x1 x2 x3 x4 y0 y1 y2
      obtain ⟨x0, x1, x2, x3, x4, y0, y1, y2, hNX⟩ := hSX
      replace k1 := k1.trans hNX
      simp only [Exit.then]
      go_wp2_with fail
      exact bodyPost_ret (v := .tuple #[I EA, I 2]) (by simp [results, Try.results56, go_sem]) rfl ⟨rfl, k1⟩
set_option maxRecDepth 100000 in
set_option maxHeartbeats 4000000 in
theorem rout_any (w : World) (g : Gr) (i : Nat) (hg : GrAt w g) (hl : GLen g) (hi : i < g.outs.length) :
    Calls Try.prog 57 #[g.v, I i] w fun en w' => en = .returned (.tuple #[I (outE g i g.outs[i]).1, I (outE g i g.outs[i]).2]) ∧ New w w' := by
  have hla := hl.a
  have hle := hl.e
  have hli := hl.i
  have hlo := hl.o
  have hxs := hl.ox _ (List.getElem_mem hi)
  obtain ⟨b, off, hab, q0, q1, q2⟩ := ports_at hg.so hi
  have hi0 : (i : Int) < (g.outs.length : Int) := by omega
  have hbw : b < w.heap.size := World.block_lt_of_cell? w _ q0
  generalize g.outs[i] = x at q0 q1 q2 hxs ⊢
  have HM : ∀ W, Calls Try.prog 52 #[.string x.name] W fun e w' => e = .returned (.bool (nameB x.name)) ∧ New W w' := fun W => rname_any W _ hxs
  have HN : ∀ W (k : New w W), Calls Try.prog 68 #[g.v, I g.acts.length, I g.ins.length, I i, .string x.name] W fun en w' => en = .returned (.bool ((namesOf g g.acts.length g.ins.length i).any (fun t => decide (bytesN t = bytesN x.name)))) ∧ New W w' :=
    fun W k => by simpa using rnamed_any W g g.acts.length g.ins.length i x.name (hg.new k) hl (by omega) (by omega) (by omega)
  have HTA : ∀ W (k : New w W), Calls Try.prog 70 #[g.v, I g.edges.length, I i, I x.ac, I x.po] W fun en w' => en = .returned (.bool (outTk g g.edges.length i x.ac x.po)) ∧ New W w' :=
    fun W k => routTk_any W g g.edges.length i x.ac x.po (hg.new k) hl (by omega) (by omega)
  have HEA : ∀ W (k : New w W), Calls Try.prog 69 #[g.v, I x.ac, I x.po, .bool true, .bool (outTk g g.edges.length i x.ac x.po)] W fun en w' => en = .returned (I (endE g nOut (outTk g g.edges.length i x.ac x.po) x.ac x.po)) ∧ New W w' :=
    fun W k => rend_any W g x.ac x.po true (outTk g g.edges.length i x.ac x.po) (hg.new k) hl
  have hEE : outE g i x = if nameB x.name = false then (82, 0) else if (namesOf g g.acts.length g.ins.length i).any (fun t => decide (bytesN t = bytesN x.name)) then (83, 0) else (endE g nOut (outTk g g.edges.length i x.ac x.po) x.ac x.po, 1) := by
    unfold outE nameE
    by_cases h1 : nameB x.name = false
    · simp [h1]
    · by_cases h2 : (namesOf g g.acts.length g.ins.length i).any (fun t => decide (bytesN t = bytesN x.name)) = true
      · simp only [h1, h2]; simp
      · simp only [h1, h2]; simp
  rw [hEE]
  clear hEE
  generalize endE g nOut (outTk g g.edges.length i x.ac x.po) x.ac x.po = EA at HEA ⊢
  generalize outTk g g.edges.length i x.ac x.po = tkA at HTA HEA
  generalize (namesOf g g.acts.length g.ins.length i).any (fun t => decide (bytesN t = bytesN x.name)) = tn at HN ⊢
  generalize nameB x.name = nb at HM ⊢
  have HC := HM
  clear hg hl
  obtain ⟨gname, gaa, gac, gacts, gea, gec, gedges, gia, gic, gins, goa, goc, gouts⟩ := g
  simp only at HTA HEA HN hab hi hi0 hla hle hli hlo
  simp only [Gr.v, Gr.cs] at HTA HEA HN ⊢
  subst hab
  clear HC
  cases nb with
  | false =>
    rw [if_pos rfl]
    go_enter Try.func57, Try.ntmps57
    go_wp2_with fail
    have hs0 : (w.alloc (.cells #[.string gname, .slice gaa gacts.length gac, .slice gea gedges.length gec, .slice gia gins.length gic, .slice (some ⟨b, off, none⟩) gouts.length goc] 63)).heap.size = w.heap.size + 1 := size_alloc _ _
    have hN0 : New w (w.alloc (.cells #[.string gname, .slice gaa gacts.length gac, .slice gea gedges.length gec, .slice gia gins.length gic, .slice (some ⟨b, off, none⟩) gouts.length goc] 63)) := (New.refl w).alloc _
    have hbx : (w.alloc (.cells #[.string gname, .slice gaa gacts.length gac, .slice gea gedges.length gec, .slice gia gins.length gic, .slice (some ⟨b, off, none⟩) gouts.length goc] 63)).heap[w.heap.size]? = some (.cells #[.string gname, .slice gaa gacts.length gac, .slice gea gedges.length gec, .slice gia gins.length gic, .slice (some ⟨b, off, none⟩) gouts.length goc] 63 (0, 0)) := heap_alloc_new w _
    generalize (w.alloc (.cells #[.string gname, .slice gaa gacts.length gac, .slice gea gedges.length gec, .slice gia gins.length gic, .slice (some ⟨b, off, none⟩) gouts.length goc] 63)) = w0 at hN0 hbx hs0 ⊢
    have x0 : w0.cell? ⟨w.heap.size, 0, none⟩ = some (.string gname) := by rw [cell_of_block hbx 0]; simp
    have x1 : w0.cell? ⟨w.heap.size, 1, none⟩ = some (.slice gaa gacts.length gac) := by rw [cell_of_block hbx 1]; simp
    have x2 : w0.cell? ⟨w.heap.size, 2, none⟩ = some (.slice gea gedges.length gec) := by rw [cell_of_block hbx 2]; simp
    have x3 : w0.cell? ⟨w.heap.size, 3, none⟩ = some (.slice gia gins.length gic) := by rw [cell_of_block hbx 3]; simp
    have x4 : w0.cell? ⟨w.heap.size, 4, none⟩ = some (.slice (some ⟨b, off, none⟩) gouts.length goc) := by rw [cell_of_block hbx 4]; simp
    clear hbx
    have hN1 : New w0 (w0.alloc (.cells #[.string x.name, I x.ac, I x.po] 118)) := (New.refl w0).alloc _
    have hbx : (w0.alloc (.cells #[.string x.name, I x.ac, I x.po] 118)).heap[w0.heap.size]? = some (.cells #[.string x.name, I x.ac, I x.po] 118 (0, 0)) := heap_alloc_new w0 _
    generalize (w0.alloc (.cells #[.string x.name, I x.ac, I x.po] 118)) = w1 at hN1 hbx ⊢
    have y0 : w1.cell? ⟨w0.heap.size, 0, none⟩ = some (.string x.name) := by rw [cell_of_block hbx 0]; simp
    have y1 : w1.cell? ⟨w0.heap.size, 1, none⟩ = some (I x.ac) := by rw [cell_of_block hbx 1]; simp
    have y2 : w1.cell? ⟨w0.heap.size, 2, none⟩ = some (I x.po) := by rw [cell_of_block hbx 2]; simp
    rw [hs0] at y0 y1 y2
    replace x0 := hN1.cell x0
    replace x1 := hN1.cell x1
    replace x2 := hN1.cell x2
    replace x3 := hN1.cell x3
    replace x4 := hN1.cell x4
    have k1 := hN0.trans hN1
    clear hN0 hN1 hbx hs0
    clear q0 q1 q2
    refine (HM w1).mono ?_
    rintro e wa ⟨rfl, k2⟩
    replace x0 := k2.cell x0
    replace x1 := k2.cell x1
    replace x2 := k2.cell x2
    replace x3 := k2.cell x3
    replace x4 := k2.cell x4
    replace y0 := k2.cell y0
    replace y1 := k2.cell y1
    replace y2 := k2.cell y2
    replace k1 := k1.trans k2
    clear k2 hxs
    go_wp2_with fail
    exact bodyPost_ret (v := .tuple #[I 82, I 0]) (by simp [results, Try.results57, go_sem]) rfl ⟨rfl, k1⟩
  | true =>
    rw [if_neg (by simp)]
    cases tn with
    | true =>
      rw [if_pos rfl]
      go_enter Try.func57, Try.ntmps57
      go_wp2_with fail
      have hs0 : (w.alloc (.cells #[.string gname, .slice gaa gacts.length gac, .slice gea gedges.length gec, .slice gia gins.length gic, .slice (some ⟨b, off, none⟩) gouts.length goc] 63)).heap.size = w.heap.size + 1 := size_alloc _ _
      have hN0 : New w (w.alloc (.cells #[.string gname, .slice gaa gacts.length gac, .slice gea gedges.length gec, .slice gia gins.length gic, .slice (some ⟨b, off, none⟩) gouts.length goc] 63)) := (New.refl w).alloc _
      have hbx : (w.alloc (.cells #[.string gname, .slice gaa gacts.length gac, .slice gea gedges.length gec, .slice gia gins.length gic, .slice (some ⟨b, off, none⟩) gouts.length goc] 63)).heap[w.heap.size]? = some (.cells #[.string gname, .slice gaa gacts.length gac, .slice gea gedges.length gec, .slice gia gins.length gic, .slice (some ⟨b, off, none⟩) gouts.length goc] 63 (0, 0)) := heap_alloc_new w _
      generalize (w.alloc (.cells #[.string gname, .slice gaa gacts.length gac, .slice gea gedges.length gec, .slice gia gins.length gic, .slice (some ⟨b, off, none⟩) gouts.length goc] 63)) = w0 at hN0 hbx hs0 ⊢
      have x0 : w0.cell? ⟨w.heap.size, 0, none⟩ = some (.string gname) := by rw [cell_of_block hbx 0]; simp
      have x1 : w0.cell? ⟨w.heap.size, 1, none⟩ = some (.slice gaa gacts.length gac) := by rw [cell_of_block hbx 1]; simp
      have x2 : w0.cell? ⟨w.heap.size, 2, none⟩ = some (.slice gea gedges.length gec) := by rw [cell_of_block hbx 2]; simp
      have x3 : w0.cell? ⟨w.heap.size, 3, none⟩ = some (.slice gia gins.length gic) := by rw [cell_of_block hbx 3]; simp
      have x4 : w0.cell? ⟨w.heap.size, 4, none⟩ = some (.slice (some ⟨b, off, none⟩) gouts.length goc) := by rw [cell_of_block hbx 4]; simp
      clear hbx
      have hN1 : New w0 (w0.alloc (.cells #[.string x.name, I x.ac, I x.po] 118)) := (New.refl w0).alloc _
      have hbx : (w0.alloc (.cells #[.string x.name, I x.ac, I x.po] 118)).heap[w0.heap.size]? = some (.cells #[.string x.name, I x.ac, I x.po] 118 (0, 0)) := heap_alloc_new w0 _
      generalize (w0.alloc (.cells #[.string x.name, I x.ac, I x.po] 118)) = w1 at hN1 hbx ⊢
      have y0 : w1.cell? ⟨w0.heap.size, 0, none⟩ = some (.string x.name) := by rw [cell_of_block hbx 0]; simp
      have y1 : w1.cell? ⟨w0.heap.size, 1, none⟩ = some (I x.ac) := by rw [cell_of_block hbx 1]; simp
      have y2 : w1.cell? ⟨w0.heap.size, 2, none⟩ = some (I x.po) := by rw [cell_of_block hbx 2]; simp
      rw [hs0] at y0 y1 y2
      replace x0 := hN1.cell x0
      replace x1 := hN1.cell x1
      replace x2 := hN1.cell x2
      replace x3 := hN1.cell x3
      replace x4 := hN1.cell x4
      have k1 := hN0.trans hN1
      clear hN0 hN1 hbx hs0
      clear q0 q1 q2
      refine (HM w1).mono ?_
      rintro e wa ⟨rfl, k2⟩
      replace x0 := k2.cell x0
      replace x1 := k2.cell x1
      replace x2 := k2.cell x2
      replace x3 := k2.cell x3
      replace x4 := k2.cell x4
      replace y0 := k2.cell y0
      replace y1 := k2.cell y1
      replace y2 := k2.cell y2
      replace k1 := k1.trans k2
      clear k2 hxs
      go_wp2_with fail
      refine (HN wa k1).mono ?_
      rintro e wb ⟨rfl, k2⟩
      replace x0 := k2.cell x0
      replace x1 := k2.cell x1
      replace x2 := k2.cell x2
      replace x3 := k2.cell x3
      replace x4 := k2.cell x4
      replace y0 := k2.cell y0
      replace y1 := k2.cell y1
      replace y2 := k2.cell y2
      replace k1 := k1.trans k2
      clear k2
      go_wp2_with fail
      exact bodyPost_ret (v := .tuple #[I 83, I 0]) (by simp [results, Try.results57, go_sem]) rfl ⟨rfl, k1⟩
    | false =>
      rw [if_neg (by simp)]
      go_enter Try.func57, Try.ntmps57
      go_wp2_with fail
      have hs0 : (w.alloc (.cells #[.string gname, .slice gaa gacts.length gac, .slice gea gedges.length gec, .slice gia gins.length gic, .slice (some ⟨b, off, none⟩) gouts.length goc] 63)).heap.size = w.heap.size + 1 := size_alloc _ _
      have hN0 : New w (w.alloc (.cells #[.string gname, .slice gaa gacts.length gac, .slice gea gedges.length gec, .slice gia gins.length gic, .slice (some ⟨b, off, none⟩) gouts.length goc] 63)) := (New.refl w).alloc _
      have hbx : (w.alloc (.cells #[.string gname, .slice gaa gacts.length gac, .slice gea gedges.length gec, .slice gia gins.length gic, .slice (some ⟨b, off, none⟩) gouts.length goc] 63)).heap[w.heap.size]? = some (.cells #[.string gname, .slice gaa gacts.length gac, .slice gea gedges.length gec, .slice gia gins.length gic, .slice (some ⟨b, off, none⟩) gouts.length goc] 63 (0, 0)) := heap_alloc_new w _
      generalize (w.alloc (.cells #[.string gname, .slice gaa gacts.length gac, .slice gea gedges.length gec, .slice gia gins.length gic, .slice (some ⟨b, off, none⟩) gouts.length goc] 63)) = w0 at hN0 hbx hs0 ⊢
      have x0 : w0.cell? ⟨w.heap.size, 0, none⟩ = some (.string gname) := by rw [cell_of_block hbx 0]; simp
      have x1 : w0.cell? ⟨w.heap.size, 1, none⟩ = some (.slice gaa gacts.length gac) := by rw [cell_of_block hbx 1]; simp
      have x2 : w0.cell? ⟨w.heap.size, 2, none⟩ = some (.slice gea gedges.length gec) := by rw [cell_of_block hbx 2]; simp
      have x3 : w0.cell? ⟨w.heap.size, 3, none⟩ = some (.slice gia gins.length gic) := by rw [cell_of_block hbx 3]; simp
      have x4 : w0.cell? ⟨w.heap.size, 4, none⟩ = some (.slice (some ⟨b, off, none⟩) gouts.length goc) := by rw [cell_of_block hbx 4]; simp
      clear hbx
      have hN1 : New w0 (w0.alloc (.cells #[.string x.name, I x.ac, I x.po] 118)) := (New.refl w0).alloc _
      have hbx : (w0.alloc (.cells #[.string x.name, I x.ac, I x.po] 118)).heap[w0.heap.size]? = some (.cells #[.string x.name, I x.ac, I x.po] 118 (0, 0)) := heap_alloc_new w0 _
      generalize (w0.alloc (.cells #[.string x.name, I x.ac, I x.po] 118)) = w1 at hN1 hbx ⊢
      have y0 : w1.cell? ⟨w0.heap.size, 0, none⟩ = some (.string x.name) := by rw [cell_of_block hbx 0]; simp
      have y1 : w1.cell? ⟨w0.heap.size, 1, none⟩ = some (I x.ac) := by rw [cell_of_block hbx 1]; simp
      have y2 : w1.cell? ⟨w0.heap.size, 2, none⟩ = some (I x.po) := by rw [cell_of_block hbx 2]; simp
      rw [hs0] at y0 y1 y2
      replace x0 := hN1.cell x0
      replace x1 := hN1.cell x1
      replace x2 := hN1.cell x2
      replace x3 := hN1.cell x3
      replace x4 := hN1.cell x4
      have k1 := hN0.trans hN1
      clear hN0 hN1 hbx hs0
      clear q0 q1 q2
      refine (HM w1).mono ?_
      rintro e wa ⟨rfl, k2⟩
      replace x0 := k2.cell x0
      replace x1 := k2.cell x1
      replace x2 := k2.cell x2
      replace x3 := k2.cell x3
      replace x4 := k2.cell x4
      replace y0 := k2.cell y0
      replace y1 := k2.cell y1
      replace y2 := k2.cell y2
      replace k1 := k1.trans k2
      clear k2 hxs
      go_wp2_with fail
      refine (HN wa k1).mono ?_
      rintro e wb ⟨rfl, k2⟩
      replace x0 := k2.cell x0
      replace x1 := k2.cell x1
      replace x2 := k2.cell x2
      replace x3 := k2.cell x3
      replace x4 := k2.cell x4
      replace y0 := k2.cell y0
      replace y1 := k2.cell y1
      replace y2 := k2.cell y2
      replace k1 := k1.trans k2
      clear k2
      go_wp2_with fail
      have hT : ∀ W, New wb W → Calls Try.prog 70 #[(.agg #[.string gname, .slice gaa gacts.length gac, .slice gea gedges.length gec, .slice gia gins.length gic, .slice (some ⟨b, off, none⟩) gouts.length goc]), I gedges.length, I i, I x.ac, I x.po] W fun en w' => en = .returned (.bool tkA) ∧ New wb w' := fun W k => (HTA W (k1.trans k)).mono fun _ _ h => ⟨h.1, k.trans h.2⟩
      have hE : ∀ W, New wb W → Calls Try.prog 69 #[(.agg #[.string gname, .slice gaa gacts.length gac, .slice gea gedges.length gec, .slice gia gins.length gic, .slice (some ⟨b, off, none⟩) gouts.length goc]), I x.ac, I x.po, .bool true, .bool tkA] W fun en w' => en = .returned (I EA) ∧ New wb w' := fun W k => (HEA W (k1.trans k)).mono fun _ _ h => ⟨h.1, k.trans h.2⟩
      go_region_held3 (fun w' => w'.cell? ⟨w.heap.size, 0, none⟩ = some (.string gname) ∧ w'.cell? ⟨w.heap.size, 1, none⟩ = some (.slice gaa gacts.length gac) ∧ w'.cell? ⟨w.heap.size, 2, none⟩ = some (.slice gea gedges.length gec) ∧ w'.cell? ⟨w.heap.size, 3, none⟩ = some (.slice gia gins.length gic) ∧ w'.cell? ⟨w.heap.size, 4, none⟩ = some (.slice (some ⟨b, off, none⟩) gouts.length goc) ∧ w'.cell? ⟨w.heap.size + 1, 0, none⟩ = some (.string x.name) ∧ w'.cell? ⟨w.heap.size + 1, 1, none⟩ = some (I x.ac) ∧ w'.cell? ⟨w.heap.size + 1, 2, none⟩ = some (I x.po) ∧ New wb w')
        ((refine ⟨New.cell (w := wb) ?_ x0, New.cell (w := wb) ?_ x1, New.cell (w := wb) ?_ x2, New.cell (w := wb) ?_ x3, New.cell (w := wb) ?_ x4, New.cell (w := wb) ?_ y0, New.cell (w := wb) ?_ y1, New.cell (w := wb) ?_ y2, ?_⟩ <;> (repeat (first | exact New.refl wb | exact n3 | exact n2 | refine New.drew ?_))))
        ((first | (go_at_call 70; refine (hT _ ((New.refl wb).drew)).mono ?_; rintro e w2 ⟨rfl, n2⟩) | (go_at_call 69; (first | refine (hE _ n2).mono ?_ | refine (hE _ n2.drew).mono ?_); rintro e w3 ⟨rfl, n3⟩)))
      rename_i hSX
      clear hT hE x0 x1 x2 x3 x4 y0 y1 y2
      obtain ⟨x0, x1, x2, x3, x4, y0, y1, y2, hNX⟩ := hSX
      replace k1 := k1.trans hNX
      simp only [Exit.then]
      go_wp2_with fail
      exact bodyPost_ret (v := .tuple #[I EA, I 1]) (by simp [results, Try.results57, go_sem]) rfl ⟨rfl, k1⟩
end Go.Proofs.Ytijlgcbnoekmeaa
