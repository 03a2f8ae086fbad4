/-
  Layer 8: the document's rates, ends.
-/
import Derived.Test.YtijlgcbnoekmeaaGrC
namespace Go.Proofs.Ytijlgcbnoekmeaa
open Go Go.RowKit Go.Joins
set_option linter.all false

set_option maxRecDepth 100000 in
set_option maxHeartbeats 4000000 in
theorem rrates_any (w : World) (g : Gr) (i : Nat) (hg : GrAt w g) (hl : GLen g) (hi : i < g.acts.length) :
    Calls Try.prog 72 #[g.v, I i] w fun en w' => en = .returned (.tuple #[I (nIn g.acts[i]), I (nOut g.acts[i])]) ∧ New w w' := by
  have hsa := hg.sa
  have hxx := hg.ax _ (List.getElem_mem hi)
  have hxn := (hl.ax _ (List.getElem_mem hi)).1
  have hla := hl.a
  clear hg hl
  obtain ⟨gname, gaa, gac, gacts, gea, gec, gedges, gia, gic, gins, goa, goc, gouts⟩ := g
  simp only at *
  simp only [Gr.v, Gr.cs]
  have hcs : ∀ w1, New w w1 → Calls Try.prog 41 #[.int .u8 gacts[i].tag, .slice gacts[i].a gacts[i].xs.length gacts[i].c] w1 (Rates w1 (shapeS gacts[i].tag gacts[i].xs)) := fun w1 kk => refOf_any gacts[i].tag gacts[i].a gacts[i].c gacts[i].xs w1 (hxx.new kk) hxn
  have HR : Hid (I (nIn gacts[i]) = I ((shapeS gacts[i].tag gacts[i].xs).2.1.length : Int) ∧ I (nOut gacts[i]) = I ((shapeS gacts[i].tag gacts[i].xs).2.2.length : Int)) := Lib.hid ⟨rfl, rfl⟩
  obtain ⟨b, off, hab, q0, q1, q2⟩ := acts_at hsa hi
  rw [HR.out.1, HR.out.2]
  have hi0 : (i : Int) < (gacts.length : Int) := by have hi' : i < gacts.length := hi; omega
  generalize shapeS gacts[i].tag gacts[i].xs = sh at hcs HR ⊢
  generalize gacts[i] = x at q0 q1 q2 hcs HR hxn
  clear HR hxx hsa hxn
  have HAB := Lib.hid hab
  clear hab
  go_enter Try.func72, Try.ntmps72
  go_wp2_with fail
  have hN0 : New w (w.alloc (.cells #[.string gname, .slice gaa gacts.length gac, .slice gea gedges.length gec, .slice gia gins.length gic, .slice goa gouts.length goc] 63)) := (New.refl w).alloc _
  have hbx : (w.alloc (.cells #[.string gname, .slice gaa gacts.length gac, .slice gea gedges.length gec, .slice gia gins.length gic, .slice goa gouts.length goc] 63)).heap[w.heap.size]? = some (.cells #[.string gname, .slice gaa gacts.length gac, .slice gea gedges.length gec, .slice gia gins.length gic, .slice goa gouts.length goc] 63 (0, 0)) := heap_alloc_new w _
  generalize (w.alloc (.cells #[.string gname, .slice gaa gacts.length gac, .slice gea gedges.length gec, .slice gia gins.length gic, .slice goa gouts.length goc] 63)) = w0 at hN0 hbx ⊢
  have x1 : w0.cell? ⟨w.heap.size, 1, none⟩ = some (.slice gaa gacts.length gac) := by rw [cell_of_block hbx 1]; simp
  clear hbx
  rw [HAB.out] at x1
  replace q0 := hN0.cell q0
  replace q1 := hN0.cell q1
  replace q2 := hN0.cell q2
  have hcs2 : ∀ w1, New w0 w1 → Calls Try.prog 41 #[.int .u8 x.tag, .slice x.a x.xs.length x.c] w1 (Rates w1 sh) := fun w1 k => hcs w1 (hN0.trans k)
  go_region_held3 (fun w' => w'.cell? ⟨w.heap.size, 1, none⟩ = some (.slice (some ⟨b, off, none⟩) gacts.length gac) ∧ w'.cell? ⟨b, off + i * 3 + 1, none⟩ = some (.int .u8 x.tag) ∧ w'.cell? ⟨b, off + i * 3 + 2, none⟩ = some (.slice x.a x.xs.length x.c) ∧ New w0 w')
    ((refine ⟨New.cell (w := w0) ?_ x1, New.cell (w := w0) ?_ q1, New.cell (w := w0) ?_ q2, ?_⟩ <;> (repeat (first | exact New.refl w0 | refine New.drew ?_ | exact n2 | refine New.trans ?_ n2))))
    ((go_at_call 41; refine (hcs2 _ ((New.refl w0).drew)).mono ?_; rintro e w2 ⟨a1, ca, a2, cb, rfl, _, _, _, n2⟩))
  rename_i hSX
  have hNX := hN0.trans hSX.2.2.2
  simp only [Exit.then]
  go_wp2_with fail
  exact bodyPost_ret (v := .tuple #[I (sh.2.1.length : Int), I (sh.2.2.length : Int)]) (by simp [results, Try.results72, go_sem]) rfl ⟨rfl, hNX⟩
set_option maxRecDepth 100000 in
set_option maxHeartbeats 4000000 in
theorem rend_any (w : World) (g : Gr) (a p : Int) (out tk : Bool) (hg : GrAt w g) (hl : GLen g) :
    Calls Try.prog 69 #[g.v, I a, I p, .bool out, .bool tk] w fun en w' => en = .returned (I (endE g (fun x => if out then nOut x else nIn x) tk a p)) ∧ New w w' := by
  have hla := hl.a
  by_cases h : 0 ≤ a ∧ a < g.acts.length
  · obtain ⟨h1, h2⟩ := h
    obtain ⟨i, rfl⟩ := Int.eq_ofNat_of_zero_le h1
    have hi : i < g.acts.length := by omega
    have hr := fun W (k : New w W) => rrates_any W g i (hg.new k) hl hi
    have he : endE g (fun x => if out then nOut x else nIn x) tk (i : Int) p = if 0 ≤ p ∧ p < ((if out then nOut g.acts[i] else nIn g.acts[i] : Nat) : Int) then (if tk then 86 else 0) else 85 := by
      unfold endE
      rw [dif_pos ⟨h1, h2⟩]
      simp
    rw [he]
    generalize nIn g.acts[i] = ni at hr ⊢
    generalize nOut g.acts[i] = no at hr ⊢
    clear he hg hl h1
    obtain ⟨gname, gaa, gac, gacts, gea, gec, gedges, gia, gic, gins, goa, goc, gouts⟩ := g
    simp only at *
    simp only [Gr.v, Gr.cs] at hr ⊢
    have d1 : decide ((i : Int) < 0) = false := decide_eq_false (by omega)
    cases out with
    | true =>
      by_cases hp0 : p < 0
      · rw [if_neg (by omega)]
        go_enter Try.func69, Try.ntmps69
        go_wp2_with fail
        have hN0 : New w (w.alloc (.cells #[.string gname, .slice gaa gacts.length gac, .slice gea gedges.length gec, .slice gia gins.length gic, .slice goa gouts.length goc] 63)) := (New.refl w).alloc _
        have hbx : (w.alloc (.cells #[.string gname, .slice gaa gacts.length gac, .slice gea gedges.length gec, .slice gia gins.length gic, .slice goa gouts.length goc] 63)).heap[w.heap.size]? = some (.cells #[.string gname, .slice gaa gacts.length gac, .slice gea gedges.length gec, .slice gia gins.length gic, .slice goa gouts.length goc] 63 (0, 0)) := heap_alloc_new w _
        generalize (w.alloc (.cells #[.string gname, .slice gaa gacts.length gac, .slice gea gedges.length gec, .slice gia gins.length gic, .slice goa gouts.length goc] 63)) = w0 at hN0 hbx ⊢
        have x0 : w0.cell? ⟨w.heap.size, 0, none⟩ = some (.string gname) := by rw [cell_of_block hbx 0]; simp
        have x1 : w0.cell? ⟨w.heap.size, 1, none⟩ = some (.slice gaa gacts.length gac) := by rw [cell_of_block hbx 1]; simp
        have x2 : w0.cell? ⟨w.heap.size, 2, none⟩ = some (.slice gea gedges.length gec) := by rw [cell_of_block hbx 2]; simp
        have x3 : w0.cell? ⟨w.heap.size, 3, none⟩ = some (.slice gia gins.length gic) := by rw [cell_of_block hbx 3]; simp
        have x4 : w0.cell? ⟨w.heap.size, 4, none⟩ = some (.slice goa gouts.length goc) := by rw [cell_of_block hbx 4]; simp
        clear hbx
        refine (hr w0 hN0).mono ?_
        rintro e w2 ⟨rfl, k2⟩
        go_wp2_with fail
        go_ret
        exact ⟨rfl, hN0.trans k2⟩
      · by_cases hp1 : p < ((no : Nat) : Int)
        · rw [if_pos (by simpa using ⟨by omega, hp1⟩)]
          cases tk with
          | true =>
            simp only [if_true]
            go_enter Try.func69, Try.ntmps69
            go_wp2_with fail
            have hN0 : New w (w.alloc (.cells #[.string gname, .slice gaa gacts.length gac, .slice gea gedges.length gec, .slice gia gins.length gic, .slice goa gouts.length goc] 63)) := (New.refl w).alloc _
            have hbx : (w.alloc (.cells #[.string gname, .slice gaa gacts.length gac, .slice gea gedges.length gec, .slice gia gins.length gic, .slice goa gouts.length goc] 63)).heap[w.heap.size]? = some (.cells #[.string gname, .slice gaa gacts.length gac, .slice gea gedges.length gec, .slice gia gins.length gic, .slice goa gouts.length goc] 63 (0, 0)) := heap_alloc_new w _
            generalize (w.alloc (.cells #[.string gname, .slice gaa gacts.length gac, .slice gea gedges.length gec, .slice gia gins.length gic, .slice goa gouts.length goc] 63)) = w0 at hN0 hbx ⊢
            have x0 : w0.cell? ⟨w.heap.size, 0, none⟩ = some (.string gname) := by rw [cell_of_block hbx 0]; simp
            have x1 : w0.cell? ⟨w.heap.size, 1, none⟩ = some (.slice gaa gacts.length gac) := by rw [cell_of_block hbx 1]; simp
            have x2 : w0.cell? ⟨w.heap.size, 2, none⟩ = some (.slice gea gedges.length gec) := by rw [cell_of_block hbx 2]; simp
            have x3 : w0.cell? ⟨w.heap.size, 3, none⟩ = some (.slice gia gins.length gic) := by rw [cell_of_block hbx 3]; simp
            have x4 : w0.cell? ⟨w.heap.size, 4, none⟩ = some (.slice goa gouts.length goc) := by rw [cell_of_block hbx 4]; simp
            clear hbx
            refine (hr w0 hN0).mono ?_
            rintro e w2 ⟨rfl, k2⟩
            go_wp2_with fail
            go_ret
            exact ⟨rfl, hN0.trans k2⟩
          | false =>
            simp only [Bool.false_eq_true, if_false]
            go_enter Try.func69, Try.ntmps69
            go_wp2_with fail
            have hN0 : New w (w.alloc (.cells #[.string gname, .slice gaa gacts.length gac, .slice gea gedges.length gec, .slice gia gins.length gic, .slice goa gouts.length goc] 63)) := (New.refl w).alloc _
            have hbx : (w.alloc (.cells #[.string gname, .slice gaa gacts.length gac, .slice gea gedges.length gec, .slice gia gins.length gic, .slice goa gouts.length goc] 63)).heap[w.heap.size]? = some (.cells #[.string gname, .slice gaa gacts.length gac, .slice gea gedges.length gec, .slice gia gins.length gic, .slice goa gouts.length goc] 63 (0, 0)) := heap_alloc_new w _
            generalize (w.alloc (.cells #[.string gname, .slice gaa gacts.length gac, .slice gea gedges.length gec, .slice gia gins.length gic, .slice goa gouts.length goc] 63)) = w0 at hN0 hbx ⊢
            have x0 : w0.cell? ⟨w.heap.size, 0, none⟩ = some (.string gname) := by rw [cell_of_block hbx 0]; simp
            have x1 : w0.cell? ⟨w.heap.size, 1, none⟩ = some (.slice gaa gacts.length gac) := by rw [cell_of_block hbx 1]; simp
            have x2 : w0.cell? ⟨w.heap.size, 2, none⟩ = some (.slice gea gedges.length gec) := by rw [cell_of_block hbx 2]; simp
            have x3 : w0.cell? ⟨w.heap.size, 3, none⟩ = some (.slice gia gins.length gic) := by rw [cell_of_block hbx 3]; simp
            have x4 : w0.cell? ⟨w.heap.size, 4, none⟩ = some (.slice goa gouts.length goc) := by rw [cell_of_block hbx 4]; simp
            clear hbx
            refine (hr w0 hN0).mono ?_
            rintro e w2 ⟨rfl, k2⟩
            go_wp2_with fail
            go_ret
            exact ⟨rfl, hN0.trans k2⟩
        · rw [if_neg (by simp; omega)]
          go_enter Try.func69, Try.ntmps69
          go_wp2_with fail
          have hN0 : New w (w.alloc (.cells #[.string gname, .slice gaa gacts.length gac, .slice gea gedges.length gec, .slice gia gins.length gic, .slice goa gouts.length goc] 63)) := (New.refl w).alloc _
          have hbx : (w.alloc (.cells #[.string gname, .slice gaa gacts.length gac, .slice gea gedges.length gec, .slice gia gins.length gic, .slice goa gouts.length goc] 63)).heap[w.heap.size]? = some (.cells #[.string gname, .slice gaa gacts.length gac, .slice gea gedges.length gec, .slice gia gins.length gic, .slice goa gouts.length goc] 63 (0, 0)) := heap_alloc_new w _
          generalize (w.alloc (.cells #[.string gname, .slice gaa gacts.length gac, .slice gea gedges.length gec, .slice gia gins.length gic, .slice goa gouts.length goc] 63)) = w0 at hN0 hbx ⊢
          have x0 : w0.cell? ⟨w.heap.size, 0, none⟩ = some (.string gname) := by rw [cell_of_block hbx 0]; simp
          have x1 : w0.cell? ⟨w.heap.size, 1, none⟩ = some (.slice gaa gacts.length gac) := by rw [cell_of_block hbx 1]; simp
          have x2 : w0.cell? ⟨w.heap.size, 2, none⟩ = some (.slice gea gedges.length gec) := by rw [cell_of_block hbx 2]; simp
          have x3 : w0.cell? ⟨w.heap.size, 3, none⟩ = some (.slice gia gins.length gic) := by rw [cell_of_block hbx 3]; simp
          have x4 : w0.cell? ⟨w.heap.size, 4, none⟩ = some (.slice goa gouts.length goc) := by rw [cell_of_block hbx 4]; simp
          clear hbx
          refine (hr w0 hN0).mono ?_
          rintro e w2 ⟨rfl, k2⟩
          go_wp2_with fail
          go_ret
          exact ⟨rfl, hN0.trans k2⟩
    | false =>
      by_cases hp0 : p < 0
      · rw [if_neg (by omega)]
        go_enter Try.func69, Try.ntmps69
        go_wp2_with fail
        have hN0 : New w (w.alloc (.cells #[.string gname, .slice gaa gacts.length gac, .slice gea gedges.length gec, .slice gia gins.length gic, .slice goa gouts.length goc] 63)) := (New.refl w).alloc _
        have hbx : (w.alloc (.cells #[.string gname, .slice gaa gacts.length gac, .slice gea gedges.length gec, .slice gia gins.length gic, .slice goa gouts.length goc] 63)).heap[w.heap.size]? = some (.cells #[.string gname, .slice gaa gacts.length gac, .slice gea gedges.length gec, .slice gia gins.length gic, .slice goa gouts.length goc] 63 (0, 0)) := heap_alloc_new w _
        generalize (w.alloc (.cells #[.string gname, .slice gaa gacts.length gac, .slice gea gedges.length gec, .slice gia gins.length gic, .slice goa gouts.length goc] 63)) = w0 at hN0 hbx ⊢
        have x0 : w0.cell? ⟨w.heap.size, 0, none⟩ = some (.string gname) := by rw [cell_of_block hbx 0]; simp
        have x1 : w0.cell? ⟨w.heap.size, 1, none⟩ = some (.slice gaa gacts.length gac) := by rw [cell_of_block hbx 1]; simp
        have x2 : w0.cell? ⟨w.heap.size, 2, none⟩ = some (.slice gea gedges.length gec) := by rw [cell_of_block hbx 2]; simp
        have x3 : w0.cell? ⟨w.heap.size, 3, none⟩ = some (.slice gia gins.length gic) := by rw [cell_of_block hbx 3]; simp
        have x4 : w0.cell? ⟨w.heap.size, 4, none⟩ = some (.slice goa gouts.length goc) := by rw [cell_of_block hbx 4]; simp
        clear hbx
        refine (hr w0 hN0).mono ?_
        rintro e w2 ⟨rfl, k2⟩
        go_wp2_with fail
        go_ret
        exact ⟨rfl, hN0.trans k2⟩
      · by_cases hp1 : p < ((ni : Nat) : Int)
        · rw [if_pos (by simpa using ⟨by omega, hp1⟩)]
          cases tk with
          | true =>
            simp only [if_true]
            go_enter Try.func69, Try.ntmps69
            go_wp2_with fail
            have hN0 : New w (w.alloc (.cells #[.string gname, .slice gaa gacts.length gac, .slice gea gedges.length gec, .slice gia gins.length gic, .slice goa gouts.length goc] 63)) := (New.refl w).alloc _
            have hbx : (w.alloc (.cells #[.string gname, .slice gaa gacts.length gac, .slice gea gedges.length gec, .slice gia gins.length gic, .slice goa gouts.length goc] 63)).heap[w.heap.size]? = some (.cells #[.string gname, .slice gaa gacts.length gac, .slice gea gedges.length gec, .slice gia gins.length gic, .slice goa gouts.length goc] 63 (0, 0)) := heap_alloc_new w _
            generalize (w.alloc (.cells #[.string gname, .slice gaa gacts.length gac, .slice gea gedges.length gec, .slice gia gins.length gic, .slice goa gouts.length goc] 63)) = w0 at hN0 hbx ⊢
            have x0 : w0.cell? ⟨w.heap.size, 0, none⟩ = some (.string gname) := by rw [cell_of_block hbx 0]; simp
            have x1 : w0.cell? ⟨w.heap.size, 1, none⟩ = some (.slice gaa gacts.length gac) := by rw [cell_of_block hbx 1]; simp
            have x2 : w0.cell? ⟨w.heap.size, 2, none⟩ = some (.slice gea gedges.length gec) := by rw [cell_of_block hbx 2]; simp
            have x3 : w0.cell? ⟨w.heap.size, 3, none⟩ = some (.slice gia gins.length gic) := by rw [cell_of_block hbx 3]; simp
            have x4 : w0.cell? ⟨w.heap.size, 4, none⟩ = some (.slice goa gouts.length goc) := by rw [cell_of_block hbx 4]; simp
            clear hbx
            refine (hr w0 hN0).mono ?_
            rintro e w2 ⟨rfl, k2⟩
            go_wp2_with fail
            go_ret
            exact ⟨rfl, hN0.trans k2⟩
          | false =>
            simp only [Bool.false_eq_true, if_false]
            go_enter Try.func69, Try.ntmps69
            go_wp2_with fail
            have hN0 : New w (w.alloc (.cells #[.string gname, .slice gaa gacts.length gac, .slice gea gedges.length gec, .slice gia gins.length gic, .slice goa gouts.length goc] 63)) := (New.refl w).alloc _
            have hbx : (w.alloc (.cells #[.string gname, .slice gaa gacts.length gac, .slice gea gedges.length gec, .slice gia gins.length gic, .slice goa gouts.length goc] 63)).heap[w.heap.size]? = some (.cells #[.string gname, .slice gaa gacts.length gac, .slice gea gedges.length gec, .slice gia gins.length gic, .slice goa gouts.length goc] 63 (0, 0)) := heap_alloc_new w _
            generalize (w.alloc (.cells #[.string gname, .slice gaa gacts.length gac, .slice gea gedges.length gec, .slice gia gins.length gic, .slice goa gouts.length goc] 63)) = w0 at hN0 hbx ⊢
            have x0 : w0.cell? ⟨w.heap.size, 0, none⟩ = some (.string gname) := by rw [cell_of_block hbx 0]; simp
            have x1 : w0.cell? ⟨w.heap.size, 1, none⟩ = some (.slice gaa gacts.length gac) := by rw [cell_of_block hbx 1]; simp
            have x2 : w0.cell? ⟨w.heap.size, 2, none⟩ = some (.slice gea gedges.length gec) := by rw [cell_of_block hbx 2]; simp
            have x3 : w0.cell? ⟨w.heap.size, 3, none⟩ = some (.slice gia gins.length gic) := by rw [cell_of_block hbx 3]; simp
            have x4 : w0.cell? ⟨w.heap.size, 4, none⟩ = some (.slice goa gouts.length goc) := by rw [cell_of_block hbx 4]; simp
            clear hbx
            refine (hr w0 hN0).mono ?_
            rintro e w2 ⟨rfl, k2⟩
            go_wp2_with fail
            go_ret
            exact ⟨rfl, hN0.trans k2⟩
        · rw [if_neg (by simp; omega)]
          go_enter Try.func69, Try.ntmps69
          go_wp2_with fail
          have hN0 : New w (w.alloc (.cells #[.string gname, .slice gaa gacts.length gac, .slice gea gedges.length gec, .slice gia gins.length gic, .slice goa gouts.length goc] 63)) := (New.refl w).alloc _
          have hbx : (w.alloc (.cells #[.string gname, .slice gaa gacts.length gac, .slice gea gedges.length gec, .slice gia gins.length gic, .slice goa gouts.length goc] 63)).heap[w.heap.size]? = some (.cells #[.string gname, .slice gaa gacts.length gac, .slice gea gedges.length gec, .slice gia gins.length gic, .slice goa gouts.length goc] 63 (0, 0)) := heap_alloc_new w _
          generalize (w.alloc (.cells #[.string gname, .slice gaa gacts.length gac, .slice gea gedges.length gec, .slice gia gins.length gic, .slice goa gouts.length goc] 63)) = w0 at hN0 hbx ⊢
          have x0 : w0.cell? ⟨w.heap.size, 0, none⟩ = some (.string gname) := by rw [cell_of_block hbx 0]; simp
          have x1 : w0.cell? ⟨w.heap.size, 1, none⟩ = some (.slice gaa gacts.length gac) := by rw [cell_of_block hbx 1]; simp
          have x2 : w0.cell? ⟨w.heap.size, 2, none⟩ = some (.slice gea gedges.length gec) := by rw [cell_of_block hbx 2]; simp
          have x3 : w0.cell? ⟨w.heap.size, 3, none⟩ = some (.slice gia gins.length gic) := by rw [cell_of_block hbx 3]; simp
          have x4 : w0.cell? ⟨w.heap.size, 4, none⟩ = some (.slice goa gouts.length goc) := by rw [cell_of_block hbx 4]; simp
          clear hbx
          refine (hr w0 hN0).mono ?_
          rintro e w2 ⟨rfl, k2⟩
          go_wp2_with fail
          go_ret
          exact ⟨rfl, hN0.trans k2⟩
  · have he : endE g (fun x => if out then nOut x else nIn x) tk a p = 84 := by unfold endE; rw [dif_neg h]
    rw [he]
    clear he hg hl
    obtain ⟨gname, gaa, gac, gacts, gea, gec, gedges, gia, gic, gins, goa, goc, gouts⟩ := g
    simp only at *
    simp only [Gr.v, Gr.cs]
    by_cases h1 : a < 0
    · skip
      go_enter Try.func69, Try.ntmps69
      go_wp2_with fail
      go_ret
      exact ⟨rfl, (New.refl w).alloc _⟩
    · have h2 : (gacts.length : Int) ≤ a := by omega
      go_enter Try.func69, Try.ntmps69
      go_wp2_with fail
      go_ret
      exact ⟨rfl, (New.refl w).alloc _⟩
end Go.Proofs.Ytijlgcbnoekmeaa
