/-
  Layer 8: the checker's head.
-/
import Derived.Test.YtijlgcbnoekmeaaGrK
namespace Go.Proofs.Ytijlgcbnoekmeaa
open Go Go.RowKit Go.Joins
set_option linter.all false

def headG (g : Gr) : Int × Int × Int × Int := if nameB g.name = false then (82, 0, 0, 0) else if g.acts.length = 0 then (80, 0, 0, 0) else manyG g
def spotOf (f : Int × Int × Int × Int) : Value := spotV f.1 f.2.1 f.2.2.1 f.2.2.2
set_option maxRecDepth 100000 in
set_option maxHeartbeats 8000000 in
theorem chead_any (w : World) (C M : Nat) (g : Gr) (ia : Option Addr) (ni ic : Nat) (oa : Option Addr) (no oc : Nat) (h : w.heap[C]? = some (.cells (chkC g M ia ni ic oa no oc) 110 (0, 0))) (hl : GLen g) :
    Calls Try.prog 61 #[.pointer (some ⟨C, 0, none⟩)] w fun e w' => e = .returned (spotOf (headG g)) ∧ New w w' := by
  obtain ⟨⟨c0, c1, c2, c3, c4, _, _, _⟩, _, hCl⟩ := chk_cells h
  have hla := hl.a
  have hle := hl.e
  have hli := hl.i
  have hlo := hl.o
  have HN : ∀ W, Calls Try.prog 73 #[.string g.name] W fun e w' => e = .returned (.bool (nameB g.name)) ∧ New W w' := fun W => cname_any W _ hl.n
  clear hl h
  unfold headG manyG spotOf
  obtain ⟨gname, gaa, gac, gacts, gea, gec, gedges, gia, gic, gins, goa, goc, gouts⟩ := g
  simp only at hla hle hli hlo HN c0 c1 c2 c3 c4 ⊢
  generalize nameB gname = nb at HN ⊢
  cases nb with
  | false =>
    rw [if_pos rfl]
    go_enter Try.func61, Try.ntmps61
    go_wp2_with fail
    have hs0 : (w.alloc (.cells #[.int .u8 0, I 0, I 0] 95)).heap.size = w.heap.size + 1 := size_alloc _ _
    have k0 : New w (w.alloc (.cells #[.int .u8 0, I 0, I 0] 95)) := (New.refl w).alloc _
    have hbx : (w.alloc (.cells #[.int .u8 0, I 0, I 0] 95)).heap[w.heap.size]? = some (.cells #[.int .u8 0, I 0, I 0] 95 (0, 0)) := heap_alloc_new w _
    generalize (w.alloc (.cells #[.int .u8 0, I 0, I 0] 95)) = w0 at k0 hbx hs0 ⊢
    have HB := Lib.hid hbx
    clear hbx
    have k1 : New w0 (w0.alloc (.cells #[.string gname, .slice gaa gacts.length gac, .slice gea gedges.length gec, .slice gia gins.length gic, .slice goa gouts.length goc] 63)) := (New.refl w0).alloc _
    have hby : (w0.alloc (.cells #[.string gname, .slice gaa gacts.length gac, .slice gea gedges.length gec, .slice gia gins.length gic, .slice goa gouts.length goc] 63)).heap[w0.heap.size]? = some (.cells #[.string gname, .slice gaa gacts.length gac, .slice gea gedges.length gec, .slice gia gins.length gic, .slice goa gouts.length goc] 63 (0, 0)) := heap_alloc_new w0 _
    rw [hs0] at hby
    generalize (w0.alloc (.cells #[.string gname, .slice gaa gacts.length gac, .slice gea gedges.length gec, .slice gia gins.length gic, .slice goa gouts.length goc] 63)) = w1 at k1 hby ⊢
    have x0 : w1.cell? ⟨w.heap.size + 1, 0, none⟩ = some (.string gname) := by rw [cell_of_block hby 0]; simp
    have x1 : w1.cell? ⟨w.heap.size + 1, 1, none⟩ = some (.slice gaa gacts.length gac) := by rw [cell_of_block hby 1]; simp
    have x2 : w1.cell? ⟨w.heap.size + 1, 2, none⟩ = some (.slice gea gedges.length gec) := by rw [cell_of_block hby 2]; simp
    have x3 : w1.cell? ⟨w.heap.size + 1, 3, none⟩ = some (.slice gia gins.length gic) := by rw [cell_of_block hby 3]; simp
    have x4 : w1.cell? ⟨w.heap.size + 1, 4, none⟩ = some (.slice goa gouts.length goc) := by rw [cell_of_block hby 4]; simp
    clear hby
    replace HB := Lib.hid (Keeps.heap k1 HB.out (fun h => h))
    replace k0 := k0.trans k1
    clear k1 hs0 c0 c1 c2 c3 c4
    refine (HN w1).mono ?_
    rintro e w2 ⟨rfl, k2⟩
    replace x0 := k2.cell x0
    replace x1 := k2.cell x1
    replace x2 := k2.cell x2
    replace x3 := k2.cell x3
    replace x4 := k2.cell x4
    replace HB := Lib.hid (Keeps.heap k2 HB.out (fun h => h))
    replace k0 := k0.trans k2
    clear k2
    obtain ⟨⟨r0, r1, r2⟩, ⟨f0, f1, f2⟩, hBB⟩ := spot_cells HB.out
    go_wp2_with fail
    exact bodyPost_ret (v := .tuple #[I 82, .agg #[.int .u8 0, I 0, I 0]]) (by simp [results, Try.results61, go_sem, r0, r1, r2, f0, f1, f2, hBB]) rfl ⟨rfl, ((k0.setCell (by simp) _).setCell (by simp) _).setCell (by simp) _⟩
  | true =>
    rw [if_neg (by simp)]
    by_cases h0 : gacts.length = 0
    · rw [if_pos h0]
      have d0 : ((gacts.length : Int) == 0) = true := by simp [h0]
      have d0' : decide ((gacts.length : Int) = 0) = true := by simp [h0]
      have d0'' : decide (gacts.length = 0) = true := by simp [h0]
      clear h0
      go_enter Try.func61, Try.ntmps61
      go_wp2_with fail
      have hs0 : (w.alloc (.cells #[.int .u8 0, I 0, I 0] 95)).heap.size = w.heap.size + 1 := size_alloc _ _
      have k0 : New w (w.alloc (.cells #[.int .u8 0, I 0, I 0] 95)) := (New.refl w).alloc _
      have hbx : (w.alloc (.cells #[.int .u8 0, I 0, I 0] 95)).heap[w.heap.size]? = some (.cells #[.int .u8 0, I 0, I 0] 95 (0, 0)) := heap_alloc_new w _
      generalize (w.alloc (.cells #[.int .u8 0, I 0, I 0] 95)) = w0 at k0 hbx hs0 ⊢
      have HB := Lib.hid hbx
      clear hbx
      have k1 : New w0 (w0.alloc (.cells #[.string gname, .slice gaa gacts.length gac, .slice gea gedges.length gec, .slice gia gins.length gic, .slice goa gouts.length goc] 63)) := (New.refl w0).alloc _
      have hby : (w0.alloc (.cells #[.string gname, .slice gaa gacts.length gac, .slice gea gedges.length gec, .slice gia gins.length gic, .slice goa gouts.length goc] 63)).heap[w0.heap.size]? = some (.cells #[.string gname, .slice gaa gacts.length gac, .slice gea gedges.length gec, .slice gia gins.length gic, .slice goa gouts.length goc] 63 (0, 0)) := heap_alloc_new w0 _
      rw [hs0] at hby
      generalize (w0.alloc (.cells #[.string gname, .slice gaa gacts.length gac, .slice gea gedges.length gec, .slice gia gins.length gic, .slice goa gouts.length goc] 63)) = w1 at k1 hby ⊢
      have x0 : w1.cell? ⟨w.heap.size + 1, 0, none⟩ = some (.string gname) := by rw [cell_of_block hby 0]; simp
      have x1 : w1.cell? ⟨w.heap.size + 1, 1, none⟩ = some (.slice gaa gacts.length gac) := by rw [cell_of_block hby 1]; simp
      have x2 : w1.cell? ⟨w.heap.size + 1, 2, none⟩ = some (.slice gea gedges.length gec) := by rw [cell_of_block hby 2]; simp
      have x3 : w1.cell? ⟨w.heap.size + 1, 3, none⟩ = some (.slice gia gins.length gic) := by rw [cell_of_block hby 3]; simp
      have x4 : w1.cell? ⟨w.heap.size + 1, 4, none⟩ = some (.slice goa gouts.length goc) := by rw [cell_of_block hby 4]; simp
      clear hby
      replace HB := Lib.hid (Keeps.heap k1 HB.out (fun h => h))
      replace k0 := k0.trans k1
      clear k1 hs0 c0 c1 c2 c3 c4
      refine (HN w1).mono ?_
      rintro e w2 ⟨rfl, k2⟩
      replace x0 := k2.cell x0
      replace x1 := k2.cell x1
      replace x2 := k2.cell x2
      replace x3 := k2.cell x3
      replace x4 := k2.cell x4
      replace HB := Lib.hid (Keeps.heap k2 HB.out (fun h => h))
      replace k0 := k0.trans k2
      clear k2
      obtain ⟨⟨r0, r1, r2⟩, ⟨f0, f1, f2⟩, hBB⟩ := spot_cells HB.out
      go_wp2_with fail
      exact bodyPost_ret (v := .tuple #[I 80, .agg #[.int .u8 0, I 0, I 0]]) (by simp [results, Try.results61, go_sem, r0, r1, r2, f0, f1, f2, hBB]) rfl ⟨rfl, ((k0.setCell (by simp) _).setCell (by simp) _).setCell (by simp) _⟩
    · rw [if_neg h0]
      have d0 : ((gacts.length : Int) == 0) = false := by
        rw [beq_eq_false_iff_ne]; omega
      have d0' : decide ((gacts.length : Int) = 0) = false := decide_eq_false (by omega)
      have d0'' : decide (gacts.length = 0) = false := decide_eq_false (by omega)
      clear h0
      by_cases h0 : 32 < gacts.length
      · rw [if_pos h0]
        have d0x : decide ((32 : Int) < (gacts.length : Int)) = true := decide_eq_true (by omega)
        clear h0
        go_enter Try.func61, Try.ntmps61
        go_wp2_with fail
        have hs0 : (w.alloc (.cells #[.int .u8 0, I 0, I 0] 95)).heap.size = w.heap.size + 1 := size_alloc _ _
        have k0 : New w (w.alloc (.cells #[.int .u8 0, I 0, I 0] 95)) := (New.refl w).alloc _
        have hbx : (w.alloc (.cells #[.int .u8 0, I 0, I 0] 95)).heap[w.heap.size]? = some (.cells #[.int .u8 0, I 0, I 0] 95 (0, 0)) := heap_alloc_new w _
        generalize (w.alloc (.cells #[.int .u8 0, I 0, I 0] 95)) = w0 at k0 hbx hs0 ⊢
        have HB := Lib.hid hbx
        clear hbx
        have k1 : New w0 (w0.alloc (.cells #[.string gname, .slice gaa gacts.length gac, .slice gea gedges.length gec, .slice gia gins.length gic, .slice goa gouts.length goc] 63)) := (New.refl w0).alloc _
        have hby : (w0.alloc (.cells #[.string gname, .slice gaa gacts.length gac, .slice gea gedges.length gec, .slice gia gins.length gic, .slice goa gouts.length goc] 63)).heap[w0.heap.size]? = some (.cells #[.string gname, .slice gaa gacts.length gac, .slice gea gedges.length gec, .slice gia gins.length gic, .slice goa gouts.length goc] 63 (0, 0)) := heap_alloc_new w0 _
        rw [hs0] at hby
        generalize (w0.alloc (.cells #[.string gname, .slice gaa gacts.length gac, .slice gea gedges.length gec, .slice gia gins.length gic, .slice goa gouts.length goc] 63)) = w1 at k1 hby ⊢
        have x0 : w1.cell? ⟨w.heap.size + 1, 0, none⟩ = some (.string gname) := by rw [cell_of_block hby 0]; simp
        have x1 : w1.cell? ⟨w.heap.size + 1, 1, none⟩ = some (.slice gaa gacts.length gac) := by rw [cell_of_block hby 1]; simp
        have x2 : w1.cell? ⟨w.heap.size + 1, 2, none⟩ = some (.slice gea gedges.length gec) := by rw [cell_of_block hby 2]; simp
        have x3 : w1.cell? ⟨w.heap.size + 1, 3, none⟩ = some (.slice gia gins.length gic) := by rw [cell_of_block hby 3]; simp
        have x4 : w1.cell? ⟨w.heap.size + 1, 4, none⟩ = some (.slice goa gouts.length goc) := by rw [cell_of_block hby 4]; simp
        clear hby
        replace HB := Lib.hid (Keeps.heap k1 HB.out (fun h => h))
        replace k0 := k0.trans k1
        clear k1 hs0 c0 c1 c2 c3 c4
        refine (HN w1).mono ?_
        rintro e w2 ⟨rfl, k2⟩
        replace x0 := k2.cell x0
        replace x1 := k2.cell x1
        replace x2 := k2.cell x2
        replace x3 := k2.cell x3
        replace x4 := k2.cell x4
        replace HB := Lib.hid (Keeps.heap k2 HB.out (fun h => h))
        replace k0 := k0.trans k2
        clear k2
        obtain ⟨⟨r0, r1, r2⟩, ⟨f0, f1, f2⟩, hBB⟩ := spot_cells HB.out
        go_wp2_with fail
        exact bodyPost_ret (v := .tuple #[I 81, .agg #[.int .u8 1, I 32, I 0]]) (by simp [results, Try.results61, go_sem, r0, r1, r2, f0, f1, f2, hBB]) rfl ⟨rfl, ((k0.setCell (by simp) _).setCell (by simp) _).setCell (by simp) _⟩
      · rw [if_neg h0]
        by_cases h1 : 96 < gedges.length
        · rw [if_pos h1]
          have d0x : decide ((32 : Int) < (gacts.length : Int)) = false := decide_eq_false (by omega)
          have d1x : decide ((96 : Int) < (gedges.length : Int)) = true := decide_eq_true (by omega)
          clear h0 h1
          go_enter Try.func61, Try.ntmps61
          go_wp2_with fail
          have hs0 : (w.alloc (.cells #[.int .u8 0, I 0, I 0] 95)).heap.size = w.heap.size + 1 := size_alloc _ _
          have k0 : New w (w.alloc (.cells #[.int .u8 0, I 0, I 0] 95)) := (New.refl w).alloc _
          have hbx : (w.alloc (.cells #[.int .u8 0, I 0, I 0] 95)).heap[w.heap.size]? = some (.cells #[.int .u8 0, I 0, I 0] 95 (0, 0)) := heap_alloc_new w _
          generalize (w.alloc (.cells #[.int .u8 0, I 0, I 0] 95)) = w0 at k0 hbx hs0 ⊢
          have HB := Lib.hid hbx
          clear hbx
          have k1 : New w0 (w0.alloc (.cells #[.string gname, .slice gaa gacts.length gac, .slice gea gedges.length gec, .slice gia gins.length gic, .slice goa gouts.length goc] 63)) := (New.refl w0).alloc _
          have hby : (w0.alloc (.cells #[.string gname, .slice gaa gacts.length gac, .slice gea gedges.length gec, .slice gia gins.length gic, .slice goa gouts.length goc] 63)).heap[w0.heap.size]? = some (.cells #[.string gname, .slice gaa gacts.length gac, .slice gea gedges.length gec, .slice gia gins.length gic, .slice goa gouts.length goc] 63 (0, 0)) := heap_alloc_new w0 _
          rw [hs0] at hby
          generalize (w0.alloc (.cells #[.string gname, .slice gaa gacts.length gac, .slice gea gedges.length gec, .slice gia gins.length gic, .slice goa gouts.length goc] 63)) = w1 at k1 hby ⊢
          have x0 : w1.cell? ⟨w.heap.size + 1, 0, none⟩ = some (.string gname) := by rw [cell_of_block hby 0]; simp
          have x1 : w1.cell? ⟨w.heap.size + 1, 1, none⟩ = some (.slice gaa gacts.length gac) := by rw [cell_of_block hby 1]; simp
          have x2 : w1.cell? ⟨w.heap.size + 1, 2, none⟩ = some (.slice gea gedges.length gec) := by rw [cell_of_block hby 2]; simp
          have x3 : w1.cell? ⟨w.heap.size + 1, 3, none⟩ = some (.slice gia gins.length gic) := by rw [cell_of_block hby 3]; simp
          have x4 : w1.cell? ⟨w.heap.size + 1, 4, none⟩ = some (.slice goa gouts.length goc) := by rw [cell_of_block hby 4]; simp
          clear hby
          replace HB := Lib.hid (Keeps.heap k1 HB.out (fun h => h))
          replace k0 := k0.trans k1
          clear k1 hs0 c0 c1 c2 c3 c4
          refine (HN w1).mono ?_
          rintro e w2 ⟨rfl, k2⟩
          replace x0 := k2.cell x0
          replace x1 := k2.cell x1
          replace x2 := k2.cell x2
          replace x3 := k2.cell x3
          replace x4 := k2.cell x4
          replace HB := Lib.hid (Keeps.heap k2 HB.out (fun h => h))
          replace k0 := k0.trans k2
          clear k2
          obtain ⟨⟨r0, r1, r2⟩, ⟨f0, f1, f2⟩, hBB⟩ := spot_cells HB.out
          go_wp2_with fail
          exact bodyPost_ret (v := .tuple #[I 81, .agg #[.int .u8 2, I 96, I 0]]) (by simp [results, Try.results61, go_sem, r0, r1, r2, f0, f1, f2, hBB]) rfl ⟨rfl, ((k0.setCell (by simp) _).setCell (by simp) _).setCell (by simp) _⟩
        · rw [if_neg h1]
          by_cases h2 : 16 < gins.length
          · rw [if_pos h2]
            have d0x : decide ((32 : Int) < (gacts.length : Int)) = false := decide_eq_false (by omega)
            have d1x : decide ((96 : Int) < (gedges.length : Int)) = false := decide_eq_false (by omega)
            have d2x : decide ((16 : Int) < (gins.length : Int)) = true := decide_eq_true (by omega)
            clear h0 h1 h2
            go_enter Try.func61, Try.ntmps61
            go_wp2_with fail
            have hs0 : (w.alloc (.cells #[.int .u8 0, I 0, I 0] 95)).heap.size = w.heap.size + 1 := size_alloc _ _
            have k0 : New w (w.alloc (.cells #[.int .u8 0, I 0, I 0] 95)) := (New.refl w).alloc _
            have hbx : (w.alloc (.cells #[.int .u8 0, I 0, I 0] 95)).heap[w.heap.size]? = some (.cells #[.int .u8 0, I 0, I 0] 95 (0, 0)) := heap_alloc_new w _
            generalize (w.alloc (.cells #[.int .u8 0, I 0, I 0] 95)) = w0 at k0 hbx hs0 ⊢
            have HB := Lib.hid hbx
            clear hbx
            have k1 : New w0 (w0.alloc (.cells #[.string gname, .slice gaa gacts.length gac, .slice gea gedges.length gec, .slice gia gins.length gic, .slice goa gouts.length goc] 63)) := (New.refl w0).alloc _
            have hby : (w0.alloc (.cells #[.string gname, .slice gaa gacts.length gac, .slice gea gedges.length gec, .slice gia gins.length gic, .slice goa gouts.length goc] 63)).heap[w0.heap.size]? = some (.cells #[.string gname, .slice gaa gacts.length gac, .slice gea gedges.length gec, .slice gia gins.length gic, .slice goa gouts.length goc] 63 (0, 0)) := heap_alloc_new w0 _
            rw [hs0] at hby
            generalize (w0.alloc (.cells #[.string gname, .slice gaa gacts.length gac, .slice gea gedges.length gec, .slice gia gins.length gic, .slice goa gouts.length goc] 63)) = w1 at k1 hby ⊢
            have x0 : w1.cell? ⟨w.heap.size + 1, 0, none⟩ = some (.string gname) := by rw [cell_of_block hby 0]; simp
            have x1 : w1.cell? ⟨w.heap.size + 1, 1, none⟩ = some (.slice gaa gacts.length gac) := by rw [cell_of_block hby 1]; simp
            have x2 : w1.cell? ⟨w.heap.size + 1, 2, none⟩ = some (.slice gea gedges.length gec) := by rw [cell_of_block hby 2]; simp
            have x3 : w1.cell? ⟨w.heap.size + 1, 3, none⟩ = some (.slice gia gins.length gic) := by rw [cell_of_block hby 3]; simp
            have x4 : w1.cell? ⟨w.heap.size + 1, 4, none⟩ = some (.slice goa gouts.length goc) := by rw [cell_of_block hby 4]; simp
            clear hby
            replace HB := Lib.hid (Keeps.heap k1 HB.out (fun h => h))
            replace k0 := k0.trans k1
            clear k1 hs0 c0 c1 c2 c3 c4
            refine (HN w1).mono ?_
            rintro e w2 ⟨rfl, k2⟩
            replace x0 := k2.cell x0
            replace x1 := k2.cell x1
            replace x2 := k2.cell x2
            replace x3 := k2.cell x3
            replace x4 := k2.cell x4
            replace HB := Lib.hid (Keeps.heap k2 HB.out (fun h => h))
            replace k0 := k0.trans k2
            clear k2
            obtain ⟨⟨r0, r1, r2⟩, ⟨f0, f1, f2⟩, hBB⟩ := spot_cells HB.out
            go_wp2_with fail
            exact bodyPost_ret (v := .tuple #[I 81, .agg #[.int .u8 3, I 16, I 0]]) (by simp [results, Try.results61, go_sem, r0, r1, r2, f0, f1, f2, hBB]) rfl ⟨rfl, ((k0.setCell (by simp) _).setCell (by simp) _).setCell (by simp) _⟩
          · rw [if_neg h2]
            by_cases h3 : 16 < gouts.length
            · rw [if_pos h3]
              have d0x : decide ((32 : Int) < (gacts.length : Int)) = false := decide_eq_false (by omega)
              have d1x : decide ((96 : Int) < (gedges.length : Int)) = false := decide_eq_false (by omega)
              have d2x : decide ((16 : Int) < (gins.length : Int)) = false := decide_eq_false (by omega)
              have d3x : decide ((16 : Int) < (gouts.length : Int)) = true := decide_eq_true (by omega)
              clear h0 h1 h2 h3
              go_enter Try.func61, Try.ntmps61
              go_wp2_with fail
              have hs0 : (w.alloc (.cells #[.int .u8 0, I 0, I 0] 95)).heap.size = w.heap.size + 1 := size_alloc _ _
              have k0 : New w (w.alloc (.cells #[.int .u8 0, I 0, I 0] 95)) := (New.refl w).alloc _
              have hbx : (w.alloc (.cells #[.int .u8 0, I 0, I 0] 95)).heap[w.heap.size]? = some (.cells #[.int .u8 0, I 0, I 0] 95 (0, 0)) := heap_alloc_new w _
              generalize (w.alloc (.cells #[.int .u8 0, I 0, I 0] 95)) = w0 at k0 hbx hs0 ⊢
              have HB := Lib.hid hbx
              clear hbx
              have k1 : New w0 (w0.alloc (.cells #[.string gname, .slice gaa gacts.length gac, .slice gea gedges.length gec, .slice gia gins.length gic, .slice goa gouts.length goc] 63)) := (New.refl w0).alloc _
              have hby : (w0.alloc (.cells #[.string gname, .slice gaa gacts.length gac, .slice gea gedges.length gec, .slice gia gins.length gic, .slice goa gouts.length goc] 63)).heap[w0.heap.size]? = some (.cells #[.string gname, .slice gaa gacts.length gac, .slice gea gedges.length gec, .slice gia gins.length gic, .slice goa gouts.length goc] 63 (0, 0)) := heap_alloc_new w0 _
              rw [hs0] at hby
              generalize (w0.alloc (.cells #[.string gname, .slice gaa gacts.length gac, .slice gea gedges.length gec, .slice gia gins.length gic, .slice goa gouts.length goc] 63)) = w1 at k1 hby ⊢
              have x0 : w1.cell? ⟨w.heap.size + 1, 0, none⟩ = some (.string gname) := by rw [cell_of_block hby 0]; simp
              have x1 : w1.cell? ⟨w.heap.size + 1, 1, none⟩ = some (.slice gaa gacts.length gac) := by rw [cell_of_block hby 1]; simp
              have x2 : w1.cell? ⟨w.heap.size + 1, 2, none⟩ = some (.slice gea gedges.length gec) := by rw [cell_of_block hby 2]; simp
              have x3 : w1.cell? ⟨w.heap.size + 1, 3, none⟩ = some (.slice gia gins.length gic) := by rw [cell_of_block hby 3]; simp
              have x4 : w1.cell? ⟨w.heap.size + 1, 4, none⟩ = some (.slice goa gouts.length goc) := by rw [cell_of_block hby 4]; simp
              clear hby
              replace HB := Lib.hid (Keeps.heap k1 HB.out (fun h => h))
              replace k0 := k0.trans k1
              clear k1 hs0 c0 c1 c2 c3 c4
              refine (HN w1).mono ?_
              rintro e w2 ⟨rfl, k2⟩
              replace x0 := k2.cell x0
              replace x1 := k2.cell x1
              replace x2 := k2.cell x2
              replace x3 := k2.cell x3
              replace x4 := k2.cell x4
              replace HB := Lib.hid (Keeps.heap k2 HB.out (fun h => h))
              replace k0 := k0.trans k2
              clear k2
              obtain ⟨⟨r0, r1, r2⟩, ⟨f0, f1, f2⟩, hBB⟩ := spot_cells HB.out
              go_wp2_with fail
              exact bodyPost_ret (v := .tuple #[I 81, .agg #[.int .u8 4, I 16, I 0]]) (by simp [results, Try.results61, go_sem, r0, r1, r2, f0, f1, f2, hBB]) rfl ⟨rfl, ((k0.setCell (by simp) _).setCell (by simp) _).setCell (by simp) _⟩
            · rw [if_neg h3]
              have d0x : decide ((32 : Int) < (gacts.length : Int)) = false := decide_eq_false (by omega)
              have d1x : decide ((96 : Int) < (gedges.length : Int)) = false := decide_eq_false (by omega)
              have d2x : decide ((16 : Int) < (gins.length : Int)) = false := decide_eq_false (by omega)
              have d3x : decide ((16 : Int) < (gouts.length : Int)) = false := decide_eq_false (by omega)
              clear h0 h1 h2 h3
              go_enter Try.func61, Try.ntmps61
              go_wp2_with fail
              have hs0 : (w.alloc (.cells #[.int .u8 0, I 0, I 0] 95)).heap.size = w.heap.size + 1 := size_alloc _ _
              have k0 : New w (w.alloc (.cells #[.int .u8 0, I 0, I 0] 95)) := (New.refl w).alloc _
              have hbx : (w.alloc (.cells #[.int .u8 0, I 0, I 0] 95)).heap[w.heap.size]? = some (.cells #[.int .u8 0, I 0, I 0] 95 (0, 0)) := heap_alloc_new w _
              generalize (w.alloc (.cells #[.int .u8 0, I 0, I 0] 95)) = w0 at k0 hbx hs0 ⊢
              have HB := Lib.hid hbx
              clear hbx
              have k1 : New w0 (w0.alloc (.cells #[.string gname, .slice gaa gacts.length gac, .slice gea gedges.length gec, .slice gia gins.length gic, .slice goa gouts.length goc] 63)) := (New.refl w0).alloc _
              have hby : (w0.alloc (.cells #[.string gname, .slice gaa gacts.length gac, .slice gea gedges.length gec, .slice gia gins.length gic, .slice goa gouts.length goc] 63)).heap[w0.heap.size]? = some (.cells #[.string gname, .slice gaa gacts.length gac, .slice gea gedges.length gec, .slice gia gins.length gic, .slice goa gouts.length goc] 63 (0, 0)) := heap_alloc_new w0 _
              rw [hs0] at hby
              generalize (w0.alloc (.cells #[.string gname, .slice gaa gacts.length gac, .slice gea gedges.length gec, .slice gia gins.length gic, .slice goa gouts.length goc] 63)) = w1 at k1 hby ⊢
              have x0 : w1.cell? ⟨w.heap.size + 1, 0, none⟩ = some (.string gname) := by rw [cell_of_block hby 0]; simp
              have x1 : w1.cell? ⟨w.heap.size + 1, 1, none⟩ = some (.slice gaa gacts.length gac) := by rw [cell_of_block hby 1]; simp
              have x2 : w1.cell? ⟨w.heap.size + 1, 2, none⟩ = some (.slice gea gedges.length gec) := by rw [cell_of_block hby 2]; simp
              have x3 : w1.cell? ⟨w.heap.size + 1, 3, none⟩ = some (.slice gia gins.length gic) := by rw [cell_of_block hby 3]; simp
              have x4 : w1.cell? ⟨w.heap.size + 1, 4, none⟩ = some (.slice goa gouts.length goc) := by rw [cell_of_block hby 4]; simp
              clear hby
              replace HB := Lib.hid (Keeps.heap k1 HB.out (fun h => h))
              replace k0 := k0.trans k1
              clear k1 hs0 c0 c1 c2 c3 c4
              refine (HN w1).mono ?_
              rintro e w2 ⟨rfl, k2⟩
              replace x0 := k2.cell x0
              replace x1 := k2.cell x1
              replace x2 := k2.cell x2
              replace x3 := k2.cell x3
              replace x4 := k2.cell x4
              replace HB := Lib.hid (Keeps.heap k2 HB.out (fun h => h))
              replace k0 := k0.trans k2
              clear k2
              obtain ⟨⟨r0, r1, r2⟩, ⟨f0, f1, f2⟩, hBB⟩ := spot_cells HB.out
              go_wp2_with fail
              exact bodyPost_ret (v := .tuple #[I 0, .agg #[.int .u8 0, I 0, I 0]]) (by simp [results, Try.results61, go_sem, r0, r1, r2, f0, f1, f2, hBB]) rfl ⟨rfl, ((k0.setCell (by simp) _).setCell (by simp) _).setCell (by simp) _⟩
end Go.Proofs.Ytijlgcbnoekmeaa
