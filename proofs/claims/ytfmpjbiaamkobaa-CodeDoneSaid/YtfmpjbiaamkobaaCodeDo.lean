/-
  Layer 20: the law's own machine of CodeDone, walked.
-/
import Derived.Test.YtfmpjbiaamkobaaCodeDn
import Derived.Deep.OwnRows
import Derived.BigRegion
import Derived.StillTailTactics
namespace Go.Proofs.Ytfmpjbiaamkobaa
open Go Go.RowKit Go.Joins
set_option linter.all false

theorem Is_set (cs : List Int) (a : Nat) (v : Int) : Is (cs.set a v) = (Is cs).set a (I v) := by simp [List.map_set]
theorem Is_get {cs : List Int} {a : Nat} (h : a < cs.length) : (Is cs)[a]? = some (I (cs.getD a 0)) := by
  rw [List.getD_eq_getElem?_getD, List.getElem?_eq_getElem h]; simp [h]

set_option maxRecDepth 100000 in
set_option maxHeartbeats 8000000 in
theorem done_good (w : World) (p0 : Pg) (hp0 : PgAt w p0) (hl0 : Lens p0) (h0 : (stepsR p0).2 = 0)
    (HAW : ∀ W, Calls Try.prog 16 #[] W fun e w' => e = .returned (.bool true) ∧ New W w') :
    Calls Try.prog 10 #[p0.v] w fun e w' => e = .returned (.bool true) ∧ New w w' := by
  have ka : New w (w.alloc (.cells p0.cs 26)) := Keeps.alloc _ _
  have h2 := fun W k => csteps_any W p0 (hp0.new k) hl0
  obtain ⟨hn1, hn2, hrun⟩ := runs_of h0
  rw [h0] at h2
  obtain ⟨n, hn⟩ : ∃ n : Nat, (stepsR p0).1 = n := ⟨(stepsR p0).1.toNat, by omega⟩
  rw [hn] at h2 hn1 hn2 hrun
  rw [Int.toNat_natCast] at hrun
  obtain ⟨_, ⟨c0, c1⟩, _, _, _, _, no, _⟩ := stepsR_all h0
  have hpo := hp0.po
  clear h0 hl0 hp0 hn
  obtain ⟨pmem, pctr, pins, pouts, ppa, ppc, pparts, pla, plc, plines, poa, poc, pops⟩ := p0
  simp only at *
  obtain ⟨c, rfl⟩ := Int.eq_ofNat_of_zero_le c0
  rw [Int.toNat_natCast] at hrun
  have HR := Lib.hid hrun
  clear c0 hrun
  simp only [Pg.v, Pg.cs] at h2 ka ⊢
  have hmk := run_make_row' (P := Try.prog) 43 3 (.int .i64 0) 8 Try.underlying43 Try.infoInt rfl .i64 .i64 c (by omega) (by omega)
  go_enter Try.func10, Try.ntmps10
  go_wp2_with fail
  refine (h2 _ ka).mono ?_
  rintro e w1 ⟨rfl, n1⟩
  have x0 := n1.cell (p := ⟨w.heap.size, 0, none⟩) (v := I pmem) (by simp)
  have x1 := n1.cell (p := ⟨w.heap.size, 1, none⟩) (v := I (c : Int)) (by simp)
  have x2 := n1.cell (p := ⟨w.heap.size, 2, none⟩) (v := I pins) (by simp)
  have x3 := n1.cell (p := ⟨w.heap.size, 3, none⟩) (v := I pouts) (by simp)
  have x4 := n1.cell (p := ⟨w.heap.size, 4, none⟩) (v := .slice ppa pparts.length ppc) (by simp)
  have x5 := n1.cell (p := ⟨w.heap.size, 5, none⟩) (v := .slice pla plines.length plc) (by simp)
  have x6 := n1.cell (p := ⟨w.heap.size, 6, none⟩) (v := .slice poa pops.length poc) (by simp)
  have hN1 := ka.trans n1
  have hsz1 : w.heap.size < w1.heap.size := World.block_lt_of_cell? w1 _ x1
  clear h2 n1 ka x0 x2 x3 x4 x5
  have d1 : decide ((n : Int) < 1) = false := decide_eq_false (by omega)
  have d2 : decide (131072 < (n : Int)) = false := decide_eq_false (by omega)
  go_wp2
  have k2 : New w1 (w1.alloc (.cells (madeCells #[.int .i64 0] c) 3)) := (New.refl w1).alloc _
  have hrow : (w1.alloc (.cells (madeCells #[.int .i64 0] c) 3)).ownsRow w1.heap.size 3 1 (.slice (some ⟨w1.heap.size, 0, none⟩) c c) c (Is (List.replicate c 0)) :=
    ⟨by simp, .inr ⟨w1.heap.size, c, _, rfl, Nat.le_refl _, heap_alloc_new w1 _, Nat.le_refl _, by unfold maxLen; omega, by rw [← Array.length_toList, toList_madeCells_one]; simp, by rw [toList_madeCells_one]; simp⟩⟩
  replace x1 := k2.cell x1
  replace x6 := k2.cell x6
  have hN2 := hN1.trans k2
  obtain ⟨C, hC⟩ : ∃ C, C = w1.heap.size := ⟨_, rfl⟩
  rw [← hC] at hrow ⊢
  have hCw : w.heap.size < C := by omega
  clear hmk hN1 d1 d2 k2
  generalize (w1.alloc (.cells (madeCells #[.int .i64 0] c) 3)) = w2 at hrow hN2 x1 x6 ⊢
  clear hsz1 hC w1
  go_loopw [6, 7] (fun i d wr => ∃ (k at_ : Nat) (cs : List Int), k < n ∧ d = .int .i64 ((k : Int) + 1) ∧ i = .int .i64 at_ ∧ Hid (Runs pops (n - k) at_ cs) ∧ cs.length = c ∧ wr.ownsRow C 3 1 (.slice (some ⟨C, 0, none⟩) c c) c (Is cs) ∧ Keeps (fun x => x = C) w2 wr) (fun _ d _ => n + 1 - (intOf d).toNat)
  case atStart => exact ⟨0, 0, List.replicate c 0, by omega, rfl, rfl, HR, by simp, hrow, Keeps.refl _ _⟩
  case round =>
    clear hrow HR
    obtain ⟨k, at_, cs, hk, rfl, rfl, hrun, hcl, hown, hkp⟩ := hrel
    have y6 := hkp.cell x6 (by show w.heap.size ≠ C; omega)
    have hNw := hN2.keeps hkp (fun i hi e => by omega)
    have hCr : C < wr.heap.size := own_of_blk hown ⟨_, rfl, rfl⟩ |>.2
    obtain ⟨m, hm⟩ : ∃ m, n - k = m := ⟨_, rfl⟩
    have hrun := hrun.out
    rw [hm] at hrun
    have hoa : ∀ hi : at_ < pops.length, pops[at_] = opAt pops at_ := fun hi => by unfold opAt; simp [hi]
    have OPS : ∀ hi : at_ < pops.length, ∃ b off, poa = some ⟨b, off, none⟩ ∧ wr.cell? ⟨b, off + at_ * 3, none⟩ = some (.int .u8 (opAt pops at_).kind) ∧ wr.cell? ⟨b, off + at_ * 3 + 1, none⟩ = some (I (opAt pops at_).a) ∧ wr.cell? ⟨b, off + at_ * 3 + 2, none⟩ = some (I (opAt pops at_).b) := by
      intro hi
      obtain ⟨b, off, h1, q0, q1, q2⟩ := ops_at (hpo.new hNw) hi
      rw [hoa hi] at q0 q1 q2
      exact ⟨b, off, h1, q0, q1, q2⟩
    have hOPS := Lib.hid OPS
    clear OPS hoa
    have hsz : w.heap.size < wr.heap.size := by omega
    cases hrun with
    | fin _ _ hi hkd =>
      obtain ⟨b, off, rfl, q0, q1, q2⟩ := hOPS.out hi
      rw [hkd] at q0
      have e1 : ((k : Int) + 1 == (n : Int)) = true := by simp; omega
      generalize opAt pops at_ = o at q1 q2
      clear hkd hm hown
      go_wp2_with fail
      refine (HAW _).mono ?_
      rintro e w9 ⟨rfl, n9⟩
      go_wp2_with fail
      go_ret
      exact ⟨rfl, (hNw.alloc _).trans n9⟩
    | @cons m' _ j _ ds hst hrest =>
      have hk2 : k + 1 < n := by have := hrest.pos; omega
      have hm2 : n - (k + 1) = m' := by omega
      have HN2 := Lib.hid hm2
      have HRE := Lib.hid hrest
      clear hm2 hrest hm hk
      cases hst with
      | head a b hi ho ha hc hb hb2 =>
        obtain ⟨ob, off, rfl, q0, q1, q2⟩ := hOPS.out hi
        rw [ho] at q0 q1 q2
        have hcell : wr.cell? ⟨C, a, none⟩ = some (I 0) := by rw [hown.cellAt a (by omega), Is_get ha, hc]
        have hfz := hown.frozenAt a
        have hst := hown.stored a (I b)
        have HST := Lib.hid hst
        have HO := Lib.hid hOPS
        have HHO := Lib.hid ho
        have hac : (a : Int) < (c : Int) := by omega
        have ha0 : (0 : Int) ≤ (a : Int) := by omega
        clear hst hc hown hOPS ho
        go_wp2_with fail
        go_roundw
        case rel =>
          refine ⟨k + 1, at_ + 1, cs.set a b, hk2, by go_num, by go_num, Lib.hid (by rw [HN2.out]; exact HRE.out), by simpa using hcl, by rw [Is_set]; exact HST.out.1.alloc _, ?_⟩
          exact (hkp.trans (Keeps.setCell (S := fun x => x = C) _ ⟨C, a, none⟩ _ rfl) (fun _ _ h => h)).trans (Keeps.alloc _ _) (fun _ _ h => h)
        case measure => simp [intOf]; omega
      | fall a b hi ho ha hc =>
        obtain ⟨ob, off, rfl, q0, q1, q2⟩ := hOPS.out hi
        rw [ho] at q0 q1 q2
        have hcell : wr.cell? ⟨C, a, none⟩ = some (I 1) := by rw [hown.cellAt a (by omega), Is_get ha, hc]
        have hfz := hown.frozenAt a
        have hac : (a : Int) < (c : Int) := by omega
        have ha0 : (0 : Int) ≤ (a : Int) := by omega
        have hst := hown.stored a (I 0)
        have HOPB := Lib.hid ho
        clear hc ho
        go_wp2_with fail
        have o1 : (wr.alloc (.cells #[.int .u8 2, I (a : Int), I b] 53)).cell? ⟨wr.heap.size, 1, none⟩ = some (I (a : Int)) := by rw [cell_of_block (heap_alloc_new wr _) 1]; simp
        have o2 : (wr.alloc (.cells #[.int .u8 2, I (a : Int), I b] 53)).cell? ⟨wr.heap.size, 2, none⟩ = some (I b) := by rw [cell_of_block (heap_alloc_new wr _) 2]; simp
        have cC : (wr.alloc (.cells #[.int .u8 2, I (a : Int), I b] 53)).cell? ⟨C, a, none⟩ = some (I 1) := (New.cell ((New.refl wr).alloc _) hcell)
        have fC : (wr.alloc (.cells #[.int .u8 2, I (a : Int), I b] 53)).frozen? ⟨C, a, none⟩ = false := (hown.alloc _).frozenAt a
        have HSB := Lib.hid ((hown.alloc (.cells #[.int .u8 2, I (a : Int), I b] 53)).stored a (I 0)).1
        have HKB : Hid (Keeps (fun x => x = C) w2 (wr.alloc (.cells #[.int .u8 2, I (a : Int), I b] 53))) := Lib.hid (hkp.trans (Keeps.alloc _ _) (fun _ _ h => h))
        obtain ⟨ob2, hob2⟩ : ∃ z, z = wr.heap.size := ⟨_, rfl⟩
        have hzB : ob2 < (wr.alloc (.cells #[.int .u8 2, I (a : Int), I b] 53)).heap.size := by simp; omega
        have hne : ob2 ≠ C := by omega
        rw [← hob2] at o1 o2 ⊢
        clear hst hown hcell hfz q0 q1 q2 hOPS y6 hkp hNw
        generalize (wr.alloc (.cells #[.int .u8 2, I (a : Int), I b] 53)) = wB at o1 o2 cC fC HSB HKB hzB ⊢
        clear hsz hCr hob2
        go_region
        go_wp2
        go_roundw
        case rel => exact ⟨k + 1, at_ + 1, cs.set a 0, hk2, by go_num, by go_num, Lib.hid (by rw [HN2.out]; exact HRE.out), by simpa using hcl, by rw [Is_set]; (first | exact HSB.out | exact New.owns ((New.refl _).drew) HSB.out | exact New.owns ((New.refl _).drewN _) HSB.out), (HKB.out.trans (Keeps.setCell (S := fun x => x = C) _ ⟨C, a, none⟩ _ rfl) (fun _ _ h => h)).trans (by first | exact Keeps.drew _ | exact Keeps.drewN _ _) (fun _ _ h => h)⟩
        case measure => simp [intOf]; omega
      | turn a b v hi ho ha hc hv hv2 hbl =>
        obtain ⟨ob, off, rfl, q0, q1, q2⟩ := hOPS.out hi
        rw [ho] at q0 q1 q2
        have hcell : wr.cell? ⟨C, a, none⟩ = some (I v) := by rw [hown.cellAt a (by omega), Is_get ha, hc]
        have hfz := hown.frozenAt a
        have hac : (a : Int) < (c : Int) := by omega
        have ha0 : (0 : Int) ≤ (a : Int) := by omega
        have hwv : IntKind.i64.wrap (v - 1) = v - 1 := IntWalk.i64_in _ (by omega)
        have hst := hown.stored a (I (v - 1))
        have HOPB := Lib.hid ho
        clear hc ho
        go_wp2_with fail
        have o1 : (wr.alloc (.cells #[.int .u8 2, I (a : Int), I (j : Int)] 53)).cell? ⟨wr.heap.size, 1, none⟩ = some (I (a : Int)) := by rw [cell_of_block (heap_alloc_new wr _) 1]; simp
        have o2 : (wr.alloc (.cells #[.int .u8 2, I (a : Int), I (j : Int)] 53)).cell? ⟨wr.heap.size, 2, none⟩ = some (I (j : Int)) := by rw [cell_of_block (heap_alloc_new wr _) 2]; simp
        have cC : (wr.alloc (.cells #[.int .u8 2, I (a : Int), I (j : Int)] 53)).cell? ⟨C, a, none⟩ = some (I v) := (New.cell ((New.refl wr).alloc _) hcell)
        have fC : (wr.alloc (.cells #[.int .u8 2, I (a : Int), I (j : Int)] 53)).frozen? ⟨C, a, none⟩ = false := (hown.alloc _).frozenAt a
        have HSB := Lib.hid ((hown.alloc (.cells #[.int .u8 2, I (a : Int), I (j : Int)] 53)).stored a (I (v - 1))).1
        have HKB : Hid (Keeps (fun x => x = C) w2 (wr.alloc (.cells #[.int .u8 2, I (a : Int), I (j : Int)] 53))) := Lib.hid (hkp.trans (Keeps.alloc _ _) (fun _ _ h => h))
        obtain ⟨ob2, hob2⟩ : ∃ z, z = wr.heap.size := ⟨_, rfl⟩
        have hzB : ob2 < (wr.alloc (.cells #[.int .u8 2, I (a : Int), I (j : Int)] 53)).heap.size := by simp; omega
        have hne : ob2 ≠ C := by omega
        rw [← hob2] at o1 o2 ⊢
        clear hst hown hcell hfz q0 q1 q2 hOPS y6 hkp hNw
        generalize (wr.alloc (.cells #[.int .u8 2, I (a : Int), I (j : Int)] 53)) = wB at o1 o2 cC fC HSB HKB hzB ⊢
        clear hsz hCr hob2
        go_region
        go_wp2
        go_roundw
        case rel => exact ⟨k + 1, j, cs.set a (v - 1), hk2, by go_num, by go_num, Lib.hid (by rw [HN2.out]; exact HRE.out), by simpa using hcl, by rw [Is_set]; (first | exact HSB.out | exact New.owns ((New.refl _).drew) HSB.out | exact New.owns ((New.refl _).drewN _) HSB.out), (HKB.out.trans (Keeps.setCell (S := fun x => x = C) _ ⟨C, a, none⟩ _ rfl) (fun _ _ h => h)).trans (by first | exact Keeps.drew _ | exact Keeps.drewN _ _) (fun _ _ h => h)⟩
        case measure => simp [intOf]; omega
      | one hi h0 h1 h2 =>
        obtain ⟨ob, off, rfl, q0, q1, q2⟩ := hOPS.out hi
        generalize opAt pops at_ = o at q0 q1 q2 h0 h1 h2
        have e0 : (o.kind == 0) = false := by simpa using h0
        have e1 : (o.kind == 1) = false := by simpa using h1
        have e2 : (o.kind == 2) = false := by simpa using h2
        clear h0 h1 h2 hOPS
        go_wp2_with fail
        go_roundw
        case rel => exact ⟨k + 1, at_ + 1, cs, hk2, by go_num, by go_num, Lib.hid (by rw [HN2.out]; exact HRE.out), hcl, hown.alloc _, hkp.trans (Keeps.alloc _ _) (fun _ _ h => h)⟩
        case measure => simp [intOf]; omega
end Go.Proofs.Ytfmpjbiaamkobaa
