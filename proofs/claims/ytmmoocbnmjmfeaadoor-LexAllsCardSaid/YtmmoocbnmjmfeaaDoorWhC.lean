/-
  The document's whole numbers: Plus, Times ten.
-/
import Derived.Test.YtmmoocbnmjmfeaaDoorWhB
import Derived.Deep.OwnRows
namespace Go.Proofs.YtmmoocbnmjmfeaaDoor
open Go Go.RowKit Go.Joins
set_option linter.all false

theorem three_new (w : World) (x0 x1 y0 y1 z0 z1 : Value) :
    let X := ((w.alloc (.cells #[x0, x1] 64)).alloc (.cells #[y0, y1] 64)).alloc (.cells #[z0, z1] 64)
    X.heap[w.heap.size]? = some (.cells #[x0, x1] 64 (0, 0)) ∧ X.heap[w.heap.size + 1]? = some (.cells #[y0, y1] 64 (0, 0)) ∧ X.heap[w.heap.size + 2]? = some (.cells #[z0, z1] 64 (0, 0)) ∧ X.heap.size = w.heap.size + 3 := by
  have e1 : (w.alloc (.cells #[x0, x1] 64)).heap.size = w.heap.size + 1 := by simp
  have e2 : ((w.alloc (.cells #[x0, x1] 64)).alloc (.cells #[y0, y1] 64)).heap.size = w.heap.size + 2 := by simp
  have k2 : Keeps (fun _ => False) (w.alloc (.cells #[x0, x1] 64)) ((w.alloc (.cells #[x0, x1] 64)).alloc (.cells #[y0, y1] 64)) := Keeps.alloc _ _
  have k3 : Keeps (fun _ => False) ((w.alloc (.cells #[x0, x1] 64)).alloc (.cells #[y0, y1] 64)) (((w.alloc (.cells #[x0, x1] 64)).alloc (.cells #[y0, y1] 64)).alloc (.cells #[z0, z1] 64)) := Keeps.alloc _ _
  refine ⟨k3.heap (k2.heap (wh_new w _ _) (fun h => h)) (fun h => h), k3.heap ?_ (fun h => h), ?_, by simp⟩
  · have h := wh_new (w.alloc (.cells #[x0, x1] 64)) y0 y1
    rw [e1] at h; exact h
  · have h := wh_new ((w.alloc (.cells #[x0, x1] 64)).alloc (.cells #[y0, y1] 64)) z0 z1
    rw [e2] at h; exact h
set_option maxRecDepth 100000 in
set_option maxHeartbeats 8000000 in
theorem plus_any (w : World) (a b : Option Addr) (c d x y : Nat) (hx : SlAt w a (Is (dgs x))) (hy : SlAt w b (Is (dgs y))) (hxy : x + y < whTop) :
    Calls Tryd.prog 42 #[.agg #[.bool false, .slice a (nd x) c], .agg #[.bool false, .slice b (nd y) d]] w (WhRes w false (x + y)) := by
  obtain ⟨PO, hPO⟩ : ∃ PO, PO = WhRes w false (x + y) := ⟨_, rfl⟩
  rw [← hPO]
  have HPO := Lib.hid hPO
  have hadd := fun W (n : New w W) => add_any W a b c d x y (hx.new n) (hy.new n) hxy
  obtain ⟨nx, ex⟩ : ∃ n, nd x = n := ⟨_, rfl⟩
  obtain ⟨ny, ey⟩ : ∃ n, nd y = n := ⟨_, rfl⟩
  rw [ex, ey] at hadd
  rw [ex, ey]
  clear hPO hx hy hxy ex ey
  obtain ⟨g0, g1, g2, gs⟩ := three_new w (.bool false) (.slice a nx c) (.bool false) (.slice b ny d) (.bool false) (.slice none 0 0)
  have hN0 : New w (((w.alloc (.cells #[.bool false, .slice a nx c] 64)).alloc (.cells #[.bool false, .slice b ny d] 64)).alloc (.cells #[.bool false, .slice none 0 0] 64)) := (((New.refl w).alloc _).alloc _).alloc _
  have G0 := Lib.hid g0
  have G1 := Lib.hid g1
  have G2 := Lib.hid g2
  have GS := Lib.hid gs
  have HN0 := Lib.hid hN0
  clear g0 g1 g2 gs hN0
  go_enter Tryd.func42, Tryd.ntmps42
  go_wp2_with fail
  obtain ⟨p0, p1, _, _, pB0⟩ := wh_cells G0.out
  obtain ⟨p2, p3, _, _, pB1⟩ := wh_cells G1.out
  obtain ⟨W0, hW0⟩ : ∃ W0, (((w.alloc (.cells #[.bool false, .slice a nx c] 64)).alloc (.cells #[.bool false, .slice b ny d] 64)).alloc (.cells #[.bool false, .slice none 0 0] 64)) = W0 := ⟨_, rfl⟩
  have HW0 := Lib.hid hW0
  rw [hW0] at p0 p1 p2 p3 ⊢
  clear pB0 pB1 hW0
  have hSX : (fun w' : World => w'.cell? ⟨w.heap.size, 0, none⟩ = some (.bool false) ∧ w'.cell? ⟨w.heap.size, 1, none⟩ = some (.slice a nx c) ∧ w'.cell? ⟨w.heap.size + 1, 0, none⟩ = some (.bool false) ∧ w'.cell? ⟨w.heap.size + 1, 1, none⟩ = some (.slice b ny d)) W0.drew :=
    ⟨New.cell ((New.refl W0).drew) p0, New.cell ((New.refl W0).drew) p1, New.cell ((New.refl W0).drew) p2, New.cell ((New.refl W0).drew) p3⟩
  refine wp_region_X (fun w' : World => w'.cell? ⟨w.heap.size, 0, none⟩ = some (.bool false) ∧ w'.cell? ⟨w.heap.size, 1, none⟩ = some (.slice a nx c) ∧ w'.cell? ⟨w.heap.size + 1, 0, none⟩ = some (.bool false) ∧ w'.cell? ⟨w.heap.size + 1, 1, none⟩ = some (.slice b ny d)) [7, 8] (by kernel_rfl) hSX ?_
  refine anyX_take 0 (by kernel_rfl) (by kernel_rfl) (by kernel_rfl) (by kernel_rfl) (by kernel_rfl) hSX ?_
  intro oi ho; simp only [List.getElem?_toArray, List.getElem?_cons_succ, List.getElem?_cons_zero, Option.some.injEq] at ho; subst ho
  refine ⟨?_, fun _ _ _ h => h, Or.inl ⟨by rfl, ?_⟩, ?_⟩; rotate_left 1
  · (intro wS hSw; (try dsimp only at hSw); go_simp; try with_reducible rfl)
  simp only [Act.put, List.setIfInBounds_toArray, List.set_cons_zero, List.set_cons_succ]
  refine anyX_take 1 (by kernel_rfl) (by kernel_rfl) (by kernel_rfl) (by kernel_rfl) (by kernel_rfl) hSX ?_
  intro oi ho; simp only [List.getElem?_toArray, List.getElem?_cons_succ, List.getElem?_cons_zero, Option.some.injEq] at ho; subst ho
  refine ⟨?_, fun _ _ _ h => h, Or.inl ⟨by rfl, ?_⟩, ?_⟩; rotate_left 1
  · (intro wS hSw; (try dsimp only at hSw); go_simp; try with_reducible rfl)
  simp only [Act.put, List.setIfInBounds_toArray, List.set_cons_zero, List.set_cons_succ]
  refine anyX_take 2 (by kernel_rfl) (by kernel_rfl) (by kernel_rfl) (by kernel_rfl) (by kernel_rfl) hSX ?_
  intro oi ho; simp only [List.getElem?_toArray, List.getElem?_cons_succ, List.getElem?_cons_zero, Option.some.injEq] at ho; subst ho
  refine ⟨?_, fun _ _ _ h => h, Or.inl ⟨by rfl, ?_⟩, ?_⟩; rotate_left 1
  · (intro wS hSw; (try dsimp only at hSw); go_simp; try with_reducible rfl)
  simp only [Act.put, List.setIfInBounds_toArray, List.set_cons_zero, List.set_cons_succ]
  refine anyX_take 3 (by kernel_rfl) (by kernel_rfl) (by kernel_rfl) (by kernel_rfl) (by kernel_rfl) hSX ?_
  intro oi ho; simp only [List.getElem?_toArray, List.getElem?_cons_succ, List.getElem?_cons_zero, Option.some.injEq] at ho; subst ho
  refine ⟨?_, fun _ _ _ h => h, Or.inl ⟨by rfl, ?_⟩, ?_⟩; rotate_left 1
  · (intro wS hSw; (try dsimp only at hSw); go_simp; try with_reducible rfl)
  simp only [Act.put, List.setIfInBounds_toArray, List.set_cons_zero, List.set_cons_succ]
  refine anyX_take 4 (by kernel_rfl) (by kernel_rfl) (by kernel_rfl) (by kernel_rfl) (by kernel_rfl) hSX ?_
  intro oi ho; simp only [List.getElem?_toArray, List.getElem?_cons_succ, List.getElem?_cons_zero, Option.some.injEq] at ho; subst ho
  refine ⟨?_, fun _ _ _ h => h, Or.inl ⟨by rfl, ?_⟩, ?_⟩; rotate_left 1
  · (intro wS hSw; (try dsimp only at hSw); go_simp; try with_reducible rfl)
  simp only [Act.put, List.setIfInBounds_toArray, List.set_cons_zero, List.set_cons_succ]
  refine anyX_take 5 (by kernel_rfl) (by kernel_rfl) (by kernel_rfl) (by kernel_rfl) (by kernel_rfl) hSX ?_
  intro oi ho; simp only [List.getElem?_toArray, List.getElem?_cons_succ, List.getElem?_cons_zero, Option.some.injEq] at ho; subst ho
  refine ⟨?_, fun _ _ _ h => h, Or.inl ⟨by rfl, ?_⟩, ?_⟩; rotate_left 1
  · (intro wS hSw; (try dsimp only at hSw); go_simp; try with_reducible rfl)
  simp only [Act.put, List.setIfInBounds_toArray, List.set_cons_zero, List.set_cons_succ]
  refine anyX_one 6 (by kernel_rfl) ?_
  intro oi ho; simp only [List.getElem?_toArray, List.getElem?_cons_succ, List.getElem?_cons_zero, Option.some.injEq] at ho; subst ho; intro K hK
  (try simp only [Act.put, List.setIfInBounds_toArray, List.set_cons_zero, List.set_cons_succ])
  go_simp
  have n0 : New w W0.drew := by rw [← HW0.out]; exact HN0.out.drew
  refine (hadd _ n0).mono ?_
  rintro e w5 ⟨a', c', rfl, n5, s5, l5, r5⟩
  refine hK _ _ (fun _ => ⟨New.cell n5 hSX.1, New.cell n5 hSX.2.1, New.cell n5 hSX.2.2.1, New.cell n5 hSX.2.2.2⟩) ?_
  clear hK K hSX p0 p1 p2 p3
  refine anyX_one 7 (by kernel_rfl) ?_
  intro oi ho; simp only [List.getElem?_toArray, List.getElem?_cons_succ, List.getElem?_cons_zero, Option.some.injEq] at ho; subst ho; intro K hK
  (try simp only [Act.put, List.setIfInBounds_toArray, List.set_cons_zero, List.set_cons_succ])
  go_simp
  refine hK _ _ (fun h => by cases h) ?_
  clear hK K
  have g2' : w5.heap[w.heap.size + 2]? = some (.cells #[.bool false, .slice none 0 0] 64 (0, 0)) := Keeps.heap n5 (by rw [← HW0.out]; exact Keeps.heap (Keeps.drew (S := fun _ => False) _) G2.out (fun h => h)) (fun h => h)
  obtain ⟨r0, r1, f0, f1, hB2⟩ := wh_cells g2'
  obtain ⟨nz, ez⟩ : ∃ n, nd (x + y) = n := ⟨_, rfl⟩
  obtain ⟨hst, kst⟩ := wh_stored g2' (.bool false) (.slice a' nz c')
  obtain ⟨q0, q1, y0, y1, hq⟩ := wh_cells hst
  have hfin : WhRes w false (x + y) (.returned (.agg #[.bool false, .slice a' nz c'])) ((w5.setCell ⟨w.heap.size + 2, 0, none⟩ (.bool false)).setCell ⟨w.heap.size + 2, 1, none⟩ (.slice a' nz c')) := by
    refine ⟨a', c', by rw [ez], New.keeps (n0.trans n5) kst (fun i hi hx => by omega), s5.keeps kst (fun ad had hb => ?_), r5⟩
    have h1 := l5 ad.block ⟨ad, had, rfl⟩
    have h2 : W0.drew.heap.size = w.heap.size + 3 := by rw [← HW0.out]; exact GS.out
    rw [h2, hb] at h1
    omega
  rw [← HPO.out] at hfin
  have HFIN := Lib.hid hfin
  rw [ez]
  clear hfin hst kst s5 l5 r5 n5 n0
  refine anyX_one 8 (by kernel_rfl) ?_
  intro oi ho; simp only [List.getElem?_toArray, List.getElem?_cons_succ, List.getElem?_cons_zero, Option.some.injEq] at ho; subst ho; intro K hK
  (try simp only [Act.put, List.setIfInBounds_toArray, List.set_cons_zero, List.set_cons_succ])
  go_simp
  refine hK _ _ (fun h => by cases h) ?_
  clear hK K
  refine anyX_done (by kernel_rfl) ?_
  (try simp only [Act.put, List.setIfInBounds_toArray, List.set_cons_zero, List.set_cons_succ])
  simp only [Exit.then]
  go_wp2_with fail
  refine bodyPost_ret (v := .agg #[.bool false, .slice a' nz c']) (by simp [results, Tryd.results42, go_sem, q0, q1, y0, y1, hq]) rfl ?_
  exact HFIN.out
theorem is_set (l : List Int) (j : Nat) (p : Int) : (Is l).toArray.setIfInBounds j (I p) = (Is (l.set j p)).toArray := by
  rw [List.setIfInBounds_toArray]; unfold Is; rw [List.map_set]
theorem is_cell {w : World} {B : Nat} {l : List Int} (h : w.heap[B]? = some (.cells (Is l).toArray 3 (0, 0))) {j : Nat} {p : Int} (hj : l[j]? = some p) : w.cell? ⟨B, j, none⟩ = some (I p) := by
  rw [cell_of_block h j]
  unfold Is
  rw [List.getElem?_toArray, List.getElem?_map, hj]; rfl
/-- The row of a product, i digits of it done. -/
def tenL (x n i c : Nat) : List Int := dgl (x * 10) i ++ (c : Int) :: List.replicate (n - i) 0
theorem tenL_get (x n i c : Nat) : (tenL x n i c)[i]? = some (c : Int) := by
  unfold tenL
  rw [List.getElem?_append_right (by rw [dgl_len]; omega), dgl_len, Nat.sub_self]; rfl
theorem tenL_set (x n i c p : Nat) : (tenL x n i c).set i (p : Int) = tenL x n i p := by
  unfold tenL
  rw [List.set_append_right _ _ (by rw [dgl_len]; omega), dgl_len, Nat.sub_self]; rfl
theorem tenL_next (x n i p q : Nat) (hi : i < n) (hp : p = dig (x * 10) i) : (tenL x n i p)[i + 1]? = some 0 ∧ (tenL x n i p).set (i + 1) (q : Int) = tenL x n (i + 1) q := by
  obtain ⟨m, hm⟩ : ∃ m, n - i = m + 1 := ⟨n - i - 1, by omega⟩
  have e : tenL x n i p = dgl (x * 10) (i + 1) ++ (0 : Int) :: List.replicate m 0 := by
    unfold tenL
    rw [hm, dgl_succ, hp, List.replicate_succ]; simp
  rw [e]
  refine ⟨?_, ?_⟩
  · rw [List.getElem?_append_right (by rw [dgl_len]; omega), dgl_len, Nat.sub_self]; rfl
  · rw [List.set_append_right _ _ (by rw [dgl_len]; omega), dgl_len, Nat.sub_self]
    unfold tenL
    rw [show n - (i + 1) = m by omega]; rfl
theorem tenL_len (x n i c : Nat) (h : i ≤ n) : (tenL x n i c).length = n + 1 := by unfold tenL; simp [dgl_len]; omega
theorem tenL_done (x n c : Nat) (hc : c < 10) (h : TenSt x n c) (h0 : hiD x n = 0) : tenL x n n c = dgl (x * 10) (n + 1) ∧ hiD (x * 10) (n + 1) = 0 := by
  have e : hiD (x * 10) n = c := by rw [h.1, h0]; omega
  refine ⟨?_, by rw [hiD_succ, e]; omega⟩
  unfold tenL
  rw [dgl_succ]
  have : dig (x * 10) n = c := by unfold dig; rw [e]; omega
  rw [this, Nat.sub_self]; rfl
/-- How far the product's row has come. -/
def TimSt (w : World) (X0 X1 X2 : Obj) (x nx : Nat) (wr : World) (i cc : Nat) : Prop :=
  New w wr ∧ wr.heap[w.heap.size]? = some X0 ∧ wr.heap[w.heap.size + 1]? = some X1 ∧ wr.heap[w.heap.size + 2]? = some X2 ∧ wr.heap[w.heap.size + 3]? = some (.cells (Is (tenL x nx i cc)).toArray 3 (0, 0))
theorem TimSt.new {w wr wr' : World} {X0 X1 X2 : Obj} {x nx i cc : Nat} (h : TimSt w X0 X1 X2 x nx wr i cc) (n : New wr wr') : TimSt w X0 X1 X2 x nx wr' i cc :=
  ⟨h.1.trans n, Keeps.heap n h.2.1 (fun h => h), Keeps.heap n h.2.2.1 (fun h => h), Keeps.heap n h.2.2.2.1 (fun h => h), Keeps.heap n h.2.2.2.2 (fun h => h)⟩
theorem TimSt.set {w wr : World} {X0 X1 X2 : Obj} {x nx i cc : Nat} (h : TimSt w X0 X1 X2 x nx wr i cc) (j i' cc' : Nat) (p : Int) (hl : (tenL x nx i cc).set j p = tenL x nx i' cc') :
    TimSt w X0 X1 X2 x nx (wr.setCell ⟨w.heap.size + 3, j, none⟩ (I p)) i' cc' := by
  obtain ⟨h0, h1, h2, h3, h4⟩ := h
  have ks : Keeps (fun k => k = w.heap.size + 3) wr (wr.setCell ⟨w.heap.size + 3, j, none⟩ (I p)) := Keeps.setCell wr _ _ rfl
  refine ⟨New.keeps h0 ks (fun i hi hx => by omega), ks.heap h1 (by omega), ks.heap h2 (by omega), ks.heap h3 (by omega), ?_⟩
  rw [block_setCell h4, is_set, hl]
set_option maxRecDepth 100000 in
set_option maxHeartbeats 8000000 in
theorem ten_any (w : World) (a b : Option Addr) (c d x : Nat) (hx : SlAt w a (Is (dgs x))) (hy : SlAt w b (Is (dgs 10))) (hxt : x * 10 < whTop) :
    Calls Tryd.prog 43 #[.agg #[.bool false, .slice a (nd x) c], .agg #[.bool false, .slice b 1 d]] w (WhRes w false (x * 10)) := by
  obtain ⟨PO, hPO⟩ : ∃ PO, PO = WhRes w false (x * 10) := ⟨_, rfl⟩
  rw [← hPO]
  have HPO := Lib.hid hPO
  clear hPO
  obtain ⟨i0, hi0, hz0, hz1, hz2⟩ := info_parts infoInt'
  have hnx := nd_le x
  have hb10 : dgs 10 = [10] := by decide +kernel
  rw [hb10] at hy
  obtain ⟨b2, o2, eb, y10⟩ := hy.at (i := 0) (by simp)
  have y10' : w.cell? ⟨b2, o2, none⟩ = some (I 10) := by simpa using y10
  subst eb
  have HXD : Hid (∀ j, nd x ≤ j → hiD x j = 0) := Lib.hid (fun j hj => (dig_nd (by unfold whTop at hxt; omega) hj).1)
  have HXT := Lib.hid hxt
  have HX := Lib.hid hx
  have HY := Lib.hid y10'
  unfold dgs at HX
  clear hxt hx hy y10 y10' hb10
  by_cases hz : nd x = 0
  · have hx0 : x = 0 := by have := HXD.out 0 (by omega); rwa [hiD_zero] at this
    subst hx0
    rw [hz]
    go_enter Tryd.func43, Tryd.ntmps43
    go_wp2_with fail
    refine bodyPost_ret (v := .agg #[.bool false, .slice none 0 0]) (by simp [results, Tryd.results43, go_sem]) rfl ?_
    rw [HPO.out]
    exact ⟨none, 0, rfl, (((New.refl w).alloc _).alloc _).alloc _, SlAt.nil _ _, by show 0 ≤ 0; omega, by show (0 : Int) ≤ _; omega⟩
  · obtain ⟨nx, ex⟩ : ∃ n, nd x = n := ⟨_, rfl⟩
    rw [ex] at hz hnx HX HXD ⊢
    have hz0' : ((nx : Int) == 0) = false := by simpa using fun h : (nx : Int) = 0 => hz (by omega)
    have hpos : 0 < nx := by omega
    clear ex
    obtain ⟨g0, g1, g2, gs⟩ := three_new w (.bool false) (.slice a nx c) (.bool false) (.slice (some ⟨b2, o2, none⟩) 1 d) (.bool false) (.slice none 0 0)
    obtain ⟨A0, hA0⟩ : ∃ A, (Is (tenL x nx 0 0)).toArray = A := ⟨_, rfl⟩
    have hmk : ∀ W : World, (Instr.makeSlice 62 (.int .i64 ((nx : Int) + 1)) (.int .i64 ((nx : Int) + 1))).run Tryd.prog W = .ok (.slice (some ⟨W.heap.size, 0, none⟩) (nx + 1) (nx + 1)) (W.alloc (.cells A0 3)) := fun W => by
      have h := run_make_row' (P := Tryd.prog) 62 3 (.int .i64 0) 8 Tryd.underlying62 infoInt' rfl .i64 .i64 (nx + 1) (by omega) (by omega) W
      have e : madeCells #[.int .i64 0] (nx + 1) = A0 := by
        rw [← hA0]
        apply Array.toList_inj.1
        rw [toList_madeCells_one]
        unfold tenL
        rw [show nx - 0 = nx by omega]
        simp [dgl, Is, List.replicate_succ]
      rw [e] at h
      exact h
    have hN3 : New w ((((w.alloc (.cells #[.bool false, .slice a nx c] 64)).alloc (.cells #[.bool false, .slice (some ⟨b2, o2, none⟩) 1 d] 64)).alloc (.cells #[.bool false, .slice none 0 0] 64)).alloc (.cells A0 3)) := ((((New.refl w).alloc _).alloc _).alloc _).alloc _
    have kz : New (((w.alloc (.cells #[.bool false, .slice a nx c] 64)).alloc (.cells #[.bool false, .slice (some ⟨b2, o2, none⟩) 1 d] 64)).alloc (.cells #[.bool false, .slice none 0 0] 64)) ((((w.alloc (.cells #[.bool false, .slice a nx c] 64)).alloc (.cells #[.bool false, .slice (some ⟨b2, o2, none⟩) 1 d] 64)).alloc (.cells #[.bool false, .slice none 0 0] 64)).alloc (.cells A0 3)) := (New.refl _).alloc _
    have G0 := Lib.hid (Keeps.heap kz g0 (fun h => h))
    have G1 := Lib.hid (Keeps.heap kz g1 (fun h => h))
    have G2 := Lib.hid (Keeps.heap kz g2 (fun h => h))
    have GB : Hid (((((w.alloc (.cells #[.bool false, .slice a nx c] 64)).alloc (.cells #[.bool false, .slice (some ⟨b2, o2, none⟩) 1 d] 64)).alloc (.cells #[.bool false, .slice none 0 0] 64)).alloc (.cells A0 3)).heap[w.heap.size + 3]? = some (.cells (Is (tenL x nx 0 0)).toArray 3 (0, 0))) := Lib.hid (by
      have h := heap_alloc_new (((w.alloc (.cells #[.bool false, .slice a nx c] 64)).alloc (.cells #[.bool false, .slice (some ⟨b2, o2, none⟩) 1 d] 64)).alloc (.cells #[.bool false, .slice none 0 0] 64)) (.cells A0 3)
      rw [gs] at h
      rw [hA0]; exact h)
    have HN3 := Lib.hid hN3
    clear hA0 g0 g1 g2 gs hN3 kz
    go_enter Tryd.func43, Tryd.ntmps43
    have HT0 : Hid (TimSt w (.cells #[.bool false, .slice a nx c] 64 (0, 0)) (.cells #[.bool false, .slice (some ⟨b2, o2, none⟩) 1 d] 64 (0, 0)) (.cells #[.bool false, .slice none 0 0] 64 (0, 0)) x nx ((((w.alloc (.cells #[.bool false, .slice a nx c] 64)).alloc (.cells #[.bool false, .slice (some ⟨b2, o2, none⟩) 1 d] 64)).alloc (.cells #[.bool false, .slice none 0 0] 64)).alloc (.cells A0 3)) 0 0) := Lib.hid ⟨HN3.out, G0.out, G1.out, G2.out, GB.out⟩
    obtain ⟨TS, hTS⟩ : ∃ TS, TimSt w (.cells #[.bool false, .slice a nx c] 64 (0, 0)) (.cells #[.bool false, .slice (some ⟨b2, o2, none⟩) 1 d] 64 (0, 0)) (.cells #[.bool false, .slice none 0 0] 64 (0, 0)) x nx = TS := ⟨_, rfl⟩
    rw [hTS] at HT0
    have HTS := Lib.hid hTS
    clear hTS HN3 G0 G1 G2 GB
    go_wp2_with fail
    go_loopw [6] (fun xi wr => ∃ i cc : Nat, i ≤ nx ∧ xi = .int .i64 i ∧ cc < 10 ∧ Hid (TenSt x i cc) ∧ Hid (TS wr i cc)) (fun xi _ => nx - (intOf xi).toNat)
    case atStart => exact ⟨0, 0, by omega, rfl, by omega, Lib.hid (TenSt.zero x), HT0⟩
    case round =>
      clear HT0 hmk
      obtain ⟨i, cc, hi, rfl, hcc, HST, HT⟩ := hrel
      have hT := HT.out
      rw [← HTS.out] at hT
      obtain ⟨hN, g0, g1, g2, gB⟩ := id hT
      obtain ⟨p00, p01, _, _, pB0⟩ := wh_cells g0
      obtain ⟨p10, p11, _, _, pB1⟩ := wh_cells g1
      have qc := is_cell gB (tenL_get x nx i cc)
      have zc := unfrozen_of_block gB i
      have zc1 := unfrozen_of_block gB (i + 1)
      have hlB : w.heap.size + 3 < wr.heap.size := World.block_lt_of_cell? wr _ qc
      by_cases hin : i < nx
      · obtain ⟨bx, ox, ea, qa⟩ := is_at HX.out (j := i) hin
        have qa' := New.cell hN qa
        have qb' := New.cell hN HY.out
        subst ea
        have la := World.block_lt_of_cell? wr _ qa'
        have lb := World.block_lt_of_cell? wr _ qb'
        have hdl := dig_lt x i
        obtain ⟨s, hs⟩ : ∃ s, cc + dig x i * 10 = s := ⟨_, rfl⟩
        obtain ⟨hp, hst2⟩ := HST.out.step hs.symm
        obtain ⟨dx, hdx⟩ : ∃ dx, dig x i = dx := ⟨_, rfl⟩
        rw [hdx] at qa' hdl hs
        have w1 : IntKind.i64.wrap ((dx : Int) * 10) = ((dx * 10 : Nat) : Int) := by rw [IntWalk.i64_in _ (by omega)]; omega
        obtain ⟨d10, hd10⟩ : ∃ z, dx * 10 = z := ⟨_, rfl⟩
        rw [hd10] at w1 hs
        have w2 : IntKind.i64.wrap ((cc : Int) + (d10 : Int)) = (s : Int) := by rw [IntWalk.i64_in _ (by omega)]; omega
        have hp30 : s % 1073741824 < 1073741824 := Nat.mod_lt _ (by omega)
        have t1 : (s : Int).tmod 1073741824 = ((s % 1073741824 : Nat) : Int) := by rw [Int.tmod_eq_emod_of_nonneg (by omega)]; omega
        have t2 : (s : Int).tdiv 1073741824 = ((s / 1073741824 : Nat) : Int) := by rw [Int.tdiv_eq_ediv_of_nonneg (by omega)]; omega
        have hq10 : s / 1073741824 < 10 := hst2.2
        have hsb : (s : Int) ≤ 11000000000 := by omega
        obtain ⟨p, hpp⟩ : ∃ p : Nat, s % 1073741824 = p := ⟨_, rfl⟩
        obtain ⟨q, hqq⟩ : ∃ q : Nat, s / 1073741824 = q := ⟨_, rfl⟩
        rw [hpp] at t1 hp hp30
        rw [hqq] at t2 hst2 hq10
        have w3 : IntKind.i64.wrap (p : Int) = (p : Int) := IntWalk.i64_in _ (by omega)
        have w4 : IntKind.i64.wrap (q : Int) = (q : Int) := IntWalk.i64_in _ (by omega)
        have w5 : IntKind.i64.wrap (s : Int) = (s : Int) := IntWalk.i64_in _ (by omega)
        have HP := Lib.hid hp
        have HST2 := Lib.hid hst2
        have hiI : (i : Int) < (nx : Int) := by omega
        have hdr : ∀ z, TS ((wr.drewN z).setCell ⟨w.heap.size + 3, i, none⟩ (I (p : Int))) i p := fun z => by
          rw [← HTS.out]
          exact (hT.new ((New.refl wr).drewN z)).set i i p (p : Int) (tenL_set x nx i cc p)
        have HDR := Lib.hid hdr
        clear hs hd10 hdl hst2 hp hdx qa hpp hqq hdr hT g0 g1 g2 gB HT
        go_wp2_with fail
        obtain ⟨wo, rfl⟩ : ∃ wo : World, wo = wr := ⟨_, rfl⟩
        go_loopw [7, 8] (fun xc xk wr => ∃ kk : Nat, xk = .int .i64 kk ∧ ((kk = 0 ∧ xc = I 0 ∧ wr = wo) ∨ (kk = 1 ∧ xc = I q ∧ Hid (TS wr i p)))) (fun _ xk _ => 1 - (intOf xk).toNat)
        case atStart => exact ⟨0, rfl, Or.inl ⟨rfl, rfl, rfl⟩⟩
        case round =>
          obtain ⟨kk, rfl, ⟨rfl, rfl, rfl⟩ | ⟨rfl, rfl, HT⟩⟩ := hrel
          · go_wp2_with fail
            go_quiet (fail)
            go_wp2_with fail
            go_roundw
            case rel => exact ⟨1, by go_num, Or.inr ⟨rfl, rfl, Lib.hid (HDR.out _)⟩⟩
            case measure => simp [intOf]
          · have hT := HT.out
            rw [← HTS.out] at hT
            obtain ⟨hN2, g0, g1, g2, gB⟩ := id hT
            obtain ⟨k10, k11, _, _, kB1⟩ := wh_cells g1
            obtain ⟨hn0, hn1⟩ := tenL_next x nx i p q hin HP.out
            have kc := is_cell gB hn0
            have zc1 := unfrozen_of_block gB (i + 1)
            have hlB2 : w.heap.size + 3 < wr.heap.size := World.block_lt_of_cell? wr _ kc
            have w6 : IntKind.i64.wrap ((i : Int) + 1) = (i : Int) + 1 := IntWalk.i64_in _ (by omega)
            have hset : ∀ z, TS ((wr.drewN z).setCell ⟨w.heap.size + 3, i + 1, none⟩ (I (q : Int))) (i + 1) q := fun z => by
              rw [← HTS.out]
              exact (hT.new ((New.refl wr).drewN z)).set (i + 1) (i + 1) q (q : Int) hn1
            have hset1 : TS (wr.drew.setCell ⟨w.heap.size + 3, i + 1, none⟩ (I (q : Int))) (i + 1) q := by
              rw [← HTS.out]
              exact (hT.new ((New.refl wr).drew)).set (i + 1) (i + 1) q (q : Int) hn1
            have HSET := Lib.hid hset
            have HSET1 := Lib.hid hset1
            clear hT g0 g1 g2 gB hn0 hn1 hset hset1 HDR p00 p01 pB0 p10 p11 pB1 qc zc hlB qa' la qb' lb
            go_wp2_with fail
            have hSX : (fun w' : World => w'.cell? ⟨w.heap.size + 1, 1, none⟩ = some (.slice (some ⟨b2, o2, none⟩) 1 d) ∧ w'.cell? ⟨w.heap.size + 3, i + 1, none⟩ = some (I 0)) wr.drew := ⟨New.cell ((New.refl wr).drew) k11, New.cell ((New.refl wr).drew) kc⟩
            refine wp_region_X (fun w' : World => w'.cell? ⟨w.heap.size + 1, 1, none⟩ = some (.slice (some ⟨b2, o2, none⟩) 1 d) ∧ w'.cell? ⟨w.heap.size + 3, i + 1, none⟩ = some (I 0)) [17] (by kernel_rfl) hSX ?_
            refine anyX_take 0 (by kernel_rfl) (by kernel_rfl) (by kernel_rfl) (by kernel_rfl) (by kernel_rfl) hSX ?_
            intro oi ho; simp only [List.getElem?_toArray, List.getElem?_cons_succ, List.getElem?_cons_zero, Option.some.injEq] at ho; subst ho
            refine ⟨?_, fun _ _ _ h => h, Or.inl ⟨by rfl, ?_⟩, ?_⟩; rotate_left 1
            · (intro wS hSw; (try dsimp only at hSw); go_simp; try with_reducible rfl)
            simp only [Act.put, List.setIfInBounds_toArray, List.set_cons_zero, List.set_cons_succ]
            refine anyX_take 1 (by kernel_rfl) (by kernel_rfl) (by kernel_rfl) (by kernel_rfl) (by kernel_rfl) hSX ?_
            intro oi ho; simp only [List.getElem?_toArray, List.getElem?_cons_succ, List.getElem?_cons_zero, Option.some.injEq] at ho; subst ho
            refine ⟨?_, fun _ _ _ h => h, Or.inl ⟨by rfl, ?_⟩, ?_⟩; rotate_left 1
            · (intro wS hSw; (try dsimp only at hSw); go_simp; try with_reducible rfl)
            simp only [Act.put, List.setIfInBounds_toArray, List.set_cons_zero, List.set_cons_succ]
            refine anyX_take 2 (by kernel_rfl) (by kernel_rfl) (by kernel_rfl) (by kernel_rfl) (by kernel_rfl) hSX ?_
            intro oi ho; simp only [List.getElem?_toArray, List.getElem?_cons_succ, List.getElem?_cons_zero, Option.some.injEq] at ho; subst ho
            refine ⟨?_, fun _ _ _ h => h, Or.inl ⟨by rfl, ?_⟩, ?_⟩; rotate_left 1
            · (intro wS hSw; (try dsimp only at hSw); go_simp; try with_reducible rfl)
            simp only [Act.put, List.setIfInBounds_toArray, List.set_cons_zero, List.set_cons_succ]
            refine anyX_take 3 (by kernel_rfl) (by kernel_rfl) (by kernel_rfl) (by kernel_rfl) (by kernel_rfl) hSX ?_
            intro oi ho; simp only [List.getElem?_toArray, List.getElem?_cons_succ, List.getElem?_cons_zero, Option.some.injEq] at ho; subst ho
            refine ⟨?_, fun _ _ _ h => h, Or.inl ⟨by rfl, ?_⟩, ?_⟩; rotate_left 1
            · (intro wS hSw; (try dsimp only at hSw); go_simp; try with_reducible rfl)
            simp only [Act.put, List.setIfInBounds_toArray, List.set_cons_zero, List.set_cons_succ]
            refine anyX_take 4 (by kernel_rfl) (by kernel_rfl) (by kernel_rfl) (by kernel_rfl) (by kernel_rfl) hSX ?_
            intro oi ho; simp only [List.getElem?_toArray, List.getElem?_cons_succ, List.getElem?_cons_zero, Option.some.injEq] at ho; subst ho
            refine ⟨?_, fun _ _ _ h => h, Or.inl ⟨by rfl, ?_⟩, ?_⟩; rotate_left 1
            · (intro wS hSw; (try dsimp only at hSw); go_simp; try with_reducible rfl)
            simp only [Act.put, List.setIfInBounds_toArray, List.set_cons_zero, List.set_cons_succ]
            refine anyX_take 5 (by kernel_rfl) (by kernel_rfl) (by kernel_rfl) (by kernel_rfl) (by kernel_rfl) hSX ?_
            intro oi ho; simp only [List.getElem?_toArray, List.getElem?_cons_succ, List.getElem?_cons_zero, Option.some.injEq] at ho; subst ho
            refine ⟨?_, fun _ _ _ h => h, Or.inl ⟨by rfl, ?_⟩, ?_⟩; rotate_left 1
            · (intro wS hSw; (try dsimp only at hSw); go_simp; try with_reducible rfl)
            simp only [Act.put, List.setIfInBounds_toArray, List.set_cons_zero, List.set_cons_succ]
            refine anyX_take 6 (by kernel_rfl) (by kernel_rfl) (by kernel_rfl) (by kernel_rfl) (by kernel_rfl) hSX ?_
            intro oi ho; simp only [List.getElem?_toArray, List.getElem?_cons_succ, List.getElem?_cons_zero, Option.some.injEq] at ho; subst ho
            refine ⟨?_, fun _ _ _ h => h, Or.inl ⟨by rfl, ?_⟩, ?_⟩; rotate_left 1
            · (intro wS hSw; (try dsimp only at hSw); go_simp; try with_reducible rfl)
            simp only [Act.put, List.setIfInBounds_toArray, List.set_cons_zero, List.set_cons_succ]
            refine anyX_take 7 (by kernel_rfl) (by kernel_rfl) (by kernel_rfl) (by kernel_rfl) (by kernel_rfl) hSX ?_
            intro oi ho; simp only [List.getElem?_toArray, List.getElem?_cons_succ, List.getElem?_cons_zero, Option.some.injEq] at ho; subst ho
            refine ⟨?_, fun _ _ _ h => h, Or.inl ⟨by rfl, ?_⟩, ?_⟩; rotate_left 1
            · (intro wS hSw; (try dsimp only at hSw); go_simp; try with_reducible rfl)
            simp only [Act.put, List.setIfInBounds_toArray, List.set_cons_zero, List.set_cons_succ]
            refine anyX_take 8 (by kernel_rfl) (by kernel_rfl) (by kernel_rfl) (by kernel_rfl) (by kernel_rfl) hSX ?_
            intro oi ho; simp only [List.getElem?_toArray, List.getElem?_cons_succ, List.getElem?_cons_zero, Option.some.injEq] at ho; subst ho
            refine ⟨?_, fun _ _ _ h => h, Or.inl ⟨by rfl, ?_⟩, ?_⟩; rotate_left 1
            · (intro wS hSw; (try dsimp only at hSw); go_simp; try with_reducible rfl)
            simp only [Act.put, List.setIfInBounds_toArray, List.set_cons_zero, List.set_cons_succ]
            refine anyX_take 9 (by kernel_rfl) (by kernel_rfl) (by kernel_rfl) (by kernel_rfl) (by kernel_rfl) hSX ?_
            intro oi ho; simp only [List.getElem?_toArray, List.getElem?_cons_succ, List.getElem?_cons_zero, Option.some.injEq] at ho; subst ho
            refine ⟨?_, fun _ _ _ h => h, Or.inl ⟨by rfl, ?_⟩, ?_⟩; rotate_left 1
            · (intro wS hSw; (try dsimp only at hSw); go_simp; try with_reducible rfl)
            simp only [Act.put, List.setIfInBounds_toArray, List.set_cons_zero, List.set_cons_succ]
            refine anyX_take 10 (by kernel_rfl) (by kernel_rfl) (by kernel_rfl) (by kernel_rfl) (by kernel_rfl) hSX ?_
            intro oi ho; simp only [List.getElem?_toArray, List.getElem?_cons_succ, List.getElem?_cons_zero, Option.some.injEq] at ho; subst ho
            refine ⟨?_, fun _ _ _ h => h, Or.inl ⟨by rfl, ?_⟩, ?_⟩; rotate_left 1
            · (intro wS hSw; (try dsimp only at hSw); go_simp; try with_reducible rfl)
            simp only [Act.put, List.setIfInBounds_toArray, List.set_cons_zero, List.set_cons_succ]
            refine anyX_take 11 (by kernel_rfl) (by kernel_rfl) (by kernel_rfl) (by kernel_rfl) (by kernel_rfl) hSX ?_
            intro oi ho; simp only [List.getElem?_toArray, List.getElem?_cons_succ, List.getElem?_cons_zero, Option.some.injEq] at ho; subst ho
            refine ⟨?_, fun _ _ _ h => h, Or.inl ⟨by rfl, ?_⟩, ?_⟩; rotate_left 1
            · (intro wS hSw; (try dsimp only at hSw); go_simp; try with_reducible rfl)
            simp only [Act.put, List.setIfInBounds_toArray, List.set_cons_zero, List.set_cons_succ]
            refine anyX_take 12 (by kernel_rfl) (by kernel_rfl) (by kernel_rfl) (by kernel_rfl) (by kernel_rfl) hSX ?_
            intro oi ho; simp only [List.getElem?_toArray, List.getElem?_cons_succ, List.getElem?_cons_zero, Option.some.injEq] at ho; subst ho
            refine ⟨?_, fun _ _ _ h => h, Or.inl ⟨by rfl, ?_⟩, ?_⟩; rotate_left 1
            · (intro wS hSw; (try dsimp only at hSw); go_simp; rw [if_pos (by omega)])
            simp only [Act.put, List.setIfInBounds_toArray, List.set_cons_zero, List.set_cons_succ]
            refine anyX_take 13 (by kernel_rfl) (by kernel_rfl) (by kernel_rfl) (by kernel_rfl) (by kernel_rfl) hSX ?_
            intro oi ho; simp only [List.getElem?_toArray, List.getElem?_cons_succ, List.getElem?_cons_zero, Option.some.injEq] at ho; subst ho
            refine ⟨?_, fun _ _ _ h => h, Or.inl ⟨by rfl, ?_⟩, ?_⟩; rotate_left 1
            · (intro wS hSw; (try dsimp only at hSw); go_simp; try with_reducible rfl)
            simp only [Act.put, List.setIfInBounds_toArray, List.set_cons_zero, List.set_cons_succ]
            refine anyX_take 14 (by kernel_rfl) (by kernel_rfl) (by kernel_rfl) (by kernel_rfl) (by kernel_rfl) hSX ?_
            intro oi ho; simp only [List.getElem?_toArray, List.getElem?_cons_succ, List.getElem?_cons_zero, Option.some.injEq] at ho; subst ho
            refine ⟨?_, fun _ _ _ h => h, Or.inl ⟨by rfl, ?_⟩, ?_⟩; rotate_left 1
            · (intro wS hSw; (try dsimp only at hSw); go_simp; try with_reducible rfl)
            simp only [Act.put, List.setIfInBounds_toArray, List.set_cons_zero, List.set_cons_succ]
            refine anyX_take 15 (by kernel_rfl) (by kernel_rfl) (by kernel_rfl) (by kernel_rfl) (by kernel_rfl) hSX ?_
            intro oi ho; simp only [List.getElem?_toArray, List.getElem?_cons_succ, List.getElem?_cons_zero, Option.some.injEq] at ho; subst ho
            refine ⟨?_, fun _ _ _ h => h, Or.inl ⟨by rfl, ?_⟩, ?_⟩; rotate_left 1
            · (intro wS hSw; (try dsimp only at hSw); go_simp; try with_reducible rfl)
            simp only [Act.put, List.setIfInBounds_toArray, List.set_cons_zero, List.set_cons_succ]
            refine anyX_take 16 (by kernel_rfl) (by kernel_rfl) (by kernel_rfl) (by kernel_rfl) (by kernel_rfl) hSX ?_
            intro oi ho; simp only [List.getElem?_toArray, List.getElem?_cons_succ, List.getElem?_cons_zero, Option.some.injEq] at ho; subst ho
            refine ⟨?_, fun _ _ _ h => h, Or.inl ⟨by rfl, ?_⟩, ?_⟩; rotate_left 1
            · (intro wS hSw; (try dsimp only at hSw); go_simp; rw [if_pos (by omega)])
            simp only [Act.put, List.setIfInBounds_toArray, List.set_cons_zero, List.set_cons_succ]
            refine anyX_one 17 (by kernel_rfl) ?_
            intro oi ho; simp only [List.getElem?_toArray, List.getElem?_cons_succ, List.getElem?_cons_zero, Option.some.injEq] at ho; subst ho; intro K hK
            (try simp only [Act.put, List.setIfInBounds_toArray, List.set_cons_zero, List.set_cons_succ])
            go_simp
            refine hK _ _ (fun h => by cases h) ?_
            clear hK K
            refine anyX_done (by kernel_rfl) ?_
            (try simp only [Act.put, List.setIfInBounds_toArray, List.set_cons_zero, List.set_cons_succ])
            (try simp only [Exit.then])
            clear hSX k10 k11 kc zc1
            go_wp2_with fail
            go_roundw
            case rel => exact ⟨i + 1, q, by omega, by go_num, hq10, HST2, Lib.hid (by first | exact HSET1.out | exact HSET.out _)⟩
            case measure => simp [intOf]; omega
      · have hie : i = nx := by omega
        subst hie
        have hz : hiD x i = 0 := HXD.out i (Nat.le_refl _)
        obtain ⟨hd1, hd2⟩ := tenL_done x i cc hcc HST.out hz
        rw [hd1] at gB
        have hsl : SlAt wr (some ⟨w.heap.size + 3, 0, none⟩) (Is (dgl (x * 10) (i + 1))) := SlAt.block gB
        have htr := fun W (n : New wr W) => trim_any W (some ⟨w.heap.size + 3, 0, none⟩) (i + 1) (x * 10) (i + 1) (hsl.new n) hd2 HXT.out (by omega) (by unfold Rm; constructor <;> omega)
        obtain ⟨nz, ez⟩ : ∃ n, nd (x * 10) = n := ⟨_, rfl⟩
        have hle : nz ≤ i + 1 := by
          rw [← ez]
          rcases Nat.lt_or_ge (i + 1) (nd (x * 10)) with h | h
          · have h2 := nd_top (v := x * 10) (by have := HXT.out; unfold whTop at this; exact this) (by omega)
            have := hiD_zeros hd2 (nd (x * 10) - 1 - (i + 1))
            rw [show i + 1 + (nd (x * 10) - 1 - (i + 1)) = nd (x * 10) - 1 by omega] at this
            exact absurd (by unfold dig; rw [this]) h2
          · exact h
        have HSL := Lib.hid hsl
        have HN := Lib.hid hN
        have HG2 := Lib.hid g2
        have HEZ := Lib.hid ez
        rw [ez] at htr
        have hdi : ¬ (i : Int) < (i : Int) := by omega
        clear hsl hT g0 g1 g2 gB hd1 hd2 hz hN ez HT HST qc zc zc1 hcc
        go_wp2_with fail
        have hSX : (fun w' : World => w'.cell? ⟨w.heap.size, 0, none⟩ = some (.bool false) ∧ w'.cell? ⟨w.heap.size + 1, 0, none⟩ = some (.bool false)) wr.drew := ⟨New.cell ((New.refl wr).drew) p00, New.cell ((New.refl wr).drew) p10⟩
        refine wp_region_X (fun w' : World => w'.cell? ⟨w.heap.size, 0, none⟩ = some (.bool false) ∧ w'.cell? ⟨w.heap.size + 1, 0, none⟩ = some (.bool false)) [7, 8] (by kernel_rfl) hSX ?_
        refine anyX_take 0 (by kernel_rfl) (by kernel_rfl) (by kernel_rfl) (by kernel_rfl) (by kernel_rfl) hSX ?_
        intro oi ho; simp only [List.getElem?_toArray, List.getElem?_cons_succ, List.getElem?_cons_zero, Option.some.injEq] at ho; subst ho
        refine ⟨?_, fun _ _ _ h => h, Or.inl ⟨by rfl, ?_⟩, ?_⟩; rotate_left 1
        · (intro wS hSw; (try dsimp only at hSw); go_simp; try with_reducible rfl)
        simp only [Act.put, List.setIfInBounds_toArray, List.set_cons_zero, List.set_cons_succ]
        refine anyX_take 1 (by kernel_rfl) (by kernel_rfl) (by kernel_rfl) (by kernel_rfl) (by kernel_rfl) hSX ?_
        intro oi ho; simp only [List.getElem?_toArray, List.getElem?_cons_succ, List.getElem?_cons_zero, Option.some.injEq] at ho; subst ho
        refine ⟨?_, fun _ _ _ h => h, Or.inl ⟨by rfl, ?_⟩, ?_⟩; rotate_left 1
        · (intro wS hSw; (try dsimp only at hSw); go_simp; try with_reducible rfl)
        simp only [Act.put, List.setIfInBounds_toArray, List.set_cons_zero, List.set_cons_succ]
        refine anyX_take 2 (by kernel_rfl) (by kernel_rfl) (by kernel_rfl) (by kernel_rfl) (by kernel_rfl) hSX ?_
        intro oi ho; simp only [List.getElem?_toArray, List.getElem?_cons_succ, List.getElem?_cons_zero, Option.some.injEq] at ho; subst ho
        refine ⟨?_, fun _ _ _ h => h, Or.inl ⟨by rfl, ?_⟩, ?_⟩; rotate_left 1
        · (intro wS hSw; (try dsimp only at hSw); go_simp; try with_reducible rfl)
        simp only [Act.put, List.setIfInBounds_toArray, List.set_cons_zero, List.set_cons_succ]
        refine anyX_take 3 (by kernel_rfl) (by kernel_rfl) (by kernel_rfl) (by kernel_rfl) (by kernel_rfl) hSX ?_
        intro oi ho; simp only [List.getElem?_toArray, List.getElem?_cons_succ, List.getElem?_cons_zero, Option.some.injEq] at ho; subst ho
        refine ⟨?_, fun _ _ _ h => h, Or.inl ⟨by rfl, ?_⟩, ?_⟩; rotate_left 1
        · (intro wS hSw; (try dsimp only at hSw); go_simp; try with_reducible rfl)
        simp only [Act.put, List.setIfInBounds_toArray, List.set_cons_zero, List.set_cons_succ]
        refine anyX_take 4 (by kernel_rfl) (by kernel_rfl) (by kernel_rfl) (by kernel_rfl) (by kernel_rfl) hSX ?_
        intro oi ho; simp only [List.getElem?_toArray, List.getElem?_cons_succ, List.getElem?_cons_zero, Option.some.injEq] at ho; subst ho
        refine ⟨?_, fun _ _ _ h => h, Or.inl ⟨by rfl, ?_⟩, ?_⟩; rotate_left 1
        · (intro wS hSw; (try dsimp only at hSw); go_simp; try with_reducible rfl)
        simp only [Act.put, List.setIfInBounds_toArray, List.set_cons_zero, List.set_cons_succ]
        refine anyX_take 5 (by kernel_rfl) (by kernel_rfl) (by kernel_rfl) (by kernel_rfl) (by kernel_rfl) hSX ?_
        intro oi ho; simp only [List.getElem?_toArray, List.getElem?_cons_succ, List.getElem?_cons_zero, Option.some.injEq] at ho; subst ho
        refine ⟨?_, fun _ _ _ h => h, Or.inl ⟨by rfl, ?_⟩, ?_⟩; rotate_left 1
        · (intro wS hSw; (try dsimp only at hSw); go_simp; try with_reducible rfl)
        simp only [Act.put, List.setIfInBounds_toArray, List.set_cons_zero, List.set_cons_succ]
        refine anyX_one 6 (by kernel_rfl) ?_
        intro oi ho; simp only [List.getElem?_toArray, List.getElem?_cons_succ, List.getElem?_cons_zero, Option.some.injEq] at ho; subst ho; intro K hK
        (try simp only [Act.put, List.setIfInBounds_toArray, List.set_cons_zero, List.set_cons_succ])
        go_simp
        refine (htr _ ((New.refl wr).drew)).mono ?_
        rintro e w5 ⟨rfl, n5⟩
        refine hK _ _ (fun _ => ⟨New.cell n5 hSX.1, New.cell n5 hSX.2⟩) ?_
        clear hK K hSX p00 p01 p10 p11 pB0 pB1
        refine anyX_one 7 (by kernel_rfl) ?_
        intro oi ho; simp only [List.getElem?_toArray, List.getElem?_cons_succ, List.getElem?_cons_zero, Option.some.injEq] at ho; subst ho; intro K hK
        (try simp only [Act.put, List.setIfInBounds_toArray, List.set_cons_zero, List.set_cons_succ])
        go_simp
        refine hK _ _ (fun h => by cases h) ?_
        clear hK K
        have n5' : New wr w5 := ((New.refl wr).drew).trans n5
        have g2' := Keeps.heap n5' HG2.out (fun h => h)
        obtain ⟨r0, r1, f0, f1, hB2⟩ := wh_cells g2'
        obtain ⟨hst, kst⟩ := wh_stored g2' (.bool false) (.slice (some ⟨w.heap.size + 3, 0, none⟩) nz (i + 1))
        obtain ⟨q0, q1, y0, y1, hq⟩ := wh_cells hst
        have hfin : WhRes w false (x * 10) (.returned (.agg #[.bool false, .slice (some ⟨w.heap.size + 3, 0, none⟩) nz (i + 1)])) ((w5.setCell ⟨w.heap.size + 2, 0, none⟩ (.bool false)).setCell ⟨w.heap.size + 2, 1, none⟩ (.slice (some ⟨w.heap.size + 3, 0, none⟩) nz (i + 1))) := by
          refine ⟨_, _, by rw [HEZ.out], New.keeps (HN.out.trans n5') kst (fun i hi hx => by omega), ?_, by rw [HEZ.out]; unfold Rm; constructor <;> omega⟩
          have h := ((HSL.out.new n5').keeps kst (fun ad had hb => by cases had; simp only at hb; omega)).take nz
          unfold dgs
          rw [HEZ.out]
          unfold Is at h ⊢
          rw [← List.map_take, dgl_take _ _ _ hle] at h
          exact h
        rw [← HPO.out] at hfin
        have HFIN := Lib.hid hfin
        clear hfin hst kst n5 n5' htr
        refine anyX_one 8 (by kernel_rfl) ?_
        intro oi ho; simp only [List.getElem?_toArray, List.getElem?_cons_succ, List.getElem?_cons_zero, Option.some.injEq] at ho; subst ho; intro K hK
        (try simp only [Act.put, List.setIfInBounds_toArray, List.set_cons_zero, List.set_cons_succ])
        go_simp
        refine hK _ _ (fun h => by cases h) ?_
        clear hK K
        refine anyX_done (by kernel_rfl) ?_
        (try simp only [Act.put, List.setIfInBounds_toArray, List.set_cons_zero, List.set_cons_succ])
        simp only [Exit.then]
        go_wp2_with fail
        refine bodyPost_ret (v := .agg #[.bool false, .slice (some ⟨w.heap.size + 3, 0, none⟩) nz (i + 1)]) (by simp [results, Tryd.results43, go_sem, q0, q1, y0, y1, hq]) rfl ?_
        exact HFIN.out
end Go.Proofs.YtmmoocbnmjmfeaaDoor
