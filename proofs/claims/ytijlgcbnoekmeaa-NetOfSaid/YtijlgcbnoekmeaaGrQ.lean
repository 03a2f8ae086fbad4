/-
  Layer 8: the checker's open.
-/
import Derived.Test.YtijlgcbnoekmeaaGrO
namespace Go.Proofs.Ytijlgcbnoekmeaa
open Go Go.RowKit Go.Joins
set_option linter.all false

def badR (l : List Bool) : Bool := l.any (fun b => !b)
theorem badR_hit {l : List Bool} {j : Nat} (hj : j < l.length) (h : l[j] = false) : badR l = true := by
  unfold badR; exact List.any_eq_true.2 ⟨l[j], List.getElem_mem hj, by simp [h]⟩
theorem badR_none {l : List Bool} (h : ∀ j (hj : j < l.length), l[j] = true) : badR l = false := by
  unfold badR
  rw [List.any_eq_false]
  intro b hb
  obtain ⟨j, hj, rfl⟩ := List.getElem_of_mem hb
  simp [h j hj]
theorem badR_range (n : Nat) (T : Nat → Bool) : badR ((List.range n).map T) = (List.range n).any (fun k => !T k) := by
  unfold badR; rw [List.any_map]; rfl
def openF (g : Gr) (i : Nat) (x : GAct) : Int × Int := (if openE g i x then 87 else 0, 0)
theorem row_mem {g : Gr} {n : GAct → Nat} {T : Int → Int → Bool} {L : List (Nat × List Bool)} (h : L.map (·.2) = side g n T) {a : Nat} (ha : a < g.acts.length) (hl : a < L.length) : L[a].2 = (List.range (n g.acts[a])).map fun (p : Nat) => T a p := by
  have := rows_get h ha
  rwa [List.getD_eq_getElem?_getD, List.getElem?_eq_getElem hl] at this
set_option maxRecDepth 100000 in
set_option maxHeartbeats 16000000 in
theorem copen_any (w : World) (B C M : Nat) (g : Gr) (ns : List ByteArray) (ia : Option Addr) (ic : Nat) (IL : List (Nat × List Bool)) (oa : Option Addr) (oc : Nat) (OL : List (Nat × List Bool)) (hal : g.acts.length ≤ 32)
    (h : Chk w B C M g ns ia ic IL oa oc OL) (hIL : IL.map (·.2) = side g nIn (inTk g g.edges.length g.ins.length)) (hOL : OL.map (·.2) = side g nOut (outTk g g.edges.length g.outs.length)) :
    Calls Try.prog 65 #[.pointer (some ⟨C, 0, none⟩)] w fun e w' => Stage (firstE (openF g) 0 g.acts) 1 (fun _ => True) e w' ∧ KP B w w' := by
  obtain ⟨⟨c0, c1, c2, c3, c4, -, -, -⟩, -, hCl⟩ := chk_cells h.blk
  have HI := Lib.hid hIL
  have HO := Lib.hid hOL
  clear hIL hOL
  go_enter Try.func65, Try.ntmps65
  go_wp2_with fail
  have k0 : New w (w.alloc (.cells #[.int .u8 0, I 0, I 0] 95)) := (New.refl w).alloc _
  have hbx : (w.alloc (.cells #[.int .u8 0, I 0, I 0] 95)).heap[w.heap.size]? = some (.cells #[.int .u8 0, I 0, I 0] 95 (0, 0)) := heap_alloc_new w _
  generalize (w.alloc (.cells #[.int .u8 0, I 0, I 0] 95)) = v0 at k0 hbx ⊢
  clear c0 c1 c2 c3 c4
  have hCh := h.new k0
  clear h hCl
  go_loopw [15] (fun i wr => ∃ (k : Nat), k ≤ g.acts.length ∧ i = .int .i64 k ∧
      Hid ((∀ j (hj : j < g.acts.length), j < k → (openF g j g.acts[j]).1 = 0) ∧ wr.heap[w.heap.size]? = some (.cells #[.int .u8 0, I 0, I 0] 95 (0, 0)) ∧ New v0 wr)) (fun i _ => g.acts.length - (intOf i).toNat)
  case atStart => exact ⟨0, by omega, rfl, Lib.hid ⟨fun j hj hjk => by omega, hbx, New.refl _⟩⟩
  case round =>
    clear hbx
    obtain ⟨k, hk, rfl, HR⟩ := hrel
    obtain ⟨hE, hb, hNr⟩ := HR.out
    have HE := Lib.hid hE
    have HB := Lib.hid hb
    clear hE hb HR
    have hC := hCh.new hNr
    have hKB := (KX.of_new (p := chkP) (B := B) k0).trans (KX.of_new hNr)
    by_cases hk1 : k < g.acts.length
    · have hkI : (k : Int) < (g.acts.length : Int) := by omega
      have hkd : decide (k < g.acts.length) = true := decide_eq_true hk1
      have hli := rows_len HI.out
      have hlo := rows_len HO.out
      have hiI : (k : Int) < (IL.length : Int) := by omega
      have hoI : (k : Int) < (OL.length : Int) := by omega
      have hi1 : k < IL.length := by omega
      have ho1 : k < OL.length := by omega
      have HF : Hid ((openF g k g.acts[k]).1 ≠ 0 → firstE (openF g) 0 g.acts = some (k, openF g k g.acts[k])) := Lib.hid (fun h => firstE_skip hk1 HE.out h)
      have HE2 : Hid ((openF g k g.acts[k]).1 = 0 → ∀ j (hj : j < g.acts.length), j < k + 1 → (openF g j g.acts[j]).1 = 0) := Lib.hid (fun h j hj hjk => by
        by_cases e : j = k
        · subst e; exact h
        · exact HE.out j hj (by omega))
      have hOE : Hid (openF g k g.acts[k] = (if badR IL[k].2 || badR OL[k].2 then 87 else 0, 0)) := Lib.hid (by
        unfold openF openE; rw [row_mem HI.out hk1 hi1, row_mem HO.out hk1 ho1, badR_range, badR_range])
      have hgi := (gridLen_side HI.out hal nIn_few).2 _ (List.getElem_mem hi1)
      have hgo := (gridLen_side HO.out hal nOut_few).2 _ (List.getElem_mem ho1)
      obtain ⟨⟨-, -, -, -, -, -, c6, c7⟩, -, hCl⟩ := chk_cells hC.blk
      have hrI := Lib.hid (hC.gi.row _ (List.getElem_mem hi1))
      have hrO := Lib.hid (hC.go.row _ (List.getElem_mem ho1))
      obtain ⟨b1, o1, hia, t1⟩ := (SlAt.of_owns hC.gi.tab).at (i := k) (by simpa using hi1)
      obtain ⟨b2, o2, hoa, t2⟩ := (SlAt.of_owns hC.go.tab).at (i := k) (by simpa using ho1)
      simp only [List.getElem_map] at t1 t2
      have hb1 : b1 < wr.heap.size := World.block_lt_of_cell? wr _ t1
      have hb2 : b2 < wr.heap.size := World.block_lt_of_cell? wr _ t2
      rw [hia] at c6
      rw [hoa] at c7
      clear hC hli hlo hia hoa HE
      generalize openF g k g.acts[k] = oF at HF HE2 hOE
      generalize IL[k] = r1 at t1 hrI hgi hOE
      generalize OL[k] = r2 at t2 hrO hgo hOE
      go_wp2_with fail
      have hdr : New wr wr.drew := (New.refl wr).drew
      have hS0 : (fun w' : World => w'.cell? ⟨C, 6, none⟩ = some (.slice (some ⟨b1, o1, none⟩) IL.length ic) ∧ w'.cell? ⟨C, 7, none⟩ = some (.slice (some ⟨b2, o2, none⟩) OL.length oc) ∧ w'.cell? ⟨b1, o1 + k, none⟩ = some (rowV r1) ∧ w'.cell? ⟨b2, o2 + k, none⟩ = some (rowV r2) ∧ C < w'.heap.size ∧ b1 < w'.heap.size ∧ b2 < w'.heap.size) wr.drew := ⟨hdr.cell c6, hdr.cell c7, hdr.cell t1, hdr.cell t2, hCl, hb1, hb2⟩
      clear c6 c7 t1 t2 hCl hb1 hb2
      refine wp_region_X (fun w' : World => w'.cell? ⟨C, 6, none⟩ = some (.slice (some ⟨b1, o1, none⟩) IL.length ic) ∧ w'.cell? ⟨C, 7, none⟩ = some (.slice (some ⟨b2, o2, none⟩) OL.length oc) ∧ w'.cell? ⟨b1, o1 + k, none⟩ = some (rowV r1) ∧ w'.cell? ⟨b2, o2 + k, none⟩ = some (rowV r2) ∧ C < w'.heap.size ∧ b1 < w'.heap.size ∧ b2 < w'.heap.size) [] (by kernel_rfl) hS0 ?_
      refine anyX_take 0 (by kernel_rfl) (by kernel_rfl) (by kernel_rfl) (by kernel_rfl) (by kernel_rfl) hS0 ?_
      intro oi ho; simp only [List.getElem?_toArray, List.getElem?_cons_succ, List.getElem?_cons_zero, Option.some.injEq] at ho; subst ho
      refine ⟨?_, fun _ _ _ h => h, Or.inl ⟨by rfl, ?_⟩, ?_⟩; rotate_left 1
      · (intro wS hSw; (try dsimp only at hSw); go_simp; try with_reducible rfl)
      simp only [Act.put, List.setIfInBounds_toArray, List.set_cons_zero, List.set_cons_succ]
      refine anyX_take 1 (by kernel_rfl) (by kernel_rfl) (by kernel_rfl) (by kernel_rfl) (by kernel_rfl) hS0 ?_
      intro oi ho; simp only [List.getElem?_toArray, List.getElem?_cons_succ, List.getElem?_cons_zero, Option.some.injEq] at ho; subst ho
      refine ⟨?_, fun _ _ _ h => h, Or.inl ⟨by rfl, ?_⟩, ?_⟩; rotate_left 1
      · (intro wS hSw; (try dsimp only at hSw); go_simp; try with_reducible rfl)
      simp only [Act.put, List.setIfInBounds_toArray, List.set_cons_zero, List.set_cons_succ]
      refine anyX_take 2 (by kernel_rfl) (by kernel_rfl) (by kernel_rfl) (by kernel_rfl) (by kernel_rfl) hS0 ?_
      intro oi ho; simp only [List.getElem?_toArray, List.getElem?_cons_succ, List.getElem?_cons_zero, Option.some.injEq] at ho; subst ho
      refine ⟨?_, fun _ _ _ h => h, Or.inl ⟨by rfl, ?_⟩, ?_⟩; rotate_left 1
      · (intro wS hSw; (try dsimp only at hSw); go_simp; try with_reducible rfl)
      simp only [Act.put, List.setIfInBounds_toArray, List.set_cons_zero, List.set_cons_succ]
      refine anyX_take 3 (by kernel_rfl) (by kernel_rfl) (by kernel_rfl) (by kernel_rfl) (by kernel_rfl) hS0 ?_
      intro oi ho; simp only [List.getElem?_toArray, List.getElem?_cons_succ, List.getElem?_cons_zero, Option.some.injEq] at ho; subst ho
      refine ⟨?_, fun _ _ _ h => h, Or.inl ⟨by rfl, ?_⟩, ?_⟩; rotate_left 1
      · (intro wS hSw; (try dsimp only at hSw); go_simp; try with_reducible rfl)
      simp only [Act.put, List.setIfInBounds_toArray, List.set_cons_zero, List.set_cons_succ]
      refine anyX_take 4 (by kernel_rfl) (by kernel_rfl) (by kernel_rfl) (by kernel_rfl) (by kernel_rfl) hS0 ?_
      intro oi ho; simp only [List.getElem?_toArray, List.getElem?_cons_succ, List.getElem?_cons_zero, Option.some.injEq] at ho; subst ho
      refine ⟨?_, fun _ _ _ h => h, Or.inl ⟨by rfl, ?_⟩, ?_⟩; rotate_left 1
      · (intro wS hSw; (try dsimp only at hSw); go_simp; try with_reducible rfl)
      simp only [Act.put, List.setIfInBounds_toArray, List.set_cons_zero, List.set_cons_succ]
      refine anyX_take 5 (by kernel_rfl) (by kernel_rfl) (by kernel_rfl) (by kernel_rfl) (by kernel_rfl) hS0 ?_
      intro oi ho; simp only [List.getElem?_toArray, List.getElem?_cons_succ, List.getElem?_cons_zero, Option.some.injEq] at ho; subst ho
      refine ⟨?_, fun _ _ _ h => h, Or.inl ⟨by rfl, ?_⟩, ?_⟩; rotate_left 1
      · (intro wS hSw; (try dsimp only at hSw); go_simp; try with_reducible rfl)
      simp only [Act.put, List.setIfInBounds_toArray, List.set_cons_zero, List.set_cons_succ]
      refine anyX_take 6 (by kernel_rfl) (by kernel_rfl) (by kernel_rfl) (by kernel_rfl) (by kernel_rfl) hS0 ?_
      intro oi ho; simp only [List.getElem?_toArray, List.getElem?_cons_succ, List.getElem?_cons_zero, Option.some.injEq] at ho; subst ho
      refine ⟨?_, fun _ _ _ h => h, Or.inl ⟨by rfl, ?_⟩, ?_⟩; rotate_left 1
      · (intro wS hSw; (try dsimp only at hSw); go_simp; try with_reducible rfl)
      simp only [Act.put, List.setIfInBounds_toArray, List.set_cons_zero, List.set_cons_succ]
      refine anyX_take 7 (by kernel_rfl) (by kernel_rfl) (by kernel_rfl) (by kernel_rfl) (by kernel_rfl) hS0 ?_
      intro oi ho; simp only [List.getElem?_toArray, List.getElem?_cons_succ, List.getElem?_cons_zero, Option.some.injEq] at ho; subst ho
      refine ⟨?_, fun _ _ _ h => h, Or.inl ⟨by rfl, ?_⟩, ?_⟩; rotate_left 1
      · (intro wS hSw; (try dsimp only at hSw); go_simp; try with_reducible rfl)
      simp only [Act.put, List.setIfInBounds_toArray, List.set_cons_zero, List.set_cons_succ]
      refine anyX_take 8 (by kernel_rfl) (by kernel_rfl) (by kernel_rfl) (by kernel_rfl) (by kernel_rfl) hS0 ?_
      intro oi ho; simp only [List.getElem?_toArray, List.getElem?_cons_succ, List.getElem?_cons_zero, Option.some.injEq] at ho; subst ho
      refine ⟨?_, fun _ _ _ h => h, Or.inl ⟨by rfl, ?_⟩, ?_⟩; rotate_left 1
      · (intro wS hSw; (try dsimp only at hSw); go_simp; try with_reducible rfl)
      simp only [Act.put, List.setIfInBounds_toArray, List.set_cons_zero, List.set_cons_succ]
      refine anyX_take 9 (by kernel_rfl) (by kernel_rfl) (by kernel_rfl) (by kernel_rfl) (by kernel_rfl) hS0 ?_
      intro oi ho; simp only [List.getElem?_toArray, List.getElem?_cons_succ, List.getElem?_cons_zero, Option.some.injEq] at ho; subst ho
      refine ⟨?_, fun _ _ _ h => h, Or.inl ⟨by rfl, ?_⟩, ?_⟩; rotate_left 1
      · (intro wS hSw; (try dsimp only at hSw); go_simp; try with_reducible rfl)
      simp only [Act.put, List.setIfInBounds_toArray, List.set_cons_zero, List.set_cons_succ]
      refine anyX_take 10 (by kernel_rfl) (by kernel_rfl) (by kernel_rfl) (by kernel_rfl) (by kernel_rfl) hS0 ?_
      intro oi ho; simp only [List.getElem?_toArray, List.getElem?_cons_succ, List.getElem?_cons_zero, Option.some.injEq] at ho; subst ho
      refine ⟨?_, fun _ _ _ h => h, Or.inl ⟨by rfl, ?_⟩, ?_⟩; rotate_left 1
      · (intro wS hSw; (try dsimp only at hSw); go_simp; try with_reducible rfl)
      simp only [Act.put, List.setIfInBounds_toArray, List.set_cons_zero, List.set_cons_succ]
      refine anyX_take 11 (by kernel_rfl) (by kernel_rfl) (by kernel_rfl) (by kernel_rfl) (by kernel_rfl) hS0 ?_
      intro oi ho; simp only [List.getElem?_toArray, List.getElem?_cons_succ, List.getElem?_cons_zero, Option.some.injEq] at ho; subst ho
      refine ⟨?_, fun _ _ _ h => h, Or.inl ⟨by rfl, ?_⟩, ?_⟩; rotate_left 1
      · (intro wS hSw; (try dsimp only at hSw); go_simp; try with_reducible rfl)
      simp only [Act.put, List.setIfInBounds_toArray, List.set_cons_zero, List.set_cons_succ]
      refine anyX_take 12 (by kernel_rfl) (by kernel_rfl) (by kernel_rfl) (by kernel_rfl) (by kernel_rfl) hS0 ?_
      intro oi ho; simp only [List.getElem?_toArray, List.getElem?_cons_succ, List.getElem?_cons_zero, Option.some.injEq] at ho; subst ho
      refine ⟨?_, fun _ _ _ h => h, Or.inl ⟨by rfl, ?_⟩, ?_⟩; rotate_left 1
      · (intro wS hSw; (try dsimp only at hSw); go_simp; try with_reducible rfl)
      simp only [Act.put, List.setIfInBounds_toArray, List.set_cons_zero, List.set_cons_succ]
      refine anyX_take 13 (by kernel_rfl) (by kernel_rfl) (by kernel_rfl) (by kernel_rfl) (by kernel_rfl) hS0 ?_
      intro oi ho; simp only [List.getElem?_toArray, List.getElem?_cons_succ, List.getElem?_cons_zero, Option.some.injEq] at ho; subst ho
      refine ⟨?_, fun _ _ _ h => h, Or.inl ⟨by rfl, ?_⟩, ?_⟩; rotate_left 1
      · (intro wS hSw; (try dsimp only at hSw); go_simp; try with_reducible rfl)
      simp only [Act.put, List.setIfInBounds_toArray, List.set_cons_zero, List.set_cons_succ]
      refine anyX_take 16 (by kernel_rfl) (by kernel_rfl) (by kernel_rfl) (by kernel_rfl) (by kernel_rfl) hS0 ?_
      intro oi ho; simp only [List.getElem?_toArray, List.getElem?_cons_succ, List.getElem?_cons_zero, Option.some.injEq] at ho; subst ho
      refine ⟨?_, fun _ _ _ h => h, Or.inl ⟨by rfl, ?_⟩, ?_⟩; rotate_left 1
      · (intro wS hSw; (try dsimp only at hSw); go_simp; try with_reducible rfl)
      simp only [Act.put, List.setIfInBounds_toArray, List.set_cons_zero, List.set_cons_succ]
      refine anyX_one 14 (by kernel_rfl) ?_
      intro oi ho; simp only [List.getElem?_toArray, List.getElem?_cons_succ, List.getElem?_cons_zero, Option.some.injEq] at ho; subst ho; intro K hK
      (try simp only [Act.put, List.setIfInBounds_toArray, List.set_cons_zero, List.set_cons_succ])
      go_simp
      have kz1 : New wr.drew (wr.drew.alloc (.cells #[rowV r1, rowV r2] 122)) := (New.refl _).alloc _
      have hS1 : (fun w' : World => w'.cell? ⟨C, 6, none⟩ = some (.slice (some ⟨b1, o1, none⟩) IL.length ic) ∧ w'.cell? ⟨C, 7, none⟩ = some (.slice (some ⟨b2, o2, none⟩) OL.length oc) ∧ w'.cell? ⟨b1, o1 + k, none⟩ = some (rowV r1) ∧ w'.cell? ⟨b2, o2 + k, none⟩ = some (rowV r2) ∧ C < w'.heap.size ∧ b1 < w'.heap.size ∧ b2 < w'.heap.size) (wr.drew.alloc (.cells #[rowV r1, rowV r2] 122)) := by
        obtain ⟨s1, s2, s3, s4, s5, s6, s7⟩ := hS0
        have := kz1.size
        exact ⟨kz1.cell s1, kz1.cell s2, kz1.cell s3, kz1.cell s4, by omega, by omega, by omega⟩
      refine hK _ _ (fun _ => hS1) ?_
      clear hK K
      refine anyX_one 15 (by kernel_rfl) ?_
      intro oi ho; simp only [List.getElem?_toArray, List.getElem?_cons_succ, List.getElem?_cons_zero, Option.some.injEq] at ho; subst ho; intro K hK
      (try simp only [Act.put, List.setIfInBounds_toArray, List.set_cons_zero, List.set_cons_succ])
      go_simp
      refine hK _ _ (fun _ => hS1) ?_
      clear hK K hS1 kz1
      refine anyX_done (by kernel_rfl) ?_
      (try simp only [Act.put, List.setIfInBounds_toArray, List.set_cons_zero, List.set_cons_succ])
      (try simp only [Exit.then])
      have kz : New wr (wr.alloc (.cells #[rowV r1, rowV r2] 122)).drew := ((New.refl wr).alloc _).drew
      have hz : (wr.alloc (.cells #[rowV r1, rowV r2] 122)).drew.heap[wr.heap.size]? = some (.cells #[rowV r1, rowV r2] 122 (0, 0)) := heap_alloc_new wr _
      generalize (wr.alloc (.cells #[rowV r1, rowV r2] 122)).drew = v1 at kz hz ⊢
      generalize wr.heap.size = Z at hz ⊢
      replace hrI := Lib.hid (Keeps.heap kz hrI.out (fun h => h))
      replace hrO := Lib.hid (Keeps.heap kz hrO.out (fun h => h))
      replace HB := Lib.hid (Keeps.heap kz HB.out (fun h => h))
      replace hKB := hKB.trans (KX.of_new kz)
      replace hNr := hNr.trans kz
      clear kz hdr hS0
      have HZ := Lib.hid hz
      clear hz
      go_wp2_with fail
      go_loop [34] (fun i => ∃ j : Nat, j ≤ 2 ∧ i = .int .i64 j ∧ Hid ((1 ≤ j → badR r1.2 = false) ∧ (2 ≤ j → badR r2.2 = false))) (fun i => 2 - (intOf i).toNat)
      case atStart => exact ⟨0, by omega, rfl, Lib.hid ⟨fun h => by omega, fun h => by omega⟩⟩
      case round =>
        obtain ⟨j, hj, rfl, HJ⟩ := hrel
        by_cases hj2 : j < 2
        · have hjI : (j : Int) < 2 := by omega
          have hjd : decide (j < 2) = true := decide_eq_true hj2
          have hrow : ∃ r : Nat × List Bool, v1.cell? ⟨Z, j, none⟩ = some (.slice (some ⟨r.1, 0, none⟩) r.2.length r.2.length) ∧ Hid (v1.heap[r.1]? = some (.cells (r.2.map Value.bool).toArray 4 (0, 0))) ∧ r.2.length ≤ 64 ∧ Hid (badR r.2 = true → oF = (87, 0)) ∧ Hid (badR r.2 = false → ((1 ≤ j + 1 → badR r1.2 = false) ∧ (2 ≤ j + 1 → badR r2.2 = false))) := by
            by_cases e0 : j = 0
            · subst e0
              exact ⟨r1, by rw [cell_of_block HZ.out 0]; rfl, hrI, hgi, Lib.hid (fun h => by rw [hOE.out, h]; rfl), Lib.hid (fun h => ⟨fun _ => h, fun h2 => by omega⟩)⟩
            · obtain rfl : j = 1 := by omega
              exact ⟨r2, by rw [cell_of_block HZ.out 1]; rfl, hrO, hgo, Lib.hid (fun h => by rw [hOE.out, h]; simp), Lib.hid (fun h => ⟨fun _ => HJ.out.1 (by omega), fun _ => h⟩)⟩
          obtain ⟨r, hrc, hrb, hrl, hbad, hgood⟩ := hrow
          have hZl : Z < v1.heap.size := World.block_lt_of_cell? v1 _ hrc
          clear HJ hrI hrO hgi hgo
          go_wp2_with fail
          go_loop [40] (fun i => ∃ m : Nat, m ≤ r.2.length ∧ i = .int .i64 m ∧ Hid (∀ q (hq : q < r.2.length), q < m → r.2[q] = true)) (fun i => r.2.length - (intOf i).toNat)
          case atStart => exact ⟨0, by omega, rfl, Lib.hid (fun q hq hq0 => by omega)⟩
          case round =>
            obtain ⟨m, hm, rfl, HM⟩ := hrel
            by_cases hm1 : m < r.2.length
            · have hmI : (m : Int) < (r.2.length : Int) := by omega
              have hmd : decide (m < r.2.length) = true := decide_eq_true hm1
              have hbit : v1.cell? ⟨r.1, m, none⟩ = some (.bool r.2[m]) := by
                rw [cell_of_block hrb.out m]; simp [hm1]
              have hrl2 : r.1 < v1.heap.size := World.block_lt_of_cell? v1 _ hbit
              cases hq : r.2[m] with
              | true =>
                rw [hq] at hbit
                have HM2 : Hid (∀ q (hq : q < r.2.length), q < m + 1 → r.2[q] = true) := Lib.hid (fun q hq2 hqm => by
                  by_cases e : q = m
                  · subst e; exact hq
                  · exact HM.out q hq2 (by omega))
                clear hq HM
                go_wp2_with fail
                go_round
                case rel => exact ⟨m + 1, by omega, by go_num, HM2⟩
                case measure => simp [intOf]; omega
              | false =>
                rw [hq] at hbit
                have hO := Lib.hid (hbad.out (badR_hit hm1 hq))
                have HF2 := Lib.hid (HF.out (by rw [hO.out]; decide))
                clear hq HM hbad hgood HE2 HF hOE
                obtain ⟨⟨r0, r1, r2⟩, ⟨f0, f1, f2⟩, hBB⟩ := spot_cells HB.out
                go_wp2_with fail
                exact bodyPost_ret (v := .tuple #[I 87, .agg #[.int .u8 1, I k, I 0]]) (by simp [results, Try.results65, go_sem, r0, r1, r2, f0, f1, f2, hBB]) rfl ⟨by unfold Stage; rw [HF2.out, hO.out]; rfl, ((hKB.setCell (Nat.le_refl _) _).setCell (Nat.le_refl _) _).setCell (Nat.le_refl _) _⟩
            · have hmd : decide (m < r.2.length) = false := decide_eq_false hm1
              have HJ2 := Lib.hid (hgood.out (badR_none (fun q hq => HM.out q hq (by omega))))
              clear HM hgood hbad hm hm1
              go_wp2_with fail
              go_round
              case rel => exact ⟨j + 1, by omega, by go_num, HJ2⟩
              case measure => simp [intOf]; omega
        · have hjd : decide (j < 2) = false := decide_eq_false hj2
          have hjI : (2 : Int) ≤ (j : Int) := by omega
          have hjI2 : decide ((j : Int) < 2) = false := decide_eq_false (by omega)
          have hO : Hid (oF = (0, 0)) := Lib.hid (by rw [hOE.out, HJ.out.1 (by omega), HJ.out.2 (by omega)]; rfl)
          have HG2 := Lib.hid (HE2.out (by rw [hO.out]))
          clear HJ hOE HE2 HF hj2 hj
          go_wp2_with fail
          go_roundw
          case rel => exact ⟨k + 1, by omega, by go_num, Lib.hid ⟨HG2.out, HB.out, hNr⟩⟩
          case measure => simp [intOf]; omega
    · have hke : k = g.acts.length := by omega
      have hkd : decide (k < g.acts.length) = false := decide_eq_false hk1
      rw [hke] at HE
      have HFN : Hid (firstE (openF g) 0 g.acts = none) := Lib.hid (firstE_all HE.out)
      clear HE hke hk hk1 hC
      obtain ⟨⟨r0, r1, r2⟩, ⟨f0, f1, f2⟩, hBB⟩ := spot_cells HB.out
      go_wp2_with fail
      exact bodyPost_ret (v := .tuple #[I 0, .agg #[.int .u8 0, I 0, I 0]]) (by simp [results, Try.results65, go_sem, r0, r1, r2, f0, f1, f2, hBB]) rfl ⟨by unfold Stage; rw [HFN.out]; exact ⟨rfl, trivial⟩, ((hKB.setCell (Nat.le_refl _) _).setCell (Nat.le_refl _) _).setCell (Nat.le_refl _) _⟩
end Go.Proofs.Ytijlgcbnoekmeaa
