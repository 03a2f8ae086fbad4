/-
  Layer 5, the program's side: the cursor over tokens: next, wrong, take, mark.
-/
import Derived.Test.YtohalcbhckahmaaDoorSkP
import Derived.Test.YtohalcbhckahmaaDoorRegionX
import Derived.Recover
namespace Go.Proofs.YtohalcbhckahmaaDoor
open Go Go.RowKit Go.Joins
set_option linter.all false

theorem sk_panic {P : Program} {fn : Func} {R : Ending → World → Prop} {a : Act} {w : World} {c : List PanicEntry} (hd : a.defers = []) (h : R (.panicked c) w) : bodyPost P fn R (.panic c) a w := by
  first | exact ⟨hd, h⟩ | exact h
abbrev tokV (t : LTok) : Value := .agg #[.int .u8 t.sort, .string ⟨t.text.toArray⟩, I t.num, I t.at_]
/-- The parser at block G: the next token is the k-th of l. -/
structure PAt (w : World) (G : Nat) (l : List LTok) (a : Option Addr) (c k : Nat) : Prop where
  bk : w.heap[G]? = some (.cells #[.slice a l.length c, I k] 57 (0, 0))
  sl : SlAt w a (l.flatMap tokCells)
  ne : ¬ blk a G
  le : l.length ≤ 2000000
theorem PAt.new {w w' : World} {G : Nat} {l : List LTok} {a : Option Addr} {c k : Nat} (h : PAt w G l a c k) (n : New w w') : PAt w' G l a c k := ⟨Keeps.heap n h.bk (fun h => h), h.sl.new n, h.ne, h.le⟩
theorem PAt.cells {w : World} {G : Nat} {l : List LTok} {a : Option Addr} {c k : Nat} (h : PAt w G l a c k) : w.cell? ⟨G, 0, none⟩ = some (.slice a l.length c) ∧ w.cell? ⟨G, 1, none⟩ = some (I k) ∧ w.frozen? ⟨G, 1, none⟩ = false ∧ G < w.heap.size := by
  refine ⟨?_, ?_, unfrozen_of_block h.bk 1, (Array.getElem?_eq_some_iff.1 h.bk).1⟩
  · rw [cell_of_block h.bk 0]; simp
  · rw [cell_of_block h.bk 1]; simp
theorem sl_keeps {S : Nat → Prop} {w w' : World} {a : Option Addr} {xs : List Value} (h : SlAt w a xs) (k : Keeps S w w') (hS : ∀ g, blk a g → ¬ S g) : SlAt w' a xs := fun i hi => by
  obtain ⟨b, off, e, hc⟩ := h i hi
  exact ⟨b, off, e, k.cell hc (hS _ ⟨_, e, rfl⟩)⟩
theorem PAt.out0 {w : World} {G : Nat} {l : List LTok} {a : Option Addr} {c k R : Nat} (h : PAt w G l a c k) (hl : 0 < l.length) (hR : w.heap.size ≤ R) : ¬ blk a R := by
  obtain ⟨b, o, e, q, -⟩ := toks_at h.sl hl
  have := World.block_lt_of_cell? w _ q
  rintro ⟨x, hx, rfl⟩
  rw [e] at hx
  cases hx
  simp only at this hR
  omega
theorem PAt.go {w : World} {G : Nat} {l : List LTok} {a : Option Addr} {c k : Nat} (h : PAt w G l a c k) (j : Nat) : PAt (w.setCell ⟨G, 1, none⟩ (I j)) G l a c j ∧ Keeps (fun k => k = G) w (w.setCell ⟨G, 1, none⟩ (I j)) := by
  have ks : Keeps (fun k => k = G) w (w.setCell ⟨G, 1, none⟩ (I j)) := Keeps.setCell w _ _ rfl
  refine ⟨⟨?_, sl_keeps h.sl ks (fun g hg e => h.ne (e ▸ hg)), h.ne, h.le⟩, ks⟩
  rw [block_setCell h.bk]; simp
/-- What a wrong token ends in. -/
def wrongV (at_ : Nat) : Value := .iface 27 (.agg #[I 50, I at_])
def atT (l : List LTok) (k : Nat) : Nat := (l[k]?.map LTok.at_).getD 0
def PBad (w : World) (G : Nat) (l : List LTok) (k : Nat) (e : Ending) (w' : World) : Prop := e = .panicked [{ v := wrongV (atT l k), recovered := false }] ∧ Keeps (fun k => k = G) w w'
def POk (w : World) (G : Nat) (l : List LTok) (a : Option Addr) (c : Nat) (v : Value) (k : Nat) (e : Ending) (w' : World) : Prop := e = .returned v ∧ PAt w' G l a c k ∧ Keeps (fun k => k = G) w w'
def PAs {α : Type} (w : World) (G : Nat) (l : List LTok) (a : Option Addr) (c : Nat) (val : α → Value) (res : PR α) (e : Ending) (w' : World) : Prop := match res with
  | .bad k => PBad w G l k e w'
  | .good x k => POk w G l a c (val x) k e w'
theorem tok_fld (a b c d : Value) (W : World) : (Instr.field 50 (.agg #[a, b, c, d]) 0).run Tryd.prog W = .ok a W ∧ (Instr.field 50 (.agg #[a, b, c, d]) 1).run Tryd.prog W = .ok b W ∧
    (Instr.field 50 (.agg #[a, b, c, d]) 2).run Tryd.prog W = .ok c W ∧ (Instr.field 50 (.agg #[a, b, c, d]) 3).run Tryd.prog W = .ok d W := ⟨by kernel_rfl, by kernel_rfl, by kernel_rfl, by kernel_rfl⟩
theorem tok_blk (w : World) (x0 x1 x2 x3 : Value) : (w.alloc (.cells #[x0, x1, x2, x3] 50)).heap[w.heap.size]? = some (.cells #[x0, x1, x2, x3] 50 (0, 0)) := heap_alloc_new w _
theorem tok_set {w : World} {R : Nat} {x0 x1 x2 x3 : Value} (h : w.heap[R]? = some (.cells #[x0, x1, x2, x3] 50 (0, 0))) (u0 u1 u2 u3 : Value) :
    ((((w.setCell ⟨R, 0, none⟩ u0).setCell ⟨R, 1, none⟩ u1).setCell ⟨R, 2, none⟩ u2).setCell ⟨R, 3, none⟩ u3).heap[R]? = some (.cells #[u0, u1, u2, u3] 50 (0, 0)) ∧ Keeps (fun k => k = R) w ((((w.setCell ⟨R, 0, none⟩ u0).setCell ⟨R, 1, none⟩ u1).setCell ⟨R, 2, none⟩ u2).setCell ⟨R, 3, none⟩ u3) := by
  have h1 := block_setCell (i := 0) h u0
  have h2 := block_setCell (i := 1) h1 u1
  have h3 := block_setCell (i := 2) h2 u2
  have h4 := block_setCell (i := 3) h3 u3
  refine ⟨by rw [h4]; simp, ((((Keeps.setCell (S := fun k => k = R) w _ _ rfl).trans (Keeps.setCell (S := fun k => k = R) _ _ _ rfl) (fun _ _ h => h)).trans (Keeps.setCell (S := fun k => k = R) _ _ _ rfl) (fun _ _ h => h)).trans (Keeps.setCell (S := fun k => k = R) _ _ _ rfl) (fun _ _ h => h))⟩
theorem tok_get {w : World} {R : Nat} {x0 x1 x2 x3 : Value} (h : w.heap[R]? = some (.cells #[x0, x1, x2, x3] 50 (0, 0))) :
    w.cell? ⟨R, 0, none⟩ = some x0 ∧ w.cell? ⟨R, 1, none⟩ = some x1 ∧ w.cell? ⟨R, 2, none⟩ = some x2 ∧ w.cell? ⟨R, 3, none⟩ = some x3 ∧ (∀ i, w.frozen? ⟨R, i, none⟩ = false) ∧ R < w.heap.size := by
  refine ⟨?_, ?_, ?_, ?_, fun i => unfrozen_of_block h i, (Array.getElem?_eq_some_iff.1 h).1⟩
  · rw [cell_of_block h 0]; rfl
  · rw [cell_of_block h 1]; rfl
  · rw [cell_of_block h 2]; rfl
  · rw [cell_of_block h 3]; rfl
set_option maxRecDepth 100000 in
set_option maxHeartbeats 4000000 in
theorem pnext_any (w : World) (G : Nat) (l : List LTok) (a : Option Addr) (c k : Nat) (h : PAt w G l a c k) (hk : k < l.length) (t : LTok) (ht : l[k]? = some t) :
    Calls Tryd.prog 26 #[.pointer (some ⟨G, 0, none⟩)] w fun e w' => e = .returned (tokV t) ∧ New w w' := by
  have na : New w (w.alloc (.cells #[.int .u8 0, .string ⟨#[]⟩, I 0, I 0] 50)) := (New.refl w).alloc _
  have hb := tok_blk w (.int .u8 0) (.string ⟨#[]⟩) (I 0) (I 0)
  have h2 := h.new na
  obtain ⟨c0, c1, -, hG⟩ := h2.cells
  obtain ⟨b1, o1, e1, q0, q1, q2, q3⟩ := toks_at h2.sl hk
  have et : l[k] = t := by have := List.getElem?_eq_getElem hk; rw [this] at ht; exact Option.some.inj ht
  rw [et] at q0 q1 q2 q3
  have hle := h.le
  have hb1 : b1 < (w.alloc (.cells #[.int .u8 0, .string ⟨#[]⟩, I 0, I 0] 50)).heap.size := World.block_lt_of_cell? _ _ q0
  obtain ⟨y0, y1, y2, y3, z, hR⟩ := tok_get hb
  have z0 := z 0
  have z1 := z 1
  have z2 := z 2
  have z3 := z 3
  have HB := Lib.hid hb
  have HN := Lib.hid na
  have hkI : (k : Int) < (l.length : Int) := by omega
  obtain ⟨n, hn⟩ : ∃ n, l.length = n := ⟨_, rfl⟩
  rw [hn] at c0 hkI hle
  obtain ⟨so, tx, nu, at_⟩ := t
  subst e1
  obtain ⟨T, hT⟩ : ∃ T : ByteArray, (⟨tx.toArray⟩ : ByteArray) = T := ⟨_, rfl⟩
  simp only [hT] at q0 q1 q2 q3 ⊢
  clear h h2 hb na z hn et ht hk
  have HT := Lib.hid hT
  clear hT
  go_enter Tryd.func26, Tryd.ntmps26
  go_wp2_with fail
  obtain ⟨R, hRe⟩ : ∃ R, R = w.heap.size := ⟨_, rfl⟩
  rw [← hRe] at y0 y1 y2 y3 z0 z1 z2 z3 hR HB ⊢
  have HR := Lib.hid (Nat.le_of_eq hRe.symm)
  clear hRe
  generalize w.alloc (.cells #[.int .u8 0, .string ⟨#[]⟩, I 0, I 0] 50) = W at *
  have hS0 : (fun w' : World => w'.cell? ⟨G, 0, none⟩ = some (.slice (some ⟨b1, o1, none⟩) n c) ∧ w'.cell? ⟨G, 1, none⟩ = some (I (k : Int)) ∧ w'.cell? ⟨b1, o1 + k * 4, none⟩ = some (.int .u8 so) ∧ w'.cell? ⟨b1, o1 + k * 4 + 1, none⟩ = some (.string T) ∧ w'.cell? ⟨b1, o1 + k * 4 + 2, none⟩ = some (I nu) ∧ w'.cell? ⟨b1, o1 + k * 4 + 3, none⟩ = some (I (at_ : Int)) ∧ G < w'.heap.size ∧ b1 < w'.heap.size) W.drew := ⟨c0, c1, q0, q1, q2, q3, hG, hb1⟩
  refine wp_region_X (fun w' : World => w'.cell? ⟨G, 0, none⟩ = some (.slice (some ⟨b1, o1, none⟩) n c) ∧ w'.cell? ⟨G, 1, none⟩ = some (I (k : Int)) ∧ w'.cell? ⟨b1, o1 + k * 4, none⟩ = some (.int .u8 so) ∧ w'.cell? ⟨b1, o1 + k * 4 + 1, none⟩ = some (.string T) ∧ w'.cell? ⟨b1, o1 + k * 4 + 2, none⟩ = some (I nu) ∧ w'.cell? ⟨b1, o1 + k * 4 + 3, none⟩ = some (I (at_ : Int)) ∧ G < w'.heap.size ∧ b1 < w'.heap.size) [10] (by kernel_rfl) hS0 ?_
  refine anyX_take 0 (by kernel_rfl) (by kernel_rfl) (by kernel_rfl) (by kernel_rfl) (by kernel_rfl) hS0 ?_
  intro oi ho; simp only [List.getElem?_toArray, List.getElem?_cons_succ, List.getElem?_cons_zero, Option.some.injEq] at ho; subst ho
  refine ⟨?_, fun _ _ _ h => h, Or.inl ⟨by rfl, ?_⟩, ?_⟩; rotate_left 1
  · (intro wS hSw; (try dsimp only at hSw); go_simp; try with_reducible rfl)
  simp only [Act.put, List.setIfInBounds_toArray, List.set_cons_zero, List.set_cons_succ]
  refine anyX_take 1 (by kernel_rfl) (by kernel_rfl) (by kernel_rfl) (by kernel_rfl) (by kernel_rfl) hS0 ?_
  intro oi ho; simp only [List.getElem?_toArray, List.getElem?_cons_succ, List.getElem?_cons_zero, Option.some.injEq] at ho; subst ho
  refine ⟨?_, fun _ _ _ h => h, Or.inl ⟨by rfl, ?_⟩, ?_⟩; rotate_left 1
  · (intro wS hSw; (try dsimp only at hSw); go_simp; try with_reducible rfl)
  simp only [Act.put, List.setIfInBounds_toArray, List.set_cons_zero, List.set_cons_succ]
  refine anyX_take 2 (by kernel_rfl) (by kernel_rfl) (by kernel_rfl) (by kernel_rfl) (by kernel_rfl) hS0 ?_
  intro oi ho; simp only [List.getElem?_toArray, List.getElem?_cons_succ, List.getElem?_cons_zero, Option.some.injEq] at ho; subst ho
  refine ⟨?_, fun _ _ _ h => h, Or.inl ⟨by rfl, ?_⟩, ?_⟩; rotate_left 1
  · (intro wS hSw; (try dsimp only at hSw); go_simp; try with_reducible rfl)
  simp only [Act.put, List.setIfInBounds_toArray, List.set_cons_zero, List.set_cons_succ]
  refine anyX_take 3 (by kernel_rfl) (by kernel_rfl) (by kernel_rfl) (by kernel_rfl) (by kernel_rfl) hS0 ?_
  intro oi ho; simp only [List.getElem?_toArray, List.getElem?_cons_succ, List.getElem?_cons_zero, Option.some.injEq] at ho; subst ho
  refine ⟨?_, fun _ _ _ h => h, Or.inl ⟨by rfl, ?_⟩, ?_⟩; rotate_left 1
  · (intro wS hSw; (try dsimp only at hSw); go_simp; try with_reducible rfl)
  simp only [Act.put, List.setIfInBounds_toArray, List.set_cons_zero, List.set_cons_succ]
  refine anyX_take 4 (by kernel_rfl) (by kernel_rfl) (by kernel_rfl) (by kernel_rfl) (by kernel_rfl) hS0 ?_
  intro oi ho; simp only [List.getElem?_toArray, List.getElem?_cons_succ, List.getElem?_cons_zero, Option.some.injEq] at ho; subst ho
  refine ⟨?_, fun _ _ _ h => h, Or.inl ⟨by rfl, ?_⟩, ?_⟩; rotate_left 1
  · (intro wS hSw; (try dsimp only at hSw); go_simp; try with_reducible rfl)
  simp only [Act.put, List.setIfInBounds_toArray, List.set_cons_zero, List.set_cons_succ]
  refine anyX_take 5 (by kernel_rfl) (by kernel_rfl) (by kernel_rfl) (by kernel_rfl) (by kernel_rfl) hS0 ?_
  intro oi ho; simp only [List.getElem?_toArray, List.getElem?_cons_succ, List.getElem?_cons_zero, Option.some.injEq] at ho; subst ho
  refine ⟨?_, fun _ _ _ h => h, Or.inl ⟨by rfl, ?_⟩, ?_⟩; rotate_left 1
  · (intro wS hSw; (try dsimp only at hSw); go_simp; try with_reducible rfl)
  simp only [Act.put, List.setIfInBounds_toArray, List.set_cons_zero, List.set_cons_succ]
  refine anyX_take 6 (by kernel_rfl) (by kernel_rfl) (by kernel_rfl) (by kernel_rfl) (by kernel_rfl) hS0 ?_
  intro oi ho; simp only [List.getElem?_toArray, List.getElem?_cons_succ, List.getElem?_cons_zero, Option.some.injEq] at ho; subst ho
  refine ⟨?_, fun _ _ _ h => h, Or.inl ⟨by rfl, ?_⟩, ?_⟩; rotate_left 1
  · (intro wS hSw; (try dsimp only at hSw); go_simp; try with_reducible rfl)
  simp only [Act.put, List.setIfInBounds_toArray, List.set_cons_zero, List.set_cons_succ]
  refine anyX_take 7 (by kernel_rfl) (by kernel_rfl) (by kernel_rfl) (by kernel_rfl) (by kernel_rfl) hS0 ?_
  intro oi ho; simp only [List.getElem?_toArray, List.getElem?_cons_succ, List.getElem?_cons_zero, Option.some.injEq] at ho; subst ho
  refine ⟨?_, fun _ _ _ h => h, Or.inl ⟨by rfl, ?_⟩, ?_⟩; rotate_left 1
  · (intro wS hSw; (try dsimp only at hSw); go_simp; try with_reducible rfl)
  simp only [Act.put, List.setIfInBounds_toArray, List.set_cons_zero, List.set_cons_succ]
  refine anyX_take 8 (by kernel_rfl) (by kernel_rfl) (by kernel_rfl) (by kernel_rfl) (by kernel_rfl) hS0 ?_
  intro oi ho; simp only [List.getElem?_toArray, List.getElem?_cons_succ, List.getElem?_cons_zero, Option.some.injEq] at ho; subst ho
  refine ⟨?_, fun _ _ _ h => h, Or.inl ⟨by rfl, ?_⟩, ?_⟩; rotate_left 1
  · (intro wS hSw; (try dsimp only at hSw); go_simp; try with_reducible rfl)
  simp only [Act.put, List.setIfInBounds_toArray, List.set_cons_zero, List.set_cons_succ]
  refine anyX_take 9 (by kernel_rfl) (by kernel_rfl) (by kernel_rfl) (by kernel_rfl) (by kernel_rfl) hS0 ?_
  intro oi ho; simp only [List.getElem?_toArray, List.getElem?_cons_succ, List.getElem?_cons_zero, Option.some.injEq] at ho; subst ho
  refine ⟨?_, fun _ _ _ h => h, Or.inl ⟨by rfl, ?_⟩, ?_⟩; rotate_left 1
  · (intro wS hSw; (try dsimp only at hSw); go_simp; try with_reducible rfl)
  simp only [Act.put, List.setIfInBounds_toArray, List.set_cons_zero, List.set_cons_succ]
  refine anyX_one 10 (by kernel_rfl) ?_
  intro oi ho; simp only [List.getElem?_toArray, List.getElem?_cons_succ, List.getElem?_cons_zero, Option.some.injEq] at ho; subst ho; intro K hK
  (try simp only [Act.put, List.setIfInBounds_toArray, List.set_cons_zero, List.set_cons_succ])
  go_simp
  refine hK _ _ (fun h => absurd h (by decide)) ?_
  clear hK K
  refine anyX_done (by kernel_rfl) ?_
  (try simp only [Act.put, List.setIfInBounds_toArray, List.set_cons_zero, List.set_cons_succ])
  have hst := tok_set HB.out (.int .u8 so) (.string T) (I nu) (I (at_ : Int))
  have hfin : New w ((((W.setCell ⟨R, 0, none⟩ (.int .u8 so)).setCell ⟨R, 1, none⟩ (.string T)).setCell ⟨R, 2, none⟩ (I nu)).setCell ⟨R, 3, none⟩ (I (at_ : Int))).drew := (New.keeps HN.out hst.2 (fun i hi hx => by have := HR.out; omega)).drew
  have hb3 := hst.1
  generalize (((W.setCell ⟨R, 0, none⟩ (.int .u8 so)).setCell ⟨R, 1, none⟩ (.string T)).setCell ⟨R, 2, none⟩ (I nu)).setCell ⟨R, 3, none⟩ (I (at_ : Int)) = Wf at hb3 hfin ⊢
  obtain ⟨p0, p1, p2, p3, -, -⟩ := tok_get hb3
  clear hst hb3 y0 y1 y2 y3 z0 z1 z2 z3 q0 q1 q2 q3 c0 c1 hS0
  simp only [Exit.then]
  go_wp2_with fail
  refine bodyPost_ret (v := .agg #[.int .u8 so, .string T, I nu, I (at_ : Int)]) (by simp [results, Tryd.results26, go_sem, p0, p1, p2, p3]) rfl ?_
  exact ⟨by rw [← HT.out], hfin⟩
set_option maxRecDepth 100000 in
set_option maxHeartbeats 4000000 in
theorem pwrong_any (w : World) (G : Nat) (l : List LTok) (a : Option Addr) (c k : Nat) (h : PAt w G l a c k) (hk : k < l.length) :
    Calls Tryd.prog 27 #[.pointer (some ⟨G, 0, none⟩)] w fun e w' => e = .panicked [{ v := wrongV (atT l k), recovered := false }] ∧ New w w' := by
  have hn := pnext_any w G l a c k h hk l[k] (List.getElem?_eq_getElem hk)
  have e : atT l k = l[k].at_ := by unfold atT; rw [List.getElem?_eq_getElem hk]; rfl
  rw [e]
  generalize l[k] = t at hn ⊢
  obtain ⟨so, tx, nu, at_⟩ := t
  simp only [tokV] at hn ⊢
  generalize (⟨tx.toArray⟩ : ByteArray) = T at hn
  clear h e
  have f3 := fun W => (tok_fld (.int .u8 so) (.string T) (I nu) (I (at_ : Int)) W).2.2.2
  go_enter Tryd.func27, Tryd.ntmps27
  go_wp2_with fail
  refine hn.mono ?_
  rintro e w2 ⟨rfl, n2⟩
  go_wp2_with fail
  exact sk_panic rfl ⟨rfl, n2⟩
theorem pt_end {w W W1 Wf : World} {G R : Nat} {l : List LTok} {a : Option Addr} {c k : Nat} {cs : Array Value} (hn : New w W) (h : PAt W1 G l a c k) (k1 : Keeps (fun k => k = G) W W1) (k2 : Keeps (fun k => k = R) W1 Wf) (hb : W1.heap[R]? = some (.cells cs 50 (0, 0))) (hG : G ≠ R) (hR : w.heap.size ≤ R) (hne : ¬ blk a R) : PAt Wf G l a c k ∧ Keeps (fun k => k = G) w Wf :=
  ⟨⟨k2.heap h.bk hG, sl_keeps h.sl k2 (fun g hg e => hne (e ▸ hg)), h.ne, h.le⟩, ((Keeps.mono hn (fun _ _ h => h.elim)).trans k1 (fun _ _ h => h)).trans k2 (fun i hi e => by omega)⟩
theorem PBad.new {w w0 w' : World} {G : Nat} {l : List LTok} {k : Nat} {e : Ending} (n : New w0 w) (h : PBad w G l k e w') : PBad w0 G l k e w' := ⟨h.1, (Keeps.mono n (fun _ _ h => h.elim)).trans h.2 (fun _ _ h => h)⟩
set_option maxRecDepth 100000 in
set_option maxHeartbeats 4000000 in
theorem ptake_any (w : World) (G : Nat) (l : List LTok) (a : Option Addr) (c k : Nat) (so : Int) (h : PAt w G l a c k) (hk : k < l.length) :
    Calls Tryd.prog 28 #[.pointer (some ⟨G, 0, none⟩), .int .u8 so] w (PAs w G l a c tokV (takeP so l k)) := by
  rw [takeP_some (List.getElem?_eq_getElem hk)]
  have n0 : New w (w.alloc (.cells #[.int .u8 0, .string ⟨#[]⟩, I 0, I 0] 50)) := (New.refl w).alloc _
  have hn := fun W (n : New w W) => pnext_any W G l a c k (h.new n) hk l[k] (List.getElem?_eq_getElem hk)
  have hw := fun W (n : New w W) => pwrong_any W G l a c k (h.new n) hk
  have hb := tok_blk w (.int .u8 0) (.string ⟨#[]⟩) (I 0) (I 0)
  have H := Lib.hid h
  have hle := h.le
  have hGw := h.cells.2.2.2
  generalize l[k] = t at hn ⊢
  obtain ⟨so', tx, nu, at_⟩ := t
  simp only at hn ⊢
  obtain ⟨T, hT⟩ : ∃ T : ByteArray, (⟨tx.toArray⟩ : ByteArray) = T := ⟨_, rfl⟩
  simp only [tokV, hT] at hn ⊢
  have HT := Lib.hid hT
  have HB := Lib.hid hb
  have HN := Lib.hid n0
  clear h hT hb
  by_cases hs : so' = so
  · rw [if_pos hs]
    have d1 : (so' != so) = false := by simp [hs]
    have HS := Lib.hid hs
    clear hs hw
    go_enter Tryd.func28, Tryd.ntmps28
    go_wp2_with fail
    refine (hn _ n0).mono ?_
    rintro e w2 ⟨rfl, n2⟩
    have n3 : New w2 (w2.alloc (.cells #[.int .u8 so', .string T, I nu, I (at_ : Int)] 50)) := (New.refl w2).alloc _
    have hb3 := tok_blk w2 (.int .u8 so') (.string T) (I nu) (I (at_ : Int))
    obtain ⟨p0, p1, p2, p3, -, hp⟩ := tok_get hb3
    have H3 := H.out.new ((n0.trans n2).trans n3)
    obtain ⟨-, c1, z1, hG⟩ := H3.cells
    have hb2 := Keeps.heap (n2.trans n3) HB.out (fun h => h)
    obtain ⟨y0, y1, y2, y3, z, hR⟩ := tok_get hb2
    have x0 := z 0
    have x1 := z 1
    have x2 := z 2
    have x3 := z 3
    have HB2 := Lib.hid hb2
    have HB3 := Lib.hid hb3
    have H3' := Lib.hid H3
    have HN3 := Lib.hid ((n0.trans n2).trans n3)
    have hsz := (n0.trans n2).size
    have hw1 : IntKind.i64.wrap ((k : Int) + 1) = (k : Int) + 1 := IntWalk.i64_in _ (by omega)
    have hGs : G ≠ w.heap.size := by omega
    have hGs' : w.heap.size ≠ G := by omega
    have hGt : G ≠ w2.heap.size := by omega
    have hGt' : w2.heap.size ≠ G := by omega
    clear hn n0 n2 n3 hb2 hb3 H3 z
    go_wp2_with fail
    obtain ⟨H4, k4⟩ := H3'.out.go (k + 1)
    have e4 : ((k + 1 : Nat) : Int) = (k : Int) + 1 := by omega
    rw [e4] at H4 k4
    have hb4 := k4.heap HB2.out (by omega)
    have hst := tok_set hb4 (.int .u8 so') (.string T) (I nu) (I (at_ : Int))
    have hb5 := hst.1
    have hfin := pt_end HN3.out H4 k4 hst.2 hb4 hGs (by omega) (H.out.out0 (by omega) (Nat.le_refl _))
    generalize ((((((w2.alloc (.cells #[.int .u8 so', .string T, I nu, I (at_ : Int)] 50)).setCell ⟨G, 1, none⟩ (I ((k : Int) + 1))).setCell ⟨w.heap.size, 0, none⟩ (.int .u8 so')).setCell ⟨w.heap.size, 1, none⟩ (.string T)).setCell ⟨w.heap.size, 2, none⟩ (I nu)).setCell ⟨w.heap.size, 3, none⟩ (I (at_ : Int))) = Wf at hb5 hfin ⊢
    obtain ⟨r0, r1, r2, r3, -, -⟩ := tok_get hb5
    clear p0 p1 p2 p3 y0 y1 y2 y3 x0 x1 x2 x3 c1 z1 hst hb4 hb5
    refine bodyPost_ret (v := .agg #[.int .u8 so', .string T, I nu, I (at_ : Int)]) (by simp [results, Tryd.results28, go_sem, r0, r1, r2, r3]) rfl ?_
    exact ⟨by simp only [tokV, HT.out], hfin⟩
  · rw [if_neg hs]
    have d1 : (so' != so) = true := by simpa using hs
    clear hs
    go_enter Tryd.func28, Tryd.ntmps28
    go_wp2_with fail
    refine (hn _ n0).mono ?_
    rintro e w2 ⟨rfl, n2⟩
    have n3 : New w2 (w2.alloc (.cells #[.int .u8 so', .string T, I nu, I (at_ : Int)] 50)) := (New.refl w2).alloc _
    have hb3 := tok_blk w2 (.int .u8 so') (.string T) (I nu) (I (at_ : Int))
    obtain ⟨p0, p1, p2, p3, -, hp⟩ := tok_get hb3
    have HN3 := Lib.hid ((n0.trans n2).trans n3)
    have hw2 := hw _ ((n0.trans n2).trans n3)
    clear hn n0 n2 n3 hb3 hw
    go_wp2_with fail
    refine hw2.mono ?_
    rintro e w4 ⟨rfl, n4⟩
    go_wp2_with fail
    exact sk_panic rfl ⟨rfl, Keeps.mono (HN3.out.trans n4) (fun _ _ h => h.elim)⟩
theorem sk_text (tx b : List UInt8) : (⟨tx.toArray⟩ : ByteArray).toList = b ↔ tx = b := by rw [ByteArray.toList_eq]
set_option maxRecDepth 100000 in
set_option maxHeartbeats 4000000 in
theorem pmark_any (w : World) (G : Nat) (l : List LTok) (a : Option Addr) (c k : Nat) (B : List UInt8) (h : PAt w G l a c k) (hk : k < l.length) :
    Calls Tryd.prog 29 #[.pointer (some ⟨G, 0, none⟩), .string ⟨B.toArray⟩] w (PAs w G l a c (fun _ : Unit => .tuple #[]) (mustP 3 B l k)) := by
  unfold mustP
  rw [lookP_some (List.getElem?_eq_getElem hk)]
  have hn := fun W (n : New w W) => pnext_any W G l a c k (h.new n) hk l[k] (List.getElem?_eq_getElem hk)
  have hw := fun W (n : New w W) => pwrong_any W G l a c k (h.new n) hk
  have H := Lib.hid h
  have hle := h.le
  generalize l[k] = t at hn ⊢
  obtain ⟨so', tx, nu, at_⟩ := t
  simp only at hn ⊢
  obtain ⟨T, hT⟩ : ∃ T : ByteArray, (⟨tx.toArray⟩ : ByteArray) = T := ⟨_, rfl⟩
  obtain ⟨S, hS⟩ : ∃ S : ByteArray, (⟨B.toArray⟩ : ByteArray) = S := ⟨_, rfl⟩
  have hTS : tx = B ↔ T = S := by
    rw [← hT, ← hS]
    constructor
    · rintro rfl; rfl
    · intro e; have := congrArg (fun x : ByteArray => x.data.toList) e; simpa using this
  simp only [tokV, hT] at hn
  rw [hS]
  have f0 := fun W => (tok_fld (.int .u8 so') (.string T) (I nu) (I (at_ : Int)) W).1
  have f1 := fun W => (tok_fld (.int .u8 so') (.string T) (I nu) (I (at_ : Int)) W).2.1
  clear h hT hS
  by_cases hs : so' = 3
  · subst hs
    by_cases he : tx = B
    · rw [if_pos (by simp [he])]
      have e1 := hTS.1 he
      have e2 := lx_yes T
      subst e1
      clear hTS he hw
      go_enter Tryd.func29, Tryd.ntmps29
      go_wp2_with fail
      refine (hn _ (New.refl w)).mono ?_
      rintro e w2 ⟨rfl, n2⟩
      go_wp2_with fail
      refine (hn _ n2).mono ?_
      rintro e w3 ⟨rfl, n3⟩
      have H3 := H.out.new (n2.trans n3)
      obtain ⟨-, c1, z1, hG⟩ := H3.cells
      have hw1 : IntKind.i64.wrap ((k : Int) + 1) = (k : Int) + 1 := IntWalk.i64_in _ (by omega)
      have H3' := Lib.hid H3
      have HN := Lib.hid (n2.trans n3)
      clear hn n2 n3 H3
      go_wp2_with fail
      obtain ⟨H4, k4⟩ := H3'.out.go (k + 1)
      have e4 : ((k + 1 : Nat) : Int) = (k : Int) + 1 := by omega
      rw [e4] at H4 k4
      refine bodyPost_ret (results_none (by kernel_rfl) _ _ _) rfl ?_
      exact ⟨rfl, H4, (Keeps.mono HN.out (fun _ _ h => h.elim)).trans k4 (fun _ _ h => h)⟩
    · rw [if_neg (by simp [he])]
      have e2 : (T.toList == S.toList) = false := lx_no (fun h => he (hTS.2 (by apply ByteArray.ext; exact Array.toList_inj.1 h)))
      clear hTS he
      go_enter Tryd.func29, Tryd.ntmps29
      go_wp2_with fail
      refine (hn _ (New.refl w)).mono ?_
      rintro e w2 ⟨rfl, n2⟩
      go_wp2_with fail
      refine (hn _ n2).mono ?_
      rintro e w3 ⟨rfl, n3⟩
      go_wp2_with fail
      refine (hw _ (n2.trans n3)).mono ?_
      rintro e w4 ⟨rfl, n4⟩
      go_wp2_with fail
      exact sk_panic rfl ⟨rfl, Keeps.mono ((n2.trans n3).trans n4) (fun _ _ h => h.elim)⟩
  · have d1 : (so' != 3) = true := by simpa using hs
    rw [if_neg (by simp [hs])]
    clear hTS hs
    go_enter Tryd.func29, Tryd.ntmps29
    go_wp2_with fail
    refine (hn _ (New.refl w)).mono ?_
    rintro e w2 ⟨rfl, n2⟩
    go_wp2_with fail
    refine (hw _ n2).mono ?_
    rintro e w4 ⟨rfl, n4⟩
    go_wp2_with fail
    exact sk_panic rfl ⟨rfl, Keeps.mono (n2.trans n4) (fun _ _ h => h.elim)⟩
end Go.Proofs.YtohalcbhckahmaaDoor
