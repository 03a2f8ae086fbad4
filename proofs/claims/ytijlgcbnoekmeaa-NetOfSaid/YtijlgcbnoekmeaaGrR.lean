/-
  Layer 8: the program's find, Check.
-/
import Derived.Test.YtijlgcbnoekmeaaGrQ
namespace Go.Proofs.Ytijlgcbnoekmeaa
open Go Go.RowKit Go.Joins
set_option linter.all false

section
variable {P : Program} {md : Region.Mode} {ops : Array Oper} {Q : Exit → Act → World → Prop} {S : World → Prop} {X : Nat → Bool}
/-- Either of two may come up. -/
theorem anyX_two (i j : Nat) {fuel : Nat} {l : Array Bool} {a : Act} {w : World} (hr : Region.ready md ops l = [i, j])
    (hi : ∀ oi, ops[i]? = some oi → ∀ K : Act → World → Prop, (∀ a' w', (X i = false → S w') → wpAnyX P md ops Q S X fuel (l.setIfInBounds i true) a' w' → K a' w') → if Region.wanted oi (yielded ops a.tmps) = true then Oper.wp P oi a w K Q else K (a.put oi.dst undef) w)
    (hj : ∀ oi, ops[j]? = some oi → ∀ K : Act → World → Prop, (∀ a' w', (X j = false → S w') → wpAnyX P md ops Q S X fuel (l.setIfInBounds j true) a' w' → K a' w') → if Region.wanted oi (yielded ops a.tmps) = true then Oper.wp P oi a w K Q else K (a.put oi.dst undef) w) :
    wpAnyX P md ops Q S X (fuel + 1) l a w := by
  refine ⟨fun h0 => (by rw [h0] at hr; cases hr), fun k hk => ?_⟩
  obtain ⟨_, o, ho, _⟩ := mem_ready.1 hk
  rw [hr] at hk
  rcases List.mem_cons.1 hk with rfl | hk
  · exact wpOp_step ho (fun K' hK => hi o ho K' (fun a' w' h1 h2 => hK _ _ ⟨h1, h2⟩))
  · obtain rfl := List.mem_singleton.1 hk
    exact wpOp_step ho (fun K' hK => hj o ho K' (fun a' w' h1 h2 => hK _ _ ⟨h1, h2⟩))
end
/-- A spot's own block, in a region. -/
theorem step_spot {w : World} {ops : Array Oper} {o : Oper} {a : Act} {K : Act → World → Prop} {Q : Exit → Act → World → Prop} {E : Prop} {dec : Decidable (Region.wanted o (yielded ops a.tmps) = true)} (hgd : o.guard = none) (ho : o.op = Op.alloc 95)
    (h : K (a.put o.dst (.pointer (some ⟨w.heap.size, 0, none⟩))) (w.alloc (.cells #[.int .u8 0, I 0, I 0] 95))) :
    @ite Prop (Region.wanted o (yielded ops a.tmps) = true) dec (Oper.wp Try.prog o a w K Q) E := by
  have hw : Region.wanted o (yielded ops a.tmps) = true := by simp [Region.wanted, hgd]
  rw [if_pos hw]
  have hr : (Instr.alloc 95 true (.tuple #[])).run Try.prog w = .ok (.pointer (some ⟨w.heap.size, 0, none⟩)) (w.alloc (.cells #[.int .u8 0, I 0, I 0] 95)) := by kernel_rfl
  unfold Oper.wp execOp
  simp only [ho, Sem.run_bind, Sem.run_pure, Result.andThen_ok, hr]
  exact h
/-- What a walk answered, part by part. -/
def Res (s : Option (Nat × Int × Int)) (kd : Int) (ok : World → Prop) (x k i d : Int) (w' : World) : Prop := match s with
  | some (i', x', d') => x = x' ∧ k = kd ∧ i = i' ∧ d = d'
  | none => x = 0 ∧ k = 0 ∧ i = 0 ∧ d = 0 ∧ ok w'
theorem stage_res {s : Option (Nat × Int × Int)} {kd : Int} {ok : World → Prop} {e : Ending} {w' : World} (h : Stage s kd ok e w') : ∃ x k i d, e = .returned (.tuple #[I x, .agg #[.int .u8 k, I i, I d]]) ∧ Res s kd ok x k i d w' := by
  cases s with
  | some r => obtain ⟨i, x, d⟩ := r; exact ⟨x, kd, i, d, h, rfl, rfl, rfl, rfl⟩
  | none => exact ⟨0, 0, 0, 0, h.1, rfl, rfl, rfl, rfl, h.2⟩
theorem Res.to {s : Option (Nat × Int × Int)} {kd : Int} {ok : World → Prop} {x k i d : Int} {w w' : World} (h : Res s kd ok x k i d w) (hok : ok w → ok w') : Res s kd ok x k i d w' := by
  cases s with
  | some r => exact h
  | none => exact ⟨h.1, h.2.1, h.2.2.1, h.2.2.2.1, hok h.2.2.2.2⟩
theorem spot_stored {w : World} {P : Nat} {a b c : Value} (h : w.heap[P]? = some (.cells #[a, b, c] 95 (0, 0))) (u v x : Value) : (((w.setCell ⟨P, 0, none⟩ u).setCell ⟨P, 1, none⟩ v).setCell ⟨P, 2, none⟩ x).heap[P]? = some (.cells #[u, v, x] 95 (0, 0)) := by
  have := block_setCell (i := 2) (block_setCell (i := 1) (block_setCell (i := 0) h u) v) x
  simpa using this
theorem spot_keeps {w : World} {P : Nat} (u v x : Value) : Keeps (fun k => k = P) w (((w.setCell ⟨P, 0, none⟩ u).setCell ⟨P, 1, none⟩ v).setCell ⟨P, 2, none⟩ x) :=
  ((Keeps.setCell (S := fun k => k = P) w _ _ rfl).trans (Keeps.setCell (S := fun k => k = P) _ _ _ rfl) (fun _ _ h => h)).trans (Keeps.setCell (S := fun k => k = P) _ _ _ rfl) (fun _ _ h => h)
theorem firstE_some {α : Type} {E : Nat → α → Int × Int} : ∀ (l : List α) (i k : Nat) (ed : Int × Int), firstE E i l = some (k, ed) → ed.1 ≠ 0 ∧ ∃ x, ed = E k x := by
  intro l
  induction l with
  | nil => intro i k ed h; cases h
  | cons x r ih =>
    intro i k ed h
    unfold firstE at h
    split at h
    · cases h; exact ⟨‹_›, x, rfl⟩
    · exact ih _ _ _ h
/-- What comes behind a graph's head: the walks, one by one. -/
def nextS (r : Option (Nat × Int × Int)) (kd : Int) (rest : Int × Int × Int × Int) : Int × Int × Int × Int := match r with
  | some (i, e, d) => (e, kd, i, d)
  | none => rest
def tailG (g : Gr) : Int × Int × Int × Int :=
  nextS (firstE (actE g) 0 g.acts) 1 (nextS (firstE (edgeE g) 0 g.edges) 2 (nextS (firstE (inE g) 0 g.ins) 3 (nextS (firstE (outE g) 0 g.outs) 4 (nextS (firstE (openF g) 0 g.acts) 1 (0, 0, 0, 0)))))
theorem chk_start {w : World} {B C M : Nat} {g : Gr} (hb : w.heap[C]? = some (.cells (chkC g M none 0 0 none 0 0) 110 (0, 0))) (hm : MapAt w M 0 (fun _ => 0)) (hC : B ≤ C) (hM : B ≤ M) : Chk w B C M g [] none 0 [] none 0 [] :=
  ⟨hb, hC, hM, hm.as (fun s => by simp [hasN]), ⟨World.ownsRow_nil _ _ _ _, (fun r hr => by cases hr), (fun r hr => by cases hr), List.Pairwise.nil⟩, ⟨World.ownsRow_nil _ _ _ _, (fun r hr => by cases hr), (fun r hr => by cases hr), List.Pairwise.nil⟩,
    (fun k hk => by obtain ⟨x, hx, _⟩ := hk; cases hx), (fun r hr => by cases hr)⟩
theorem findG_tail (g : Gr) : findG g = if (headG g).1 ≠ 0 then headG g else tailG g := by
  have ht : tailG g = (match firstE (actE g) 0 g.acts with
    | some (i, e, _) => (e, 1, (i : Int), (0 : Int))
    | none => match firstE (edgeE g) 0 g.edges with
      | some (i, e, d) => (e, 2, (i : Int), d)
      | none => match firstE (inE g) 0 g.ins with
        | some (i, e, d) => (e, 3, (i : Int), d)
        | none => match firstE (outE g) 0 g.outs with
          | some (i, e, d) => (e, 4, (i : Int), d)
          | none => match firstE (fun i x => (if openE g i x then 87 else 0, 0)) 0 g.acts with
            | some (i, e, _) => (e, 1, (i : Int), (0 : Int))
            | none => (0, 0, 0, 0)) := by
    unfold tailG nextS
    cases h1 : firstE (actE g) 0 g.acts with
    | some r =>
      obtain ⟨i, e, d⟩ := r
      obtain ⟨-, x, hx⟩ := firstE_some _ _ _ _ h1
      rw [actE_eq] at hx
      simp only [Prod.mk.injEq] at hx
      simp only [hx.2]
    | none =>
      cases h2 : firstE (edgeE g) 0 g.edges with
      | some r => rfl
      | none =>
        cases h3 : firstE (inE g) 0 g.ins with
        | some r => rfl
        | none =>
          cases h4 : firstE (outE g) 0 g.outs with
          | some r => rfl
          | none =>
            simp only
            have he : (fun i x => (if openE g i x then 87 else 0, 0)) = openF g := rfl
            rw [he]
            cases h5 : firstE (openF g) 0 g.acts with
            | some r =>
              obtain ⟨i, e, d⟩ := r
              obtain ⟨-, x, hx⟩ := firstE_some _ _ _ _ h5
              unfold openF at hx
              simp only [Prod.mk.injEq] at hx
              simp only [hx.2]
            | none => rfl
  rw [ht]
  unfold findG headG manyG
  by_cases h0 : nameB g.name = false
  · simp [h0]
  by_cases h1 : g.acts.length = 0
  · simp [h0, h1]
  by_cases h2 : 32 < g.acts.length
  · simp [h0, h1, h2]
  by_cases h3 : 96 < g.edges.length
  · simp [h0, h1, h2, h3]
  by_cases h4 : 16 < g.ins.length
  · simp [h0, h1, h2, h3, h4]
  by_cases h5 : 16 < g.outs.length
  · simp [h0, h1, h2, h3, h4, h5]
  simp only [h0, h1, h2, h3, h4, h5, if_false, ne_eq, not_true_eq_false]
  rfl
theorem headG_few {g : Gr} (h : ¬ (headG g).1 ≠ 0) : g.acts.length ≤ 32 ∧ g.ins.length ≤ 16 ∧ g.outs.length ≤ 16 := by
  unfold headG manyG at h
  by_cases h0 : nameB g.name = false
  · simp [h0] at h
  by_cases h1 : g.acts.length = 0
  · simp [h0, h1] at h
  by_cases h2 : 32 < g.acts.length
  · simp [h0, h1, h2] at h
  by_cases h3 : 96 < g.edges.length
  · simp [h0, h1, h2, h3] at h
  by_cases h4 : 16 < g.ins.length
  · simp [h0, h1, h2, h3, h4] at h
  by_cases h5 : 16 < g.outs.length
  · simp [h0, h1, h2, h3, h4, h5] at h
  omega
set_option maxRecDepth 100000 in
set_option maxHeartbeats 32000000 in
theorem cfind_any (w : World) (g : Gr) (hg : GrAt w g) (hl : GLen g) :
    Calls Try.prog 48 #[g.v] w fun en w' => en = .returned (spotOf (findG g)) ∧ New w w' := by
  rw [findG_tail]
  have hfew := Lib.hid (@headG_few g)
  have HL := Lib.hid hl
  have HG := Lib.hid hg
  have hH : ∀ W (h : Chk W w.heap.size (w.heap.size + 1 + 1 + 1) (w.heap.size + 1 + 1) g [] none 0 [] none 0 []), Calls Try.prog 61 #[.pointer (some ⟨w.heap.size + 1 + 1 + 1, 0, none⟩)] W fun e w' => e = .returned (spotOf (headG g)) ∧ New W w' := fun W h => chead_any W _ _ g _ _ _ _ _ _ h.blk hl
  obtain ⟨hd, hhd⟩ : ∃ hd, headG g = hd := ⟨_, rfl⟩
  rw [hhd] at hH hfew ⊢
  obtain ⟨⟨h0, h1, h2, h3⟩, rfl⟩ : ∃ x, x = hd := ⟨_, rfl⟩
  clear hg hl hhd
  obtain ⟨r, hr⟩ : ∃ r, (if ((h0, h1, h2, h3) : Int × Int × Int × Int).1 ≠ 0 then (h0, h1, h2, h3) else tailG g) = r := ⟨_, rfl⟩
  rw [hr]
  have HR := Lib.hid hr
  clear hr
  have hmm := @run_makeMap Try.prog
  simp only [spotOf, spotV] at hH
  simp only [Gr.v, Gr.cs]
  go_enter Try.func48, Try.ntmps48
  go_wp2_with fail
  clear hmm
  have na : New w (w.alloc (.cells g.cs 63)) := (New.refl w).alloc _
  have ha : (w.alloc (.cells g.cs 63)).heap[w.heap.size]? = some (.cells g.cs 63 (0, 0)) := heap_alloc_new w _
  have sa : (w.alloc (.cells g.cs 63)).heap.size = w.heap.size + 1 := size_alloc _ _
  simp only [Gr.cs] at na ha sa
  generalize (w.alloc (.cells #[.string g.name, .slice g.aa g.acts.length g.ac, .slice g.ea g.edges.length g.ec, .slice g.ia g.ins.length g.ic, .slice g.oa g.outs.length g.oc] 63)) = wa at na ha sa ⊢
  have nb : New wa (wa.alloc (.cells #[.int .u8 0, I 0, I 0] 95)) := (New.refl wa).alloc _
  have hb : (wa.alloc (.cells #[.int .u8 0, I 0, I 0] 95)).heap[wa.heap.size]? = some (.cells #[.int .u8 0, I 0, I 0] 95 (0, 0)) := heap_alloc_new wa _
  have sb : (wa.alloc (.cells #[.int .u8 0, I 0, I 0] 95)).heap.size = w.heap.size + 1 + 1 := by rw [size_alloc, sa]
  rw [sa] at hb
  generalize (wa.alloc (.cells #[.int .u8 0, I 0, I 0] 95)) = wb at nb hb sb ⊢
  have nc : New wb (wb.alloc (.map #[] 0)) := (New.refl wb).alloc _
  have hm : MapAt (wb.alloc (.map #[] 0)) wb.heap.size 0 (fun _ => 0) := MapAt.made wb
  have sc : (wb.alloc (.map #[] 0)).heap.size = w.heap.size + 1 + 1 + 1 := by rw [size_alloc, sb]
  rw [sb] at hm
  generalize (wb.alloc (.map #[] 0)) = wc at nc hm sc ⊢
  have nd : New wc (wc.alloc (.cells (chkC g (w.heap.size + 1 + 1) none 0 0 none 0 0) 110)) := (New.refl wc).alloc _
  have hd : (wc.alloc (.cells (chkC g (w.heap.size + 1 + 1) none 0 0 none 0 0) 110)).heap[wc.heap.size]? = some (.cells (chkC g (w.heap.size + 1 + 1) none 0 0 none 0 0) 110 (0, 0)) := heap_alloc_new wc _
  rw [sc] at hd
  simp only [chkC] at nd hd
  generalize (wc.alloc (.cells #[.string g.name, .slice g.aa g.acts.length g.ac, .slice g.ea g.edges.length g.ec, .slice g.ia g.ins.length g.ic, .slice g.oa g.outs.length g.oc, .map (some (w.heap.size + 1 + 1)), .slice none 0 0, .slice none 0 0] 110)) = W0 at nd hd ⊢
  have hC : Chk W0 w.heap.size (w.heap.size + 1 + 1 + 1) (w.heap.size + 1 + 1) g [] none 0 [] none 0 [] := chk_start hd (hm.new nd) (by omega) (by omega)
  have HX := Lib.hid (Keeps.heap nd (Keeps.heap nc (Keeps.heap nb ha (fun h => h)) (fun h => h)) (fun h => h))
  have HB := Lib.hid (Keeps.heap nd (Keeps.heap nc hb (fun h => h)) (fun h => h))
  have hN : New w W0 := ((na.trans nb).trans nc).trans nd
  clear na nb nc nd ha hb hm hd sa sb sc
  refine (hH W0 hC).mono ?_
  rintro e W1 ⟨rfl, k1⟩
  replace hC := hC.new k1
  replace HX := Lib.hid (Keeps.heap k1 HX.out (fun h => h))
  replace HB := Lib.hid (Keeps.heap k1 HB.out (fun h => h))
  replace hN := hN.trans k1
  clear k1 hH
  by_cases e0 : h0 = 0
  case neg =>
    have d0 : (h0 != 0) = true := by simp [e0]
    have HR2 := Lib.hid (show ((h0, h1, h2, h3) : Int × Int × Int × Int) = r by have := HR.out; rwa [if_pos e0] at this)
    clear HR e0
    go_wp2_with fail
    have ks : New W1 (W1.alloc (.cells #[.int .u8 h1, I h2, I h3] 95)) := (New.refl W1).alloc _
    have hp : (W1.alloc (.cells #[.int .u8 h1, I h2, I h3] 95)).heap[W1.heap.size]? = some (.cells #[.int .u8 h1, I h2, I h3] 95 (0, 0)) := heap_alloc_new W1 _
    have hPW : w.heap.size + 1 < W1.heap.size := (Array.getElem?_eq_some_iff.1 HB.out).1
    generalize (W1.alloc (.cells #[.int .u8 h1, I h2, I h3] 95)) = W2 at ks hp ⊢
    generalize W1.heap.size = P at hp hPW ⊢
    replace HX := Lib.hid (Keeps.heap ks HX.out (fun h => h))
    replace HB := Lib.hid (Keeps.heap ks HB.out (fun h => h))
    replace hN := hN.trans ks
    replace hC := hC.new ks
    have HP := Lib.hid hp
    clear ks hp
    obtain ⟨⟨p0, p1, p2⟩, -, hPl⟩ := spot_cells HP.out
    go_wp2_with fail
    have hdr : New W2 W2.drew := (New.refl W2).drew
    have hS0 : (fun w' : World => w'.cell? ⟨P, 0, none⟩ = some (.int .u8 h1) ∧ w'.cell? ⟨P, 1, none⟩ = some (I h2) ∧ w'.cell? ⟨P, 2, none⟩ = some (I h3) ∧ P < w'.heap.size) W2.drew := ⟨hdr.cell p0, hdr.cell p1, hdr.cell p2, hPl⟩
    obtain ⟨⟨r0, r1, r2⟩, ⟨f0, f1, f2⟩, hBB⟩ := spot_cells HB.out
    clear p0 p1 p2 hPl
    refine wp_region_X (fun w' : World => w'.cell? ⟨P, 0, none⟩ = some (.int .u8 h1) ∧ w'.cell? ⟨P, 1, none⟩ = some (I h2) ∧ w'.cell? ⟨P, 2, none⟩ = some (I h3) ∧ P < w'.heap.size) [3] (by kernel_rfl) hS0 ?_
    refine anyX_take 0 (by kernel_rfl) (by kernel_rfl) (by kernel_rfl) (by kernel_rfl) (by kernel_rfl) hS0 ?_
    intro oi ho; simp only [List.getElem?_toArray, List.getElem?_cons_succ, List.getElem?_cons_zero, Option.some.injEq] at ho; subst ho
    refine ⟨?_, fun _ _ _ h => h, Or.inl ⟨by rfl, ?_⟩, ?_⟩; rotate_left 1
    · (intro wS hSw; (try dsimp only at hSw); go_simp; try with_reducible rfl)
    simp only [Act.put, List.setIfInBounds_toArray, List.set_cons_zero, List.set_cons_succ]
    refine anyX_take 1 (by kernel_rfl) (by kernel_rfl) (by kernel_rfl) (by kernel_rfl) (by kernel_rfl) hS0 ?_
    intro oi ho; simp only [List.getElem?_toArray, List.getElem?_cons_succ, List.getElem?_cons_zero, Option.some.injEq] at ho; subst ho
    refine ⟨?_, fun _ _ _ h => h, Or.inl ⟨by rfl, ?_⟩, ?_⟩; rotate_left 1
    · (intro wS hSw; (try dsimp only at hSw); go_simp; try with_reducible rfl)
    simp only [Act.put, List.setIfInBounds_toArray, List.set_cons_zero, List.set_cons_succ]
    refine anyX_take 2 (by kernel_rfl) (by kernel_rfl) (by kernel_rfl) (by kernel_rfl) (by kernel_rfl) hS0 ?_
    intro oi ho; simp only [List.getElem?_toArray, List.getElem?_cons_succ, List.getElem?_cons_zero, Option.some.injEq] at ho; subst ho
    refine ⟨?_, fun _ _ _ h => h, Or.inl ⟨by rfl, ?_⟩, ?_⟩; rotate_left 1
    · (intro wS hSw; (try dsimp only at hSw); go_simp; try with_reducible rfl)
    simp only [Act.put, List.setIfInBounds_toArray, List.set_cons_zero, List.set_cons_succ]
    refine anyX_one 3 (by kernel_rfl) ?_
    intro oi ho; simp only [List.getElem?_toArray, List.getElem?_cons_succ, List.getElem?_cons_zero, Option.some.injEq] at ho; subst ho; intro K hK
    (try simp only [Act.put, List.setIfInBounds_toArray, List.set_cons_zero, List.set_cons_succ])
    go_simp
    refine hK _ _ (fun hx => by cases hx) ?_
    clear hK K
    refine anyX_done (by kernel_rfl) ?_
    (try simp only [Act.put, List.setIfInBounds_toArray, List.set_cons_zero, List.set_cons_succ])
    (try simp only [Exit.then])
    go_wp2_with fail
    exact bodyPost_ret (v := .tuple #[I h0, .agg #[.int .u8 h1, I h2, I h3]]) (by simp [results, Try.results48, go_sem, r0, r1, r2, f0, f1, f2, hBB]) rfl ⟨by rw [← HR2.out]; rfl, ((hN.drew.setCell (by simp) _).setCell (by simp) _).setCell (by simp) _⟩
  have d0 : (h0 != 0) = false := by simp [e0]
  obtain ⟨hal, hpi, hpo⟩ := hfew.out (fun h => h e0)
  have HT := Lib.hid (show tailG g = r by have := HR.out; rwa [if_neg (fun h => h e0)] at this)
  clear HR hfew e0
  unfold tailG at HT
  have HA : ∀ W (k : New w W) (h : Chk W w.heap.size (w.heap.size + 1 + 1 + 1) (w.heap.size + 1 + 1) g [] none 0 [] none 0 []), Calls Try.prog 62 #[.pointer (some ⟨w.heap.size + 1 + 1 + 1, 0, none⟩)] W fun e w' => Stage (firstE (actE g) 0 g.acts) 1 (fun w' => ∃ ia ic IL oa oc OL, Chk w' w.heap.size (w.heap.size + 1 + 1 + 1) (w.heap.size + 1 + 1) g (namesOf g g.acts.length 0 0) ia ic IL oa oc OL ∧ IL.map (·.2) = side g nIn (fun _ _ => false) ∧ OL.map (·.2) = side g nOut (fun _ _ => false)) e w' ∧ KB w.heap.size W w' := fun W k h => cactors_any w W _ _ _ g HG.out k rfl HL.out hal h
  have HE : ∀ (W : World) (ia : Option Addr) (ic : Nat) (IL : List (Nat × List Bool)) (oa : Option Addr) (oc : Nat) (OL : List (Nat × List Bool)) (k : New w W) (h : Chk W w.heap.size (w.heap.size + 1 + 1 + 1) (w.heap.size + 1 + 1) g (namesOf g g.acts.length 0 0) ia ic IL oa oc OL) (hi : Hid (IL.map (·.2) = side g nIn (fun _ _ => false))) (ho : Hid (OL.map (·.2) = side g nOut (fun _ _ => false))), Calls Try.prog 63 #[.pointer (some ⟨w.heap.size + 1 + 1 + 1, 0, none⟩)] W fun e w' => Stage (firstE (edgeE g) 0 g.edges) 2 (fun w' => ∃ IL OL, Chk w' w.heap.size (w.heap.size + 1 + 1 + 1) (w.heap.size + 1 + 1) g (namesOf g g.acts.length 0 0) ia ic IL oa oc OL ∧ IL.map (·.2) = side g nIn (inTk g g.edges.length 0) ∧ OL.map (·.2) = side g nOut (outTk g g.edges.length 0)) e w' ∧ KP w.heap.size W w' := fun W ia ic IL oa oc OL k h hi ho => cedges_any w W _ _ _ g _ _ _ _ _ _ _ HG.out k rfl HL.out hal h hi.out ho.out
  have HI : ∀ (W : World) (ia : Option Addr) (ic : Nat) (IL : List (Nat × List Bool)) (oa : Option Addr) (oc : Nat) (OL : List (Nat × List Bool)) (k : New w W) (h : Chk W w.heap.size (w.heap.size + 1 + 1 + 1) (w.heap.size + 1 + 1) g (namesOf g g.acts.length 0 0) ia ic IL oa oc OL) (hi : Hid (IL.map (·.2) = side g nIn (inTk g g.edges.length 0))), Calls Try.prog 64 #[.pointer (some ⟨w.heap.size + 1 + 1 + 1, 0, none⟩), .slice g.ia g.ins.length g.ic, .slice ia IL.length ic, .int .u8 3, I 2] W fun e w' => Stage (firstE (inE g) 0 g.ins) 3 (fun w' => ∃ L, Chk w' w.heap.size (w.heap.size + 1 + 1 + 1) (w.heap.size + 1 + 1) g (namesOf g g.acts.length g.ins.length 0) ia ic L oa oc OL ∧ L.map (·.2) = side g nIn (inTk g g.edges.length g.ins.length)) e w' ∧ KP w.heap.size W w' := fun W ia ic IL oa oc OL k h hi => by
    rw [rows_len hi.out]
    exact cportsI_any w W _ _ _ g ia ic IL oa oc OL HG.out k rfl HL.out hal hpi hpo h hi.out
  have HO : ∀ (W : World) (ia : Option Addr) (ic : Nat) (IL : List (Nat × List Bool)) (oa : Option Addr) (oc : Nat) (OL : List (Nat × List Bool)) (k : New w W) (h : Chk W w.heap.size (w.heap.size + 1 + 1 + 1) (w.heap.size + 1 + 1) g (namesOf g g.acts.length g.ins.length 0) ia ic IL oa oc OL) (ho : Hid (OL.map (·.2) = side g nOut (outTk g g.edges.length 0))), Calls Try.prog 64 #[.pointer (some ⟨w.heap.size + 1 + 1 + 1, 0, none⟩), .slice g.oa g.outs.length g.oc, .slice oa OL.length oc, .int .u8 4, I 1] W fun e w' => Stage (firstE (outE g) 0 g.outs) 4 (fun w' => ∃ L, Chk w' w.heap.size (w.heap.size + 1 + 1 + 1) (w.heap.size + 1 + 1) g (namesOf g g.acts.length g.ins.length g.outs.length) ia ic IL oa oc L ∧ L.map (·.2) = side g nOut (outTk g g.edges.length g.outs.length)) e w' ∧ KP w.heap.size W w' := fun W ia ic IL oa oc OL k h ho => by
    rw [rows_len ho.out]
    exact cportsO_any w W _ _ _ g ia ic IL oa oc OL HG.out k rfl HL.out hal hpi hpo h ho.out
  have HQ : ∀ (W : World) (ia : Option Addr) (ic : Nat) (IL : List (Nat × List Bool)) (oa : Option Addr) (oc : Nat) (OL : List (Nat × List Bool)) (k : New w W) (h : Chk W w.heap.size (w.heap.size + 1 + 1 + 1) (w.heap.size + 1 + 1) g (namesOf g g.acts.length g.ins.length g.outs.length) ia ic IL oa oc OL) (hi : Hid (IL.map (·.2) = side g nIn (inTk g g.edges.length g.ins.length))) (ho : Hid (OL.map (·.2) = side g nOut (outTk g g.edges.length g.outs.length))), Calls Try.prog 65 #[.pointer (some ⟨w.heap.size + 1 + 1 + 1, 0, none⟩)] W fun e w' => Stage (firstE (openF g) 0 g.acts) 1 (fun _ => True) e w' ∧ KP w.heap.size W w' := fun W ia ic IL oa oc OL k h hi ho => copen_any W _ _ _ g _ _ _ _ _ _ _ hal h hi.out ho.out
  have n1 : ∀ k ed, firstE (actE g) 0 g.acts = some (k, ed) → ed.1 ≠ 0 := fun k ed h => (firstE_some _ _ _ _ h).1
  have n2 : ∀ k ed, firstE (edgeE g) 0 g.edges = some (k, ed) → ed.1 ≠ 0 := fun k ed h => (firstE_some _ _ _ _ h).1
  have n3 : ∀ k ed, firstE (inE g) 0 g.ins = some (k, ed) → ed.1 ≠ 0 := fun k ed h => (firstE_some _ _ _ _ h).1
  have n4 : ∀ k ed, firstE (outE g) 0 g.outs = some (k, ed) → ed.1 ≠ 0 := fun k ed h => (firstE_some _ _ _ _ h).1
  have n5 : ∀ k ed, firstE (openF g) 0 g.acts = some (k, ed) → ed.1 ≠ 0 := fun k ed h => (firstE_some _ _ _ _ h).1
  generalize firstE (actE g) 0 g.acts = s1 at HT n1 HA
  generalize firstE (edgeE g) 0 g.edges = s2 at HT n2 HE
  generalize firstE (inE g) 0 g.ins = s3 at HT n3 HI
  generalize firstE (outE g) 0 g.outs = s4 at HT n4 HO
  generalize firstE (openF g) 0 g.acts = s5 at HT n5 HQ
  clear HG HL hal hpi hpo
  go_wp2_with fail
  have ks : New W1 (W1.alloc (.cells #[.int .u8 h1, I h2, I h3] 95)) := (New.refl W1).alloc _
  have hp : (W1.alloc (.cells #[.int .u8 h1, I h2, I h3] 95)).heap[W1.heap.size]? = some (.cells #[.int .u8 h1, I h2, I h3] 95 (0, 0)) := heap_alloc_new W1 _
  have hPW : w.heap.size + 1 < W1.heap.size := (Array.getElem?_eq_some_iff.1 HB.out).1
  generalize (W1.alloc (.cells #[.int .u8 h1, I h2, I h3] 95)) = W2 at ks hp ⊢
  generalize W1.heap.size = P at hp hPW ⊢
  replace HX := Lib.hid (Keeps.heap ks HX.out (fun h => h))
  replace HB := Lib.hid (Keeps.heap ks HB.out (fun h => h))
  replace hN := hN.trans ks
  replace hC := hC.new ks
  have HP := Lib.hid hp
  clear ks hp
  clear HP hPW
  go_wp2_with fail
  refine (HA W2 hN hC).mono ?_
  rintro e W3 ⟨hs, kb⟩
  replace HX := Lib.hid (kb.heap HX.out rfl)
  replace HB := Lib.hid (kb.heap HB.out rfl)
  replace hN := kb.new rfl hN
  clear kb
  cases s1 with
  | some sx =>
    obtain ⟨i, x, d⟩ := sx
    have hx : x ≠ 0 := n1 i (x, d) rfl
    have dx : (x != 0) = true := by simp [hx]
    have HR2 := Lib.hid (show ((x, 1, (i : Int), d) : Int × Int × Int × Int) = r from HT.out)
    simp only [Stage, spotV] at hs
    subst hs
    clear HT hx n1
    go_wp2_with fail
    have ks : New W3 (W3.alloc (.cells #[.int .u8 1, I i, I d] 95)) := (New.refl W3).alloc _
    have hp : (W3.alloc (.cells #[.int .u8 1, I i, I d] 95)).heap[W3.heap.size]? = some (.cells #[.int .u8 1, I i, I d] 95 (0, 0)) := heap_alloc_new W3 _
    have hPW : w.heap.size + 1 < W3.heap.size := (Array.getElem?_eq_some_iff.1 HB.out).1
    generalize (W3.alloc (.cells #[.int .u8 1, I i, I d] 95)) = W4 at ks hp ⊢
    generalize W3.heap.size = P at hp hPW ⊢
    replace HB := Lib.hid (Keeps.heap ks HB.out (fun h => h))
    replace hN := hN.trans ks
    have HP := Lib.hid hp
    clear ks hp
    obtain ⟨⟨p0, p1, p2⟩, -, hPl⟩ := spot_cells HP.out
    go_wp2_with fail
    have hdr : New W4 W4.drew := (New.refl W4).drew
    have hS0 : (fun w' : World => w'.cell? ⟨P, 0, none⟩ = some (.int .u8 1) ∧ w'.cell? ⟨P, 1, none⟩ = some (I i) ∧ w'.cell? ⟨P, 2, none⟩ = some (I d) ∧ P < w'.heap.size) W4.drew := ⟨hdr.cell p0, hdr.cell p1, hdr.cell p2, hPl⟩
    obtain ⟨⟨r0, r1, r2⟩, ⟨f0, f1, f2⟩, hBB⟩ := spot_cells HB.out
    clear p0 p1 p2 hPl
    refine wp_region_X (fun w' : World => w'.cell? ⟨P, 0, none⟩ = some (.int .u8 1) ∧ w'.cell? ⟨P, 1, none⟩ = some (I i) ∧ w'.cell? ⟨P, 2, none⟩ = some (I d) ∧ P < w'.heap.size) [3] (by kernel_rfl) hS0 ?_
    refine anyX_take 0 (by kernel_rfl) (by kernel_rfl) (by kernel_rfl) (by kernel_rfl) (by kernel_rfl) hS0 ?_
    intro oi ho; simp only [List.getElem?_toArray, List.getElem?_cons_succ, List.getElem?_cons_zero, Option.some.injEq] at ho; subst ho
    refine ⟨?_, fun _ _ _ h => h, Or.inl ⟨by rfl, ?_⟩, ?_⟩; rotate_left 1
    · (intro wS hSw; (try dsimp only at hSw); go_simp; try with_reducible rfl)
    simp only [Act.put, List.setIfInBounds_toArray, List.set_cons_zero, List.set_cons_succ]
    refine anyX_take 1 (by kernel_rfl) (by kernel_rfl) (by kernel_rfl) (by kernel_rfl) (by kernel_rfl) hS0 ?_
    intro oi ho; simp only [List.getElem?_toArray, List.getElem?_cons_succ, List.getElem?_cons_zero, Option.some.injEq] at ho; subst ho
    refine ⟨?_, fun _ _ _ h => h, Or.inl ⟨by rfl, ?_⟩, ?_⟩; rotate_left 1
    · (intro wS hSw; (try dsimp only at hSw); go_simp; try with_reducible rfl)
    simp only [Act.put, List.setIfInBounds_toArray, List.set_cons_zero, List.set_cons_succ]
    refine anyX_take 2 (by kernel_rfl) (by kernel_rfl) (by kernel_rfl) (by kernel_rfl) (by kernel_rfl) hS0 ?_
    intro oi ho; simp only [List.getElem?_toArray, List.getElem?_cons_succ, List.getElem?_cons_zero, Option.some.injEq] at ho; subst ho
    refine ⟨?_, fun _ _ _ h => h, Or.inl ⟨by rfl, ?_⟩, ?_⟩; rotate_left 1
    · (intro wS hSw; (try dsimp only at hSw); go_simp; try with_reducible rfl)
    simp only [Act.put, List.setIfInBounds_toArray, List.set_cons_zero, List.set_cons_succ]
    refine anyX_one 3 (by kernel_rfl) ?_
    intro oi ho; simp only [List.getElem?_toArray, List.getElem?_cons_succ, List.getElem?_cons_zero, Option.some.injEq] at ho; subst ho; intro K hK
    (try simp only [Act.put, List.setIfInBounds_toArray, List.set_cons_zero, List.set_cons_succ])
    go_simp
    refine hK _ _ (fun hx => by cases hx) ?_
    clear hK K
    refine anyX_done (by kernel_rfl) ?_
    (try simp only [Act.put, List.setIfInBounds_toArray, List.set_cons_zero, List.set_cons_succ])
    (try simp only [Exit.then])
    go_wp2_with fail
    exact bodyPost_ret (v := .tuple #[I x, .agg #[.int .u8 1, I i, I d]]) (by simp [results, Try.results48, go_sem, r0, r1, r2, f0, f1, f2, hBB]) rfl ⟨by rw [← HR2.out]; rfl, ((hN.drew.setCell (by simp) _).setCell (by simp) _).setCell (by simp) _⟩
  | none =>
    simp only [Stage, spotV] at hs
    obtain ⟨rfl, ia, ic, IL, oa, oc, OL, hC2, hi, ho⟩ := hs
    have HT2 := Lib.hid (show nextS s2 2 (nextS s3 3 (nextS s4 4 (nextS s5 1 (0, 0, 0, 0)))) = r from HT.out)
    have Hi := Lib.hid hi
    have Ho := Lib.hid ho
    replace hC := hC2
    clear HT n1 HA hi ho hC2
    go_wp2_with fail
    have ks : New W3 (W3.alloc (.cells #[.int .u8 0, I 0, I 0] 95)) := (New.refl W3).alloc _
    have hp : (W3.alloc (.cells #[.int .u8 0, I 0, I 0] 95)).heap[W3.heap.size]? = some (.cells #[.int .u8 0, I 0, I 0] 95 (0, 0)) := heap_alloc_new W3 _
    have hPW : w.heap.size + 1 < W3.heap.size := (Array.getElem?_eq_some_iff.1 HB.out).1
    generalize (W3.alloc (.cells #[.int .u8 0, I 0, I 0] 95)) = W4 at ks hp ⊢
    generalize W3.heap.size = P at hp hPW ⊢
    replace HX := Lib.hid (Keeps.heap ks HX.out (fun h => h))
    replace HB := Lib.hid (Keeps.heap ks HB.out (fun h => h))
    replace hN := hN.trans ks
    replace hC := hC.new ks
    have HP := Lib.hid hp
    clear ks hp
    clear HP hPW
    replace HT := HT2
    clear HT2
    go_wp2_with fail
    refine (HE W4 ia ic IL oa oc OL hN hC Hi Ho).mono ?_
    rintro e W5 ⟨hs, kb⟩
    replace HX := Lib.hid (kb.heap HX.out rfl)
    replace HB := Lib.hid (kb.heap HB.out rfl)
    replace hN := kb.new rfl hN
    clear kb
    cases s2 with
    | some sx =>
      obtain ⟨i, x, d⟩ := sx
      have hx : x ≠ 0 := n2 i (x, d) rfl
      have dx : (x != 0) = true := by simp [hx]
      have HR2 := Lib.hid (show ((x, 2, (i : Int), d) : Int × Int × Int × Int) = r from HT.out)
      simp only [Stage, spotV] at hs
      subst hs
      clear HT hx n2
      go_wp2_with fail
      have ks : New W5 (W5.alloc (.cells #[.int .u8 2, I i, I d] 95)) := (New.refl W5).alloc _
      have hp : (W5.alloc (.cells #[.int .u8 2, I i, I d] 95)).heap[W5.heap.size]? = some (.cells #[.int .u8 2, I i, I d] 95 (0, 0)) := heap_alloc_new W5 _
      have hPW : w.heap.size + 1 < W5.heap.size := (Array.getElem?_eq_some_iff.1 HB.out).1
      generalize (W5.alloc (.cells #[.int .u8 2, I i, I d] 95)) = W6 at ks hp ⊢
      generalize W5.heap.size = P at hp hPW ⊢
      replace HB := Lib.hid (Keeps.heap ks HB.out (fun h => h))
      replace hN := hN.trans ks
      have HP := Lib.hid hp
      clear ks hp
      obtain ⟨⟨p0, p1, p2⟩, -, hPl⟩ := spot_cells HP.out
      go_wp2_with fail
      have hdr : New W6 W6.drew := (New.refl W6).drew
      have hS0 : (fun w' : World => w'.cell? ⟨P, 0, none⟩ = some (.int .u8 2) ∧ w'.cell? ⟨P, 1, none⟩ = some (I i) ∧ w'.cell? ⟨P, 2, none⟩ = some (I d) ∧ P < w'.heap.size) W6.drew := ⟨hdr.cell p0, hdr.cell p1, hdr.cell p2, hPl⟩
      obtain ⟨⟨r0, r1, r2⟩, ⟨f0, f1, f2⟩, hBB⟩ := spot_cells HB.out
      clear p0 p1 p2 hPl
      refine wp_region_X (fun w' : World => w'.cell? ⟨P, 0, none⟩ = some (.int .u8 2) ∧ w'.cell? ⟨P, 1, none⟩ = some (I i) ∧ w'.cell? ⟨P, 2, none⟩ = some (I d) ∧ P < w'.heap.size) [3] (by kernel_rfl) hS0 ?_
      refine anyX_take 0 (by kernel_rfl) (by kernel_rfl) (by kernel_rfl) (by kernel_rfl) (by kernel_rfl) hS0 ?_
      intro oi ho; simp only [List.getElem?_toArray, List.getElem?_cons_succ, List.getElem?_cons_zero, Option.some.injEq] at ho; subst ho
      refine ⟨?_, fun _ _ _ h => h, Or.inl ⟨by rfl, ?_⟩, ?_⟩; rotate_left 1
      · (intro wS hSw; (try dsimp only at hSw); go_simp; try with_reducible rfl)
      simp only [Act.put, List.setIfInBounds_toArray, List.set_cons_zero, List.set_cons_succ]
      refine anyX_take 1 (by kernel_rfl) (by kernel_rfl) (by kernel_rfl) (by kernel_rfl) (by kernel_rfl) hS0 ?_
      intro oi ho; simp only [List.getElem?_toArray, List.getElem?_cons_succ, List.getElem?_cons_zero, Option.some.injEq] at ho; subst ho
      refine ⟨?_, fun _ _ _ h => h, Or.inl ⟨by rfl, ?_⟩, ?_⟩; rotate_left 1
      · (intro wS hSw; (try dsimp only at hSw); go_simp; try with_reducible rfl)
      simp only [Act.put, List.setIfInBounds_toArray, List.set_cons_zero, List.set_cons_succ]
      refine anyX_take 2 (by kernel_rfl) (by kernel_rfl) (by kernel_rfl) (by kernel_rfl) (by kernel_rfl) hS0 ?_
      intro oi ho; simp only [List.getElem?_toArray, List.getElem?_cons_succ, List.getElem?_cons_zero, Option.some.injEq] at ho; subst ho
      refine ⟨?_, fun _ _ _ h => h, Or.inl ⟨by rfl, ?_⟩, ?_⟩; rotate_left 1
      · (intro wS hSw; (try dsimp only at hSw); go_simp; try with_reducible rfl)
      simp only [Act.put, List.setIfInBounds_toArray, List.set_cons_zero, List.set_cons_succ]
      refine anyX_one 3 (by kernel_rfl) ?_
      intro oi ho; simp only [List.getElem?_toArray, List.getElem?_cons_succ, List.getElem?_cons_zero, Option.some.injEq] at ho; subst ho; intro K hK
      (try simp only [Act.put, List.setIfInBounds_toArray, List.set_cons_zero, List.set_cons_succ])
      go_simp
      refine hK _ _ (fun hx => by cases hx) ?_
      clear hK K
      refine anyX_done (by kernel_rfl) ?_
      (try simp only [Act.put, List.setIfInBounds_toArray, List.set_cons_zero, List.set_cons_succ])
      (try simp only [Exit.then])
      go_wp2_with fail
      exact bodyPost_ret (v := .tuple #[I x, .agg #[.int .u8 2, I i, I d]]) (by simp [results, Try.results48, go_sem, r0, r1, r2, f0, f1, f2, hBB]) rfl ⟨by rw [← HR2.out]; rfl, ((hN.drew.setCell (by simp) _).setCell (by simp) _).setCell (by simp) _⟩
    | none =>
      simp only [Stage, spotV] at hs
      obtain ⟨rfl, IL2, OL2, hC2, hi, ho⟩ := hs
      have HT2 := Lib.hid (show nextS s3 3 (nextS s4 4 (nextS s5 1 (0, 0, 0, 0))) = r from HT.out)
      replace Hi := Lib.hid hi
      replace Ho := Lib.hid ho
      replace hC := hC2
      clear HT n2 HE hi ho hC2
      go_wp2_with fail
      have ks : New W5 (W5.alloc (.cells #[.int .u8 0, I 0, I 0] 95)) := (New.refl W5).alloc _
      have hp : (W5.alloc (.cells #[.int .u8 0, I 0, I 0] 95)).heap[W5.heap.size]? = some (.cells #[.int .u8 0, I 0, I 0] 95 (0, 0)) := heap_alloc_new W5 _
      have hPW : w.heap.size + 1 < W5.heap.size := (Array.getElem?_eq_some_iff.1 HB.out).1
      generalize (W5.alloc (.cells #[.int .u8 0, I 0, I 0] 95)) = W6 at ks hp ⊢
      generalize W5.heap.size = P at hp hPW ⊢
      replace HX := Lib.hid (Keeps.heap ks HX.out (fun h => h))
      replace HB := Lib.hid (Keeps.heap ks HB.out (fun h => h))
      replace hN := hN.trans ks
      replace hC := hC.new ks
      have HP := Lib.hid hp
      clear ks hp
      clear HP hPW
      replace HT := HT2
      clear HT2
      go_wp2_with fail
      obtain ⟨ok, hok⟩ : ∃ ok, (fun w' => ∃ L, Chk w' w.heap.size (w.heap.size + 1 + 1 + 1) (w.heap.size + 1 + 1) g (namesOf g g.acts.length g.ins.length 0) ia ic L oa oc OL2 ∧ L.map (·.2) = side g nIn (inTk g g.edges.length g.ins.length)) = ok := ⟨_, rfl⟩
      have hc0 : ∀ W, New w W → Chk W w.heap.size (w.heap.size + 1 + 1 + 1) (w.heap.size + 1 + 1) g (namesOf g g.acts.length 0 0) ia ic IL2 oa oc OL2 → Calls Try.prog 64 #[.pointer (some ⟨w.heap.size + 1 + 1 + 1, 0, none⟩), .slice g.ia g.ins.length g.ic, .slice ia IL2.length ic, .int .u8 3, I 2] W fun e w' => Stage s3 3 ok e w' ∧ KP w.heap.size W w' := fun W k h => by
        rw [← hok]; exact HI W ia ic IL2 oa oc OL2 k h Hi
      have hokN : ∀ W W', New W W' → ok W → ok W' := fun W W' k h => by
        rw [← hok] at h ⊢; obtain ⟨L, h1, h2⟩ := h; exact ⟨L, h1.new k, h2⟩
      have hokS : ∀ (W : World) (P : Nat) (cs : Array Value) (u v x : Value), W.heap[P]? = some (.cells cs 95 (0, 0)) → ok W → ok (((W.setCell ⟨P, 0, none⟩ u).setCell ⟨P, 1, none⟩ v).setCell ⟨P, 2, none⟩ x) := fun W P cs u v x hp h => by
        rw [← hok] at h ⊢; obtain ⟨L, h1, h2⟩ := h; exact ⟨L, h1.spot hp u v x, h2⟩
      have Hok := Lib.hid hok
      clear hok HI
      go_cut [11, 12] (fun e p w' => ∃ (x k i d : Int) (P : Nat), e = I x ∧ p = .pointer (some ⟨P, 0, none⟩) ∧ Hid (Res s3 3 ok x k i d w' ∧ w'.heap[P]? = some (.cells #[.int .u8 k, I i, I d] 95 (0, 0)) ∧ w.heap.size + 1 < P ∧
        w'.heap[w.heap.size]? = some (.cells #[.string g.name, .slice g.aa g.acts.length g.ac, .slice g.ea g.edges.length g.ec, .slice g.ia g.ins.length g.ic, .slice g.oa g.outs.length g.oc] 63 (0, 0)) ∧ w'.heap[w.heap.size + 1]? = some (.cells #[.int .u8 0, I 0, I 0] 95 (0, 0)) ∧ New w w'))
      case first =>
        obtain ⟨⟨-, -, -, -, -, -, c6, c7⟩, -, hCl⟩ := chk_cells hC.blk
        have gI : W6.cell? ⟨w.heap.size, 3, none⟩ = some (.slice g.ia g.ins.length g.ic) := by rw [cell_of_block HX.out 3]; rfl
        have hXl : w.heap.size < W6.heap.size := (Array.getElem?_eq_some_iff.1 HX.out).1
        have hdr : New W6 W6.drew := (New.refl W6).drew
        have HCB := Lib.hid hC.blk
        have hS0 : (fun w' : World => w'.cell? ⟨w.heap.size + 1 + 1 + 1, 6, none⟩ = some (.slice ia IL2.length ic) ∧ w'.cell? ⟨w.heap.size, 3, none⟩ = some (.slice g.ia g.ins.length g.ic) ∧ w.heap.size + 1 + 1 + 1 < w'.heap.size ∧ w.heap.size < w'.heap.size) W6.drew := ⟨hdr.cell c6, hdr.cell gI, hCl, hXl⟩
        have HS : ∀ V, KP w.heap.size W6 V → (fun w' : World => w'.cell? ⟨w.heap.size + 1 + 1 + 1, 6, none⟩ = some (.slice ia IL2.length ic) ∧ w'.cell? ⟨w.heap.size, 3, none⟩ = some (.slice g.ia g.ins.length g.ic) ∧ w.heap.size + 1 + 1 + 1 < w'.heap.size ∧ w.heap.size < w'.heap.size) V := fun V k => ⟨by rw [cell_of_block (k.heap HCB.out rfl) 6]; rfl, by rw [cell_of_block (k.heap HX.out rfl) 3]; rfl, Nat.lt_of_lt_of_le hCl k.size, Nat.lt_of_lt_of_le hXl k.size⟩
        have hk0 : KP w.heap.size W6 W6.drew := KX.of_new hdr
        clear c6 c7 gI hXl hCl
        refine wp_region_X (fun w' : World => w'.cell? ⟨w.heap.size + 1 + 1 + 1, 6, none⟩ = some (.slice ia IL2.length ic) ∧ w'.cell? ⟨w.heap.size, 3, none⟩ = some (.slice g.ia g.ins.length g.ic) ∧ w.heap.size + 1 + 1 + 1 < w'.heap.size ∧ w.heap.size < w'.heap.size) [13] (by kernel_rfl) hS0 ?_
        refine anyX_take 0 (by kernel_rfl) (by kernel_rfl) (by kernel_rfl) (by kernel_rfl) (by kernel_rfl) hS0 ?_
        intro oi ho; simp only [List.getElem?_toArray, List.getElem?_cons_succ, List.getElem?_cons_zero, Option.some.injEq] at ho; subst ho
        refine ⟨?_, fun _ _ _ h => h, Or.inl ⟨by rfl, ?_⟩, ?_⟩; rotate_left 1
        · (intro wS hSw; (try dsimp only at hSw); go_simp; try with_reducible rfl)
        simp only [Act.put, List.setIfInBounds_toArray, List.set_cons_zero, List.set_cons_succ]
        refine anyX_take 1 (by kernel_rfl) (by kernel_rfl) (by kernel_rfl) (by kernel_rfl) (by kernel_rfl) hS0 ?_
        intro oi ho; simp only [List.getElem?_toArray, List.getElem?_cons_succ, List.getElem?_cons_zero, Option.some.injEq] at ho; subst ho
        refine ⟨?_, fun _ _ _ h => h, Or.inl ⟨by rfl, ?_⟩, ?_⟩; rotate_left 1
        · (intro wS hSw; (try dsimp only at hSw); go_simp; try with_reducible rfl)
        simp only [Act.put, List.setIfInBounds_toArray, List.set_cons_zero, List.set_cons_succ]
        refine anyX_take 2 (by kernel_rfl) (by kernel_rfl) (by kernel_rfl) (by kernel_rfl) (by kernel_rfl) hS0 ?_
        intro oi ho; simp only [List.getElem?_toArray, List.getElem?_cons_succ, List.getElem?_cons_zero, Option.some.injEq] at ho; subst ho
        refine ⟨?_, fun _ _ _ h => h, Or.inl ⟨by rfl, ?_⟩, ?_⟩; rotate_left 1
        · (intro wS hSw; (try dsimp only at hSw); go_simp; try with_reducible rfl)
        simp only [Act.put, List.setIfInBounds_toArray, List.set_cons_zero, List.set_cons_succ]
        refine anyX_take 3 (by kernel_rfl) (by kernel_rfl) (by kernel_rfl) (by kernel_rfl) (by kernel_rfl) hS0 ?_
        intro oi ho; simp only [List.getElem?_toArray, List.getElem?_cons_succ, List.getElem?_cons_zero, Option.some.injEq] at ho; subst ho
        refine ⟨?_, fun _ _ _ h => h, Or.inl ⟨by rfl, ?_⟩, ?_⟩; rotate_left 1
        · (intro wS hSw; (try dsimp only at hSw); go_simp; try with_reducible rfl)
        simp only [Act.put, List.setIfInBounds_toArray, List.set_cons_zero, List.set_cons_succ]
        refine anyX_take 4 (by kernel_rfl) (by kernel_rfl) (by kernel_rfl) (by kernel_rfl) (by kernel_rfl) hS0 ?_
        intro oi ho; simp only [List.getElem?_toArray, List.getElem?_cons_succ, List.getElem?_cons_zero, Option.some.injEq] at ho; subst ho
        refine ⟨?_, fun _ _ _ h => h, Or.inl ⟨by rfl, ?_⟩, ?_⟩; rotate_left 1
        · (intro wS hSw; (try dsimp only at hSw); go_simp; try with_reducible rfl)
        simp only [Act.put, List.setIfInBounds_toArray, List.set_cons_zero, List.set_cons_succ]
        refine anyX_take 5 (by kernel_rfl) (by kernel_rfl) (by kernel_rfl) (by kernel_rfl) (by kernel_rfl) hS0 ?_
        intro oi ho; simp only [List.getElem?_toArray, List.getElem?_cons_succ, List.getElem?_cons_zero, Option.some.injEq] at ho; subst ho
        refine ⟨?_, fun _ _ _ h => h, Or.inl ⟨by rfl, ?_⟩, ?_⟩; rotate_left 1
        · (intro wS hSw; (try dsimp only at hSw); go_simp; try with_reducible rfl)
        simp only [Act.put, List.setIfInBounds_toArray, List.set_cons_zero, List.set_cons_succ]
        refine anyX_take 6 (by kernel_rfl) (by kernel_rfl) (by kernel_rfl) (by kernel_rfl) (by kernel_rfl) hS0 ?_
        intro oi ho; simp only [List.getElem?_toArray, List.getElem?_cons_succ, List.getElem?_cons_zero, Option.some.injEq] at ho; subst ho
        refine ⟨?_, fun _ _ _ h => h, Or.inl ⟨by rfl, ?_⟩, ?_⟩; rotate_left 1
        · (intro wS hSw; (try dsimp only at hSw); go_simp; try with_reducible rfl)
        simp only [Act.put, List.setIfInBounds_toArray, List.set_cons_zero, List.set_cons_succ]
        refine anyX_two 7 11 (by kernel_rfl) ?_ ?_
        · intro oi ho; simp only [List.getElem?_toArray, List.getElem?_cons_succ, List.getElem?_cons_zero, Option.some.injEq] at ho; subst ho; intro K hK
          (try simp only [Act.put, List.setIfInBounds_toArray, List.set_cons_zero, List.set_cons_succ])
          go_simp
          refine (hc0 W6.drew (hN.trans hdr) (hC.new hdr)).mono ?_
          rintro e VA ⟨hs, kb⟩
          obtain ⟨x, kk, i, d, rfl, hres⟩ := stage_res hs
          have kA := hk0.trans kb
          have HSA := HS VA kA
          refine hK _ _ (fun _ => HSA) ?_
          clear hK K hs kb hS0
          refine anyX_take 8 (by kernel_rfl) (by kernel_rfl) (by kernel_rfl) (by kernel_rfl) (by kernel_rfl) HSA ?_
          intro oi ho; simp only [List.getElem?_toArray, List.getElem?_cons_succ, List.getElem?_cons_zero, Option.some.injEq] at ho; subst ho
          refine ⟨?_, fun _ _ _ h => h, Or.inl ⟨by rfl, ?_⟩, ?_⟩; rotate_left 1
          · (intro wS hSw; (try dsimp only at hSw); go_simp; try with_reducible rfl)
          simp only [Act.put, List.setIfInBounds_toArray, List.set_cons_zero, List.set_cons_succ]
          refine anyX_take 9 (by kernel_rfl) (by kernel_rfl) (by kernel_rfl) (by kernel_rfl) (by kernel_rfl) HSA ?_
          intro oi ho; simp only [List.getElem?_toArray, List.getElem?_cons_succ, List.getElem?_cons_zero, Option.some.injEq] at ho; subst ho
          refine ⟨?_, fun _ _ _ h => h, Or.inl ⟨by rfl, ?_⟩, ?_⟩; rotate_left 1
          · (intro wS hSw; (try dsimp only at hSw); go_simp; try with_reducible rfl)
          simp only [Act.put, List.setIfInBounds_toArray, List.set_cons_zero, List.set_cons_succ]
          refine anyX_take 10 (by kernel_rfl) (by kernel_rfl) (by kernel_rfl) (by kernel_rfl) (by kernel_rfl) HSA ?_
          intro oi ho; simp only [List.getElem?_toArray, List.getElem?_cons_succ, List.getElem?_cons_zero, Option.some.injEq] at ho; subst ho
          refine ⟨?_, fun _ _ _ h => h, Or.inl ⟨by rfl, ?_⟩, ?_⟩; rotate_left 1
          · (intro wS hSw; (try dsimp only at hSw); go_simp; try with_reducible rfl)
          simp only [Act.put, List.setIfInBounds_toArray, List.set_cons_zero, List.set_cons_succ]
          refine anyX_one 11 (by kernel_rfl) ?_
          intro oi ho; simp only [List.getElem?_toArray, List.getElem?_cons_succ, List.getElem?_cons_zero, Option.some.injEq] at ho; subst ho; intro K hK
          refine step_spot ?_ ?_ ?_
          · rfl
          · rfl
          have ks : New VA (VA.alloc (.cells #[.int .u8 0, I 0, I 0] 95)) := (New.refl VA).alloc _
          have hp : (VA.alloc (.cells #[.int .u8 0, I 0, I 0] 95)).heap[VA.heap.size]? = some (.cells #[.int .u8 0, I 0, I 0] 95 (0, 0)) := heap_alloc_new VA _
          have hPW : w.heap.size + 1 < VA.heap.size := Nat.lt_of_lt_of_le (Array.getElem?_eq_some_iff.1 HB.out).1 kA.size
          generalize (VA.alloc (.cells #[.int .u8 0, I 0, I 0] 95)) = VB at ks hp hK ⊢
          generalize VA.heap.size = P at hp hPW ⊢
          have kB := kA.trans (KX.of_new ks)
          have HSB := HS VB kB
          have HRB := Lib.hid (hres.to (hokN _ _ ks))
          have HPB := Lib.hid hp
          refine hK _ _ (fun _ => HSB) ?_
          clear hK K hres ks hp HSA kA
          refine anyX_take 12 (by kernel_rfl) (by kernel_rfl) (by kernel_rfl) (by kernel_rfl) (by kernel_rfl) HSB ?_
          intro oi ho; simp only [List.getElem?_toArray, List.getElem?_cons_succ, List.getElem?_cons_zero, Option.some.injEq] at ho; subst ho
          refine ⟨?_, fun _ _ _ h => h, Or.inl ⟨by rfl, ?_⟩, ?_⟩; rotate_left 1
          · (intro wS hSw; (try dsimp only at hSw); go_simp; try with_reducible rfl)
          simp only [Act.put, List.setIfInBounds_toArray, List.set_cons_zero, List.set_cons_succ]
          obtain ⟨⟨p0, p1, p2⟩, ⟨f0, f1, f2⟩, hPl⟩ := spot_cells HPB.out
          refine anyX_one 13 (by kernel_rfl) ?_
          intro oi ho; simp only [List.getElem?_toArray, List.getElem?_cons_succ, List.getElem?_cons_zero, Option.some.injEq] at ho; subst ho; intro K hK
          (try simp only [Act.put, List.setIfInBounds_toArray, List.set_cons_zero, List.set_cons_succ])
          go_simp
          refine hK _ _ (fun hx => by cases hx) ?_
          clear hK K
          refine anyX_done (by kernel_rfl) ?_
          (try simp only [Act.put, List.setIfInBounds_toArray, List.set_cons_zero, List.set_cons_succ])
          (try simp only [Exit.then])
          go_wp2
          go_meet
          case rel =>
            refine ⟨x, kk, i, d, P, rfl, rfl, Lib.hid ⟨HRB.out.to (hokS _ _ _ _ _ _ HPB.out), spot_stored HPB.out _ _ _, hPW, ?_, ?_, ?_⟩⟩
            · exact (spot_keeps _ _ _).heap (kB.heap HX.out rfl) (by omega)
            · exact (spot_keeps _ _ _).heap (kB.heap HB.out rfl) (by omega)
            · exact New.keeps (kB.new rfl hN) (spot_keeps _ _ _) (fun i hi => by omega)
        · intro oi ho; simp only [List.getElem?_toArray, List.getElem?_cons_succ, List.getElem?_cons_zero, Option.some.injEq] at ho; subst ho; intro K hK
          refine step_spot ?_ ?_ ?_
          · rfl
          · rfl
          have ks : New W6.drew (W6.drew.alloc (.cells #[.int .u8 0, I 0, I 0] 95)) := (New.refl _).alloc _
          have hp : (W6.drew.alloc (.cells #[.int .u8 0, I 0, I 0] 95)).heap[W6.drew.heap.size]? = some (.cells #[.int .u8 0, I 0, I 0] 95 (0, 0)) := heap_alloc_new W6.drew _
          have hPW : w.heap.size + 1 < W6.drew.heap.size := Nat.lt_of_lt_of_le (Array.getElem?_eq_some_iff.1 HB.out).1 hk0.size
          generalize (W6.drew.alloc (.cells #[.int .u8 0, I 0, I 0] 95)) = VA at ks hp hK ⊢
          generalize W6.drew.heap.size = P at hp hPW ⊢
          have kA := hk0.trans (KX.of_new ks)
          have HSA := HS VA kA
          refine hK _ _ (fun _ => HSA) ?_
          clear hK K hS0
          refine anyX_one 7 (by kernel_rfl) ?_
          intro oi ho; simp only [List.getElem?_toArray, List.getElem?_cons_succ, List.getElem?_cons_zero, Option.some.injEq] at ho; subst ho; intro K hK
          (try simp only [Act.put, List.setIfInBounds_toArray, List.set_cons_zero, List.set_cons_succ])
          go_simp
          refine (hc0 VA (kA.new rfl hN) ((hC.new hdr).new ks)).mono ?_
          rintro e VB ⟨hs, kb⟩
          obtain ⟨x, kk, i, d, rfl, hres⟩ := stage_res hs
          have kB := kA.trans kb
          have HSB := HS VB kB
          have HRB := Lib.hid hres
          have HPB := Lib.hid (kb.heap hp rfl)
          refine hK _ _ (fun _ => HSB) ?_
          clear hK K hs kb hres ks hp HSA kA
          refine anyX_take 8 (by kernel_rfl) (by kernel_rfl) (by kernel_rfl) (by kernel_rfl) (by kernel_rfl) HSB ?_
          intro oi ho; simp only [List.getElem?_toArray, List.getElem?_cons_succ, List.getElem?_cons_zero, Option.some.injEq] at ho; subst ho
          refine ⟨?_, fun _ _ _ h => h, Or.inl ⟨by rfl, ?_⟩, ?_⟩; rotate_left 1
          · (intro wS hSw; (try dsimp only at hSw); go_simp; try with_reducible rfl)
          simp only [Act.put, List.setIfInBounds_toArray, List.set_cons_zero, List.set_cons_succ]
          refine anyX_take 9 (by kernel_rfl) (by kernel_rfl) (by kernel_rfl) (by kernel_rfl) (by kernel_rfl) HSB ?_
          intro oi ho; simp only [List.getElem?_toArray, List.getElem?_cons_succ, List.getElem?_cons_zero, Option.some.injEq] at ho; subst ho
          refine ⟨?_, fun _ _ _ h => h, Or.inl ⟨by rfl, ?_⟩, ?_⟩; rotate_left 1
          · (intro wS hSw; (try dsimp only at hSw); go_simp; try with_reducible rfl)
          simp only [Act.put, List.setIfInBounds_toArray, List.set_cons_zero, List.set_cons_succ]
          refine anyX_take 10 (by kernel_rfl) (by kernel_rfl) (by kernel_rfl) (by kernel_rfl) (by kernel_rfl) HSB ?_
          intro oi ho; simp only [List.getElem?_toArray, List.getElem?_cons_succ, List.getElem?_cons_zero, Option.some.injEq] at ho; subst ho
          refine ⟨?_, fun _ _ _ h => h, Or.inl ⟨by rfl, ?_⟩, ?_⟩; rotate_left 1
          · (intro wS hSw; (try dsimp only at hSw); go_simp; try with_reducible rfl)
          simp only [Act.put, List.setIfInBounds_toArray, List.set_cons_zero, List.set_cons_succ]
          refine anyX_take 12 (by kernel_rfl) (by kernel_rfl) (by kernel_rfl) (by kernel_rfl) (by kernel_rfl) HSB ?_
          intro oi ho; simp only [List.getElem?_toArray, List.getElem?_cons_succ, List.getElem?_cons_zero, Option.some.injEq] at ho; subst ho
          refine ⟨?_, fun _ _ _ h => h, Or.inl ⟨by rfl, ?_⟩, ?_⟩; rotate_left 1
          · (intro wS hSw; (try dsimp only at hSw); go_simp; try with_reducible rfl)
          simp only [Act.put, List.setIfInBounds_toArray, List.set_cons_zero, List.set_cons_succ]
          obtain ⟨⟨p0, p1, p2⟩, ⟨f0, f1, f2⟩, hPl⟩ := spot_cells HPB.out
          refine anyX_one 13 (by kernel_rfl) ?_
          intro oi ho; simp only [List.getElem?_toArray, List.getElem?_cons_succ, List.getElem?_cons_zero, Option.some.injEq] at ho; subst ho; intro K hK
          (try simp only [Act.put, List.setIfInBounds_toArray, List.set_cons_zero, List.set_cons_succ])
          go_simp
          refine hK _ _ (fun hx => by cases hx) ?_
          clear hK K
          refine anyX_done (by kernel_rfl) ?_
          (try simp only [Act.put, List.setIfInBounds_toArray, List.set_cons_zero, List.set_cons_succ])
          (try simp only [Exit.then])
          go_wp2
          go_meet
          case rel =>
            refine ⟨x, kk, i, d, P, rfl, rfl, Lib.hid ⟨HRB.out.to (hokS _ _ _ _ _ _ HPB.out), spot_stored HPB.out _ _ _, hPW, ?_, ?_, ?_⟩⟩
            · exact (spot_keeps _ _ _).heap (kB.heap HX.out rfl) (by omega)
            · exact (spot_keeps _ _ _).heap (kB.heap HB.out rfl) (by omega)
            · exact New.keeps (kB.new rfl hN) (spot_keeps _ _ _) (fun i hi => by omega)
      case rest =>
        obtain ⟨x, kk, i, d, P, rfl, rfl, HZ⟩ := hcut
        obtain ⟨W7, hW⟩ : ∃ W, W = wc := ⟨_, rfl⟩
        subst hW
        obtain ⟨hres, hp, hPW, hx0, hb0, hN0⟩ := HZ.out
        have HP := Lib.hid hp
        replace HX := Lib.hid hx0
        replace HB := Lib.hid hb0
        replace hN := hN0
        clear hp hx0 hb0 hN0 HZ hC
        cases s3 with
        | some sx =>
          obtain ⟨i', x', d'⟩ := sx
          obtain ⟨e1, e2, e3, e4⟩ := hres
          have hx : x ≠ 0 := by rw [e1]; exact n3 i' (x', d') rfl
          have dx : (x != 0) = true := by simp [hx]
          have HR2 := Lib.hid (show ((x, kk, i, d) : Int × Int × Int × Int) = r by rw [e1, e2, e3, e4]; exact HT.out)
          clear HT hx n3 e1 e2 e3 e4
          go_wp2_with fail
          obtain ⟨⟨p0, p1, p2⟩, -, hPl⟩ := spot_cells HP.out
          go_wp2_with fail
          have hdr : New W7 W7.drew := (New.refl W7).drew
          have hS0 : (fun w' : World => w'.cell? ⟨P, 0, none⟩ = some (.int .u8 kk) ∧ w'.cell? ⟨P, 1, none⟩ = some (I i) ∧ w'.cell? ⟨P, 2, none⟩ = some (I d) ∧ P < w'.heap.size) W7.drew := ⟨hdr.cell p0, hdr.cell p1, hdr.cell p2, hPl⟩
          obtain ⟨⟨r0, r1, r2⟩, ⟨f0, f1, f2⟩, hBB⟩ := spot_cells HB.out
          clear p0 p1 p2 hPl
          refine wp_region_X (fun w' : World => w'.cell? ⟨P, 0, none⟩ = some (.int .u8 kk) ∧ w'.cell? ⟨P, 1, none⟩ = some (I i) ∧ w'.cell? ⟨P, 2, none⟩ = some (I d) ∧ P < w'.heap.size) [3] (by kernel_rfl) hS0 ?_
          refine anyX_take 0 (by kernel_rfl) (by kernel_rfl) (by kernel_rfl) (by kernel_rfl) (by kernel_rfl) hS0 ?_
          intro oi ho; simp only [List.getElem?_toArray, List.getElem?_cons_succ, List.getElem?_cons_zero, Option.some.injEq] at ho; subst ho
          refine ⟨?_, fun _ _ _ h => h, Or.inl ⟨by rfl, ?_⟩, ?_⟩; rotate_left 1
          · (intro wS hSw; (try dsimp only at hSw); go_simp; try with_reducible rfl)
          simp only [Act.put, List.setIfInBounds_toArray, List.set_cons_zero, List.set_cons_succ]
          refine anyX_take 1 (by kernel_rfl) (by kernel_rfl) (by kernel_rfl) (by kernel_rfl) (by kernel_rfl) hS0 ?_
          intro oi ho; simp only [List.getElem?_toArray, List.getElem?_cons_succ, List.getElem?_cons_zero, Option.some.injEq] at ho; subst ho
          refine ⟨?_, fun _ _ _ h => h, Or.inl ⟨by rfl, ?_⟩, ?_⟩; rotate_left 1
          · (intro wS hSw; (try dsimp only at hSw); go_simp; try with_reducible rfl)
          simp only [Act.put, List.setIfInBounds_toArray, List.set_cons_zero, List.set_cons_succ]
          refine anyX_take 2 (by kernel_rfl) (by kernel_rfl) (by kernel_rfl) (by kernel_rfl) (by kernel_rfl) hS0 ?_
          intro oi ho; simp only [List.getElem?_toArray, List.getElem?_cons_succ, List.getElem?_cons_zero, Option.some.injEq] at ho; subst ho
          refine ⟨?_, fun _ _ _ h => h, Or.inl ⟨by rfl, ?_⟩, ?_⟩; rotate_left 1
          · (intro wS hSw; (try dsimp only at hSw); go_simp; try with_reducible rfl)
          simp only [Act.put, List.setIfInBounds_toArray, List.set_cons_zero, List.set_cons_succ]
          refine anyX_one 3 (by kernel_rfl) ?_
          intro oi ho; simp only [List.getElem?_toArray, List.getElem?_cons_succ, List.getElem?_cons_zero, Option.some.injEq] at ho; subst ho; intro K hK
          (try simp only [Act.put, List.setIfInBounds_toArray, List.set_cons_zero, List.set_cons_succ])
          go_simp
          refine hK _ _ (fun hx => by cases hx) ?_
          clear hK K
          refine anyX_done (by kernel_rfl) ?_
          (try simp only [Act.put, List.setIfInBounds_toArray, List.set_cons_zero, List.set_cons_succ])
          (try simp only [Exit.then])
          go_wp2_with fail
          exact bodyPost_ret (v := .tuple #[I x, .agg #[.int .u8 kk, I i, I d]]) (by simp [results, Try.results48, go_sem, r0, r1, r2, f0, f1, f2, hBB]) rfl ⟨by rw [← HR2.out]; rfl, ((hN.drew.setCell (by simp) _).setCell (by simp) _).setCell (by simp) _⟩
        | none =>
          obtain ⟨rfl, rfl, rfl, rfl, hk⟩ := hres
          rw [← Hok.out] at hk
          obtain ⟨IL3, hC, hi⟩ := hk
          have HIL3 := Lib.hid hi
          have HT2 := Lib.hid (show nextS s4 4 (nextS s5 1 (0, 0, 0, 0)) = r from HT.out)
          replace HT := HT2
          clear HT2 hi Hok hc0 hokN hokS HP hPW n3
          go_wp2_with fail
          obtain ⟨ok, hok⟩ : ∃ ok, (fun w' => ∃ L, Chk w' w.heap.size (w.heap.size + 1 + 1 + 1) (w.heap.size + 1 + 1) g (namesOf g g.acts.length g.ins.length g.outs.length) ia ic IL3 oa oc L ∧ L.map (·.2) = side g nOut (outTk g g.edges.length g.outs.length)) = ok := ⟨_, rfl⟩
          have hc0 : ∀ W, New w W → Chk W w.heap.size (w.heap.size + 1 + 1 + 1) (w.heap.size + 1 + 1) g (namesOf g g.acts.length g.ins.length 0) ia ic IL3 oa oc OL2 → Calls Try.prog 64 #[.pointer (some ⟨w.heap.size + 1 + 1 + 1, 0, none⟩), .slice g.oa g.outs.length g.oc, .slice oa OL2.length oc, .int .u8 4, I 1] W fun e w' => Stage s4 4 ok e w' ∧ KP w.heap.size W w' := fun W k h => by
            rw [← hok]; exact HO W ia ic IL3 oa oc OL2 k h Ho
          have hokN : ∀ W W', New W W' → ok W → ok W' := fun W W' k h => by
            rw [← hok] at h ⊢; obtain ⟨L, h1, h2⟩ := h; exact ⟨L, h1.new k, h2⟩
          have hokS : ∀ (W : World) (P : Nat) (cs : Array Value) (u v x : Value), W.heap[P]? = some (.cells cs 95 (0, 0)) → ok W → ok (((W.setCell ⟨P, 0, none⟩ u).setCell ⟨P, 1, none⟩ v).setCell ⟨P, 2, none⟩ x) := fun W P cs u v x hp h => by
            rw [← hok] at h ⊢; obtain ⟨L, h1, h2⟩ := h; exact ⟨L, h1.spot hp u v x, h2⟩
          have Hok := Lib.hid hok
          clear hok HO
          go_cut [13, 14] (fun e p w' => ∃ (x k i d : Int) (P : Nat), e = I x ∧ p = .pointer (some ⟨P, 0, none⟩) ∧ Hid (Res s4 4 ok x k i d w' ∧ w'.heap[P]? = some (.cells #[.int .u8 k, I i, I d] 95 (0, 0)) ∧ w.heap.size + 1 < P ∧
            w'.heap[w.heap.size]? = some (.cells #[.string g.name, .slice g.aa g.acts.length g.ac, .slice g.ea g.edges.length g.ec, .slice g.ia g.ins.length g.ic, .slice g.oa g.outs.length g.oc] 63 (0, 0)) ∧ w'.heap[w.heap.size + 1]? = some (.cells #[.int .u8 0, I 0, I 0] 95 (0, 0)) ∧ New w w'))
          case first =>
            obtain ⟨⟨-, -, -, -, -, -, c6, c7⟩, -, hCl⟩ := chk_cells hC.blk
            have gI : W7.cell? ⟨w.heap.size, 4, none⟩ = some (.slice g.oa g.outs.length g.oc) := by rw [cell_of_block HX.out 4]; rfl
            have hXl : w.heap.size < W7.heap.size := (Array.getElem?_eq_some_iff.1 HX.out).1
            have hdr : New W7 W7.drew := (New.refl W7).drew
            have HCB := Lib.hid hC.blk
            have hS0 : (fun w' : World => w'.cell? ⟨w.heap.size + 1 + 1 + 1, 7, none⟩ = some (.slice oa OL2.length oc) ∧ w'.cell? ⟨w.heap.size, 4, none⟩ = some (.slice g.oa g.outs.length g.oc) ∧ w.heap.size + 1 + 1 + 1 < w'.heap.size ∧ w.heap.size < w'.heap.size) W7.drew := ⟨hdr.cell c7, hdr.cell gI, hCl, hXl⟩
            have HS : ∀ V, KP w.heap.size W7 V → (fun w' : World => w'.cell? ⟨w.heap.size + 1 + 1 + 1, 7, none⟩ = some (.slice oa OL2.length oc) ∧ w'.cell? ⟨w.heap.size, 4, none⟩ = some (.slice g.oa g.outs.length g.oc) ∧ w.heap.size + 1 + 1 + 1 < w'.heap.size ∧ w.heap.size < w'.heap.size) V := fun V k => ⟨by rw [cell_of_block (k.heap HCB.out rfl) 7]; rfl, by rw [cell_of_block (k.heap HX.out rfl) 4]; rfl, Nat.lt_of_lt_of_le hCl k.size, Nat.lt_of_lt_of_le hXl k.size⟩
            have hk0 : KP w.heap.size W7 W7.drew := KX.of_new hdr
            clear c6 c7 gI hXl hCl
            refine wp_region_X (fun w' : World => w'.cell? ⟨w.heap.size + 1 + 1 + 1, 7, none⟩ = some (.slice oa OL2.length oc) ∧ w'.cell? ⟨w.heap.size, 4, none⟩ = some (.slice g.oa g.outs.length g.oc) ∧ w.heap.size + 1 + 1 + 1 < w'.heap.size ∧ w.heap.size < w'.heap.size) [13] (by kernel_rfl) hS0 ?_
            refine anyX_take 0 (by kernel_rfl) (by kernel_rfl) (by kernel_rfl) (by kernel_rfl) (by kernel_rfl) hS0 ?_
            intro oi ho; simp only [List.getElem?_toArray, List.getElem?_cons_succ, List.getElem?_cons_zero, Option.some.injEq] at ho; subst ho
            refine ⟨?_, fun _ _ _ h => h, Or.inl ⟨by rfl, ?_⟩, ?_⟩; rotate_left 1
            · (intro wS hSw; (try dsimp only at hSw); go_simp; try with_reducible rfl)
            simp only [Act.put, List.setIfInBounds_toArray, List.set_cons_zero, List.set_cons_succ]
            refine anyX_take 1 (by kernel_rfl) (by kernel_rfl) (by kernel_rfl) (by kernel_rfl) (by kernel_rfl) hS0 ?_
            intro oi ho; simp only [List.getElem?_toArray, List.getElem?_cons_succ, List.getElem?_cons_zero, Option.some.injEq] at ho; subst ho
            refine ⟨?_, fun _ _ _ h => h, Or.inl ⟨by rfl, ?_⟩, ?_⟩; rotate_left 1
            · (intro wS hSw; (try dsimp only at hSw); go_simp; try with_reducible rfl)
            simp only [Act.put, List.setIfInBounds_toArray, List.set_cons_zero, List.set_cons_succ]
            refine anyX_take 2 (by kernel_rfl) (by kernel_rfl) (by kernel_rfl) (by kernel_rfl) (by kernel_rfl) hS0 ?_
            intro oi ho; simp only [List.getElem?_toArray, List.getElem?_cons_succ, List.getElem?_cons_zero, Option.some.injEq] at ho; subst ho
            refine ⟨?_, fun _ _ _ h => h, Or.inl ⟨by rfl, ?_⟩, ?_⟩; rotate_left 1
            · (intro wS hSw; (try dsimp only at hSw); go_simp; try with_reducible rfl)
            simp only [Act.put, List.setIfInBounds_toArray, List.set_cons_zero, List.set_cons_succ]
            refine anyX_take 3 (by kernel_rfl) (by kernel_rfl) (by kernel_rfl) (by kernel_rfl) (by kernel_rfl) hS0 ?_
            intro oi ho; simp only [List.getElem?_toArray, List.getElem?_cons_succ, List.getElem?_cons_zero, Option.some.injEq] at ho; subst ho
            refine ⟨?_, fun _ _ _ h => h, Or.inl ⟨by rfl, ?_⟩, ?_⟩; rotate_left 1
            · (intro wS hSw; (try dsimp only at hSw); go_simp; try with_reducible rfl)
            simp only [Act.put, List.setIfInBounds_toArray, List.set_cons_zero, List.set_cons_succ]
            refine anyX_take 4 (by kernel_rfl) (by kernel_rfl) (by kernel_rfl) (by kernel_rfl) (by kernel_rfl) hS0 ?_
            intro oi ho; simp only [List.getElem?_toArray, List.getElem?_cons_succ, List.getElem?_cons_zero, Option.some.injEq] at ho; subst ho
            refine ⟨?_, fun _ _ _ h => h, Or.inl ⟨by rfl, ?_⟩, ?_⟩; rotate_left 1
            · (intro wS hSw; (try dsimp only at hSw); go_simp; try with_reducible rfl)
            simp only [Act.put, List.setIfInBounds_toArray, List.set_cons_zero, List.set_cons_succ]
            refine anyX_take 5 (by kernel_rfl) (by kernel_rfl) (by kernel_rfl) (by kernel_rfl) (by kernel_rfl) hS0 ?_
            intro oi ho; simp only [List.getElem?_toArray, List.getElem?_cons_succ, List.getElem?_cons_zero, Option.some.injEq] at ho; subst ho
            refine ⟨?_, fun _ _ _ h => h, Or.inl ⟨by rfl, ?_⟩, ?_⟩; rotate_left 1
            · (intro wS hSw; (try dsimp only at hSw); go_simp; try with_reducible rfl)
            simp only [Act.put, List.setIfInBounds_toArray, List.set_cons_zero, List.set_cons_succ]
            refine anyX_take 6 (by kernel_rfl) (by kernel_rfl) (by kernel_rfl) (by kernel_rfl) (by kernel_rfl) hS0 ?_
            intro oi ho; simp only [List.getElem?_toArray, List.getElem?_cons_succ, List.getElem?_cons_zero, Option.some.injEq] at ho; subst ho
            refine ⟨?_, fun _ _ _ h => h, Or.inl ⟨by rfl, ?_⟩, ?_⟩; rotate_left 1
            · (intro wS hSw; (try dsimp only at hSw); go_simp; try with_reducible rfl)
            simp only [Act.put, List.setIfInBounds_toArray, List.set_cons_zero, List.set_cons_succ]
            refine anyX_two 7 11 (by kernel_rfl) ?_ ?_
            · intro oi ho; simp only [List.getElem?_toArray, List.getElem?_cons_succ, List.getElem?_cons_zero, Option.some.injEq] at ho; subst ho; intro K hK
              (try simp only [Act.put, List.setIfInBounds_toArray, List.set_cons_zero, List.set_cons_succ])
              go_simp
              refine (hc0 W7.drew (hN.trans hdr) (hC.new hdr)).mono ?_
              rintro e VA ⟨hs, kb⟩
              obtain ⟨x, kk, i, d, rfl, hres⟩ := stage_res hs
              have kA := hk0.trans kb
              have HSA := HS VA kA
              refine hK _ _ (fun _ => HSA) ?_
              clear hK K hs kb hS0
              refine anyX_take 8 (by kernel_rfl) (by kernel_rfl) (by kernel_rfl) (by kernel_rfl) (by kernel_rfl) HSA ?_
              intro oi ho; simp only [List.getElem?_toArray, List.getElem?_cons_succ, List.getElem?_cons_zero, Option.some.injEq] at ho; subst ho
              refine ⟨?_, fun _ _ _ h => h, Or.inl ⟨by rfl, ?_⟩, ?_⟩; rotate_left 1
              · (intro wS hSw; (try dsimp only at hSw); go_simp; try with_reducible rfl)
              simp only [Act.put, List.setIfInBounds_toArray, List.set_cons_zero, List.set_cons_succ]
              refine anyX_take 9 (by kernel_rfl) (by kernel_rfl) (by kernel_rfl) (by kernel_rfl) (by kernel_rfl) HSA ?_
              intro oi ho; simp only [List.getElem?_toArray, List.getElem?_cons_succ, List.getElem?_cons_zero, Option.some.injEq] at ho; subst ho
              refine ⟨?_, fun _ _ _ h => h, Or.inl ⟨by rfl, ?_⟩, ?_⟩; rotate_left 1
              · (intro wS hSw; (try dsimp only at hSw); go_simp; try with_reducible rfl)
              simp only [Act.put, List.setIfInBounds_toArray, List.set_cons_zero, List.set_cons_succ]
              refine anyX_take 10 (by kernel_rfl) (by kernel_rfl) (by kernel_rfl) (by kernel_rfl) (by kernel_rfl) HSA ?_
              intro oi ho; simp only [List.getElem?_toArray, List.getElem?_cons_succ, List.getElem?_cons_zero, Option.some.injEq] at ho; subst ho
              refine ⟨?_, fun _ _ _ h => h, Or.inl ⟨by rfl, ?_⟩, ?_⟩; rotate_left 1
              · (intro wS hSw; (try dsimp only at hSw); go_simp; try with_reducible rfl)
              simp only [Act.put, List.setIfInBounds_toArray, List.set_cons_zero, List.set_cons_succ]
              refine anyX_one 11 (by kernel_rfl) ?_
              intro oi ho; simp only [List.getElem?_toArray, List.getElem?_cons_succ, List.getElem?_cons_zero, Option.some.injEq] at ho; subst ho; intro K hK
              refine step_spot ?_ ?_ ?_
              · rfl
              · rfl
              have ks : New VA (VA.alloc (.cells #[.int .u8 0, I 0, I 0] 95)) := (New.refl VA).alloc _
              have hp : (VA.alloc (.cells #[.int .u8 0, I 0, I 0] 95)).heap[VA.heap.size]? = some (.cells #[.int .u8 0, I 0, I 0] 95 (0, 0)) := heap_alloc_new VA _
              have hPW : w.heap.size + 1 < VA.heap.size := Nat.lt_of_lt_of_le (Array.getElem?_eq_some_iff.1 HB.out).1 kA.size
              generalize (VA.alloc (.cells #[.int .u8 0, I 0, I 0] 95)) = VB at ks hp hK ⊢
              generalize VA.heap.size = P at hp hPW ⊢
              have kB := kA.trans (KX.of_new ks)
              have HSB := HS VB kB
              have HRB := Lib.hid (hres.to (hokN _ _ ks))
              have HPB := Lib.hid hp
              refine hK _ _ (fun _ => HSB) ?_
              clear hK K hres ks hp HSA kA
              refine anyX_take 12 (by kernel_rfl) (by kernel_rfl) (by kernel_rfl) (by kernel_rfl) (by kernel_rfl) HSB ?_
              intro oi ho; simp only [List.getElem?_toArray, List.getElem?_cons_succ, List.getElem?_cons_zero, Option.some.injEq] at ho; subst ho
              refine ⟨?_, fun _ _ _ h => h, Or.inl ⟨by rfl, ?_⟩, ?_⟩; rotate_left 1
              · (intro wS hSw; (try dsimp only at hSw); go_simp; try with_reducible rfl)
              simp only [Act.put, List.setIfInBounds_toArray, List.set_cons_zero, List.set_cons_succ]
              obtain ⟨⟨p0, p1, p2⟩, ⟨f0, f1, f2⟩, hPl⟩ := spot_cells HPB.out
              refine anyX_one 13 (by kernel_rfl) ?_
              intro oi ho; simp only [List.getElem?_toArray, List.getElem?_cons_succ, List.getElem?_cons_zero, Option.some.injEq] at ho; subst ho; intro K hK
              (try simp only [Act.put, List.setIfInBounds_toArray, List.set_cons_zero, List.set_cons_succ])
              go_simp
              refine hK _ _ (fun hx => by cases hx) ?_
              clear hK K
              refine anyX_done (by kernel_rfl) ?_
              (try simp only [Act.put, List.setIfInBounds_toArray, List.set_cons_zero, List.set_cons_succ])
              (try simp only [Exit.then])
              go_wp2
              go_meet
              case rel =>
                refine ⟨x, kk, i, d, P, rfl, rfl, Lib.hid ⟨HRB.out.to (hokS _ _ _ _ _ _ HPB.out), spot_stored HPB.out _ _ _, hPW, ?_, ?_, ?_⟩⟩
                · exact (spot_keeps _ _ _).heap (kB.heap HX.out rfl) (by omega)
                · exact (spot_keeps _ _ _).heap (kB.heap HB.out rfl) (by omega)
                · exact New.keeps (kB.new rfl hN) (spot_keeps _ _ _) (fun i hi => by omega)
            · intro oi ho; simp only [List.getElem?_toArray, List.getElem?_cons_succ, List.getElem?_cons_zero, Option.some.injEq] at ho; subst ho; intro K hK
              refine step_spot ?_ ?_ ?_
              · rfl
              · rfl
              have ks : New W7.drew (W7.drew.alloc (.cells #[.int .u8 0, I 0, I 0] 95)) := (New.refl _).alloc _
              have hp : (W7.drew.alloc (.cells #[.int .u8 0, I 0, I 0] 95)).heap[W7.drew.heap.size]? = some (.cells #[.int .u8 0, I 0, I 0] 95 (0, 0)) := heap_alloc_new W7.drew _
              have hPW : w.heap.size + 1 < W7.drew.heap.size := Nat.lt_of_lt_of_le (Array.getElem?_eq_some_iff.1 HB.out).1 hk0.size
              generalize (W7.drew.alloc (.cells #[.int .u8 0, I 0, I 0] 95)) = VA at ks hp hK ⊢
              generalize W7.drew.heap.size = P at hp hPW ⊢
              have kA := hk0.trans (KX.of_new ks)
              have HSA := HS VA kA
              refine hK _ _ (fun _ => HSA) ?_
              clear hK K hS0
              refine anyX_one 7 (by kernel_rfl) ?_
              intro oi ho; simp only [List.getElem?_toArray, List.getElem?_cons_succ, List.getElem?_cons_zero, Option.some.injEq] at ho; subst ho; intro K hK
              (try simp only [Act.put, List.setIfInBounds_toArray, List.set_cons_zero, List.set_cons_succ])
              go_simp
              refine (hc0 VA (kA.new rfl hN) ((hC.new hdr).new ks)).mono ?_
              rintro e VB ⟨hs, kb⟩
              obtain ⟨x, kk, i, d, rfl, hres⟩ := stage_res hs
              have kB := kA.trans kb
              have HSB := HS VB kB
              have HRB := Lib.hid hres
              have HPB := Lib.hid (kb.heap hp rfl)
              refine hK _ _ (fun _ => HSB) ?_
              clear hK K hs kb hres ks hp HSA kA
              refine anyX_take 8 (by kernel_rfl) (by kernel_rfl) (by kernel_rfl) (by kernel_rfl) (by kernel_rfl) HSB ?_
              intro oi ho; simp only [List.getElem?_toArray, List.getElem?_cons_succ, List.getElem?_cons_zero, Option.some.injEq] at ho; subst ho
              refine ⟨?_, fun _ _ _ h => h, Or.inl ⟨by rfl, ?_⟩, ?_⟩; rotate_left 1
              · (intro wS hSw; (try dsimp only at hSw); go_simp; try with_reducible rfl)
              simp only [Act.put, List.setIfInBounds_toArray, List.set_cons_zero, List.set_cons_succ]
              refine anyX_take 9 (by kernel_rfl) (by kernel_rfl) (by kernel_rfl) (by kernel_rfl) (by kernel_rfl) HSB ?_
              intro oi ho; simp only [List.getElem?_toArray, List.getElem?_cons_succ, List.getElem?_cons_zero, Option.some.injEq] at ho; subst ho
              refine ⟨?_, fun _ _ _ h => h, Or.inl ⟨by rfl, ?_⟩, ?_⟩; rotate_left 1
              · (intro wS hSw; (try dsimp only at hSw); go_simp; try with_reducible rfl)
              simp only [Act.put, List.setIfInBounds_toArray, List.set_cons_zero, List.set_cons_succ]
              refine anyX_take 10 (by kernel_rfl) (by kernel_rfl) (by kernel_rfl) (by kernel_rfl) (by kernel_rfl) HSB ?_
              intro oi ho; simp only [List.getElem?_toArray, List.getElem?_cons_succ, List.getElem?_cons_zero, Option.some.injEq] at ho; subst ho
              refine ⟨?_, fun _ _ _ h => h, Or.inl ⟨by rfl, ?_⟩, ?_⟩; rotate_left 1
              · (intro wS hSw; (try dsimp only at hSw); go_simp; try with_reducible rfl)
              simp only [Act.put, List.setIfInBounds_toArray, List.set_cons_zero, List.set_cons_succ]
              refine anyX_take 12 (by kernel_rfl) (by kernel_rfl) (by kernel_rfl) (by kernel_rfl) (by kernel_rfl) HSB ?_
              intro oi ho; simp only [List.getElem?_toArray, List.getElem?_cons_succ, List.getElem?_cons_zero, Option.some.injEq] at ho; subst ho
              refine ⟨?_, fun _ _ _ h => h, Or.inl ⟨by rfl, ?_⟩, ?_⟩; rotate_left 1
              · (intro wS hSw; (try dsimp only at hSw); go_simp; try with_reducible rfl)
              simp only [Act.put, List.setIfInBounds_toArray, List.set_cons_zero, List.set_cons_succ]
              obtain ⟨⟨p0, p1, p2⟩, ⟨f0, f1, f2⟩, hPl⟩ := spot_cells HPB.out
              refine anyX_one 13 (by kernel_rfl) ?_
              intro oi ho; simp only [List.getElem?_toArray, List.getElem?_cons_succ, List.getElem?_cons_zero, Option.some.injEq] at ho; subst ho; intro K hK
              (try simp only [Act.put, List.setIfInBounds_toArray, List.set_cons_zero, List.set_cons_succ])
              go_simp
              refine hK _ _ (fun hx => by cases hx) ?_
              clear hK K
              refine anyX_done (by kernel_rfl) ?_
              (try simp only [Act.put, List.setIfInBounds_toArray, List.set_cons_zero, List.set_cons_succ])
              (try simp only [Exit.then])
              go_wp2
              go_meet
              case rel =>
                refine ⟨x, kk, i, d, P, rfl, rfl, Lib.hid ⟨HRB.out.to (hokS _ _ _ _ _ _ HPB.out), spot_stored HPB.out _ _ _, hPW, ?_, ?_, ?_⟩⟩
                · exact (spot_keeps _ _ _).heap (kB.heap HX.out rfl) (by omega)
                · exact (spot_keeps _ _ _).heap (kB.heap HB.out rfl) (by omega)
                · exact New.keeps (kB.new rfl hN) (spot_keeps _ _ _) (fun i hi => by omega)
          case rest =>
            obtain ⟨x, kk, i, d, P, rfl, rfl, HZ⟩ := hcut
            obtain ⟨W8, hW⟩ : ∃ W, W = wc := ⟨_, rfl⟩
            subst hW
            obtain ⟨hres, hp, hPW, hx0, hb0, hN0⟩ := HZ.out
            have HP := Lib.hid hp
            replace HX := Lib.hid hx0
            replace HB := Lib.hid hb0
            replace hN := hN0
            clear hp hx0 hb0 hN0 HZ hC
            cases s4 with
            | some sx =>
              obtain ⟨i', x', d'⟩ := sx
              obtain ⟨e1, e2, e3, e4⟩ := hres
              have hx : x ≠ 0 := by rw [e1]; exact n4 i' (x', d') rfl
              have dx : (x != 0) = true := by simp [hx]
              have HR2 := Lib.hid (show ((x, kk, i, d) : Int × Int × Int × Int) = r by rw [e1, e2, e3, e4]; exact HT.out)
              clear HT hx n4 e1 e2 e3 e4
              go_wp2_with fail
              obtain ⟨⟨p0, p1, p2⟩, -, hPl⟩ := spot_cells HP.out
              go_wp2_with fail
              have hdr : New W8 W8.drew := (New.refl W8).drew
              have hS0 : (fun w' : World => w'.cell? ⟨P, 0, none⟩ = some (.int .u8 kk) ∧ w'.cell? ⟨P, 1, none⟩ = some (I i) ∧ w'.cell? ⟨P, 2, none⟩ = some (I d) ∧ P < w'.heap.size) W8.drew := ⟨hdr.cell p0, hdr.cell p1, hdr.cell p2, hPl⟩
              obtain ⟨⟨r0, r1, r2⟩, ⟨f0, f1, f2⟩, hBB⟩ := spot_cells HB.out
              clear p0 p1 p2 hPl
              refine wp_region_X (fun w' : World => w'.cell? ⟨P, 0, none⟩ = some (.int .u8 kk) ∧ w'.cell? ⟨P, 1, none⟩ = some (I i) ∧ w'.cell? ⟨P, 2, none⟩ = some (I d) ∧ P < w'.heap.size) [3] (by kernel_rfl) hS0 ?_
              refine anyX_take 0 (by kernel_rfl) (by kernel_rfl) (by kernel_rfl) (by kernel_rfl) (by kernel_rfl) hS0 ?_
              intro oi ho; simp only [List.getElem?_toArray, List.getElem?_cons_succ, List.getElem?_cons_zero, Option.some.injEq] at ho; subst ho
              refine ⟨?_, fun _ _ _ h => h, Or.inl ⟨by rfl, ?_⟩, ?_⟩; rotate_left 1
              · (intro wS hSw; (try dsimp only at hSw); go_simp; try with_reducible rfl)
              simp only [Act.put, List.setIfInBounds_toArray, List.set_cons_zero, List.set_cons_succ]
              refine anyX_take 1 (by kernel_rfl) (by kernel_rfl) (by kernel_rfl) (by kernel_rfl) (by kernel_rfl) hS0 ?_
              intro oi ho; simp only [List.getElem?_toArray, List.getElem?_cons_succ, List.getElem?_cons_zero, Option.some.injEq] at ho; subst ho
              refine ⟨?_, fun _ _ _ h => h, Or.inl ⟨by rfl, ?_⟩, ?_⟩; rotate_left 1
              · (intro wS hSw; (try dsimp only at hSw); go_simp; try with_reducible rfl)
              simp only [Act.put, List.setIfInBounds_toArray, List.set_cons_zero, List.set_cons_succ]
              refine anyX_take 2 (by kernel_rfl) (by kernel_rfl) (by kernel_rfl) (by kernel_rfl) (by kernel_rfl) hS0 ?_
              intro oi ho; simp only [List.getElem?_toArray, List.getElem?_cons_succ, List.getElem?_cons_zero, Option.some.injEq] at ho; subst ho
              refine ⟨?_, fun _ _ _ h => h, Or.inl ⟨by rfl, ?_⟩, ?_⟩; rotate_left 1
              · (intro wS hSw; (try dsimp only at hSw); go_simp; try with_reducible rfl)
              simp only [Act.put, List.setIfInBounds_toArray, List.set_cons_zero, List.set_cons_succ]
              refine anyX_one 3 (by kernel_rfl) ?_
              intro oi ho; simp only [List.getElem?_toArray, List.getElem?_cons_succ, List.getElem?_cons_zero, Option.some.injEq] at ho; subst ho; intro K hK
              (try simp only [Act.put, List.setIfInBounds_toArray, List.set_cons_zero, List.set_cons_succ])
              go_simp
              refine hK _ _ (fun hx => by cases hx) ?_
              clear hK K
              refine anyX_done (by kernel_rfl) ?_
              (try simp only [Act.put, List.setIfInBounds_toArray, List.set_cons_zero, List.set_cons_succ])
              (try simp only [Exit.then])
              go_wp2_with fail
              exact bodyPost_ret (v := .tuple #[I x, .agg #[.int .u8 kk, I i, I d]]) (by simp [results, Try.results48, go_sem, r0, r1, r2, f0, f1, f2, hBB]) rfl ⟨by rw [← HR2.out]; rfl, ((hN.drew.setCell (by simp) _).setCell (by simp) _).setCell (by simp) _⟩
            | none =>
              obtain ⟨rfl, rfl, rfl, rfl, hk⟩ := hres
              rw [← Hok.out] at hk
              obtain ⟨OL4, hC, hi⟩ := hk
              have HOL4 := Lib.hid hi
              have HT2 := Lib.hid (show nextS s5 1 (0, 0, 0, 0) = r from HT.out)
              replace HT := HT2
              clear HT2 hi Hok hc0 hokN hokS HP hPW n4
              go_wp2_with fail
              refine (HQ W8 ia ic IL3 oa oc OL4 hN hC HIL3 HOL4).mono ?_
              rintro e W9 ⟨hs, kb⟩
              replace HB := Lib.hid (kb.heap HB.out rfl)
              replace hN := kb.new rfl hN
              obtain ⟨x, kk, i, d, rfl, hres⟩ := stage_res hs
              have HR2 := Lib.hid (show ((x, kk, i, d) : Int × Int × Int × Int) = r by
                rw [← HT.out]
                cases s5 with
                | some sx => obtain ⟨i', x', d'⟩ := sx; obtain ⟨e1, e2, e3, e4⟩ := hres; rw [e1, e2, e3, e4]; rfl
                | none => obtain ⟨e1, e2, e3, e4, -⟩ := hres; rw [e1, e2, e3, e4]; rfl)
              obtain ⟨⟨r0, r1, r2⟩, ⟨f0, f1, f2⟩, hBB⟩ := spot_cells HB.out
              clear hs kb hres HT HQ n5
              go_wp2_with fail
              exact bodyPost_ret (v := .tuple #[I x, .agg #[.int .u8 kk, I i, I d]]) (by simp [results, Try.results48, go_sem, r0, r1, r2, f0, f1, f2, hBB]) rfl ⟨by rw [← HR2.out]; rfl, ((hN.setCell (by simp) _).setCell (by simp) _).setCell (by simp) _⟩
set_option maxRecDepth 100000 in
theorem ccheck_any (w : World) (g : Gr) (hg : GrAt w g) (hl : GLen g) :
    Calls Try.prog 42 #[g.v] w fun en w' => en = .returned (I (findG g).1) ∧ New w w' := by
  have HF : ∀ W, New w W → Calls Try.prog 48 #[g.v] W fun en w' => en = .returned (spotOf (findG g)) ∧ New W w' := fun W k => cfind_any W g (hg.new k) hl
  generalize findG g = fg at HF ⊢
  clear hg hl
  obtain ⟨f0, f1, f2, f3⟩ := fg
  simp only [Gr.v, Gr.cs, spotOf, spotV] at HF ⊢
  go_enter Try.func42, Try.ntmps42
  go_wp2_with fail
  refine (HF _ ((New.refl w).alloc _)).mono ?_
  rintro e w1 ⟨rfl, k1⟩
  go_wp2_with fail
  go_ret
  exact ⟨rfl, (((New.refl w).alloc _).trans k1).alloc _⟩
end Go.Proofs.Ytijlgcbnoekmeaa
