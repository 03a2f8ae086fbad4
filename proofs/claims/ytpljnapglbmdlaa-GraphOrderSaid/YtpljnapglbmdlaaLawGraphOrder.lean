/-
  'GraphOrder': the law returns true at every input; what it is handed reads afterwards as before.
-/
import Derived.Test.YtpljnapglbmdlaaRead
import Derived.Test.YtpljnapglbmdlaaReadGr
import Derived.Test.YtpljnapglbmdlaaGrZ
import Derived.Test.YtpljnapglbmdlaaGsH
import Derived.Test.YtpljnapglbmdlaaGsC
import Derived.Test.YtpljnapglbmdlaaGsD
import Derived.Test.YtpljnapglbmdlaaGtD
import Derived.Test.YtpljnapglbmdlaaGtF
namespace Go.Proofs.Ytpljnapglbmdlaa.graphOrder
open Go Go.RowKit Go.Joins Go.ChangeShapes Go.WideShapes Go.ChangeAt
open Go.ChangeMaps (open_string shut_string)
set_option linter.all false

set_option maxRecDepth 100000 in
set_option maxHeartbeats 16000000 in
theorem walk (w : World) (g0 : Gr) (hg0 : GrAt w g0) (hl0 : GLen g0) (hw0 : GWf g0) (hr0 : GRoom g0) :
    Calls Try.prog 7 #[g0.v] w fun e w' => e = .returned (.bool true) ∧ New w w' := by
  have HHV := Lib.hid (fun W (k : New w W) => heavy_any W g0 (hg0.new k) hr0)
  simp only [Gr.v, Gr.cs] at HHV ⊢
  go_enter Try.func7, Try.ntmps7
  have na : New w (w.alloc (.cells #[.string g0.name, .slice g0.aa g0.acts.length g0.ac, .slice g0.ea g0.edges.length g0.ec, .slice g0.ia g0.ins.length g0.ic, .slice g0.oa g0.outs.length g0.oc] 26)) := (New.refl w).alloc _
  have ha : (w.alloc (.cells #[.string g0.name, .slice g0.aa g0.acts.length g0.ac, .slice g0.ea g0.edges.length g0.ec, .slice g0.ia g0.ins.length g0.ic, .slice g0.oa g0.outs.length g0.oc] 26)).heap[w.heap.size]? = some (.cells #[.string g0.name, .slice g0.aa g0.acts.length g0.ac, .slice g0.ea g0.edges.length g0.ec, .slice g0.ia g0.ins.length g0.ic, .slice g0.oa g0.outs.length g0.oc] 26 (0, 0)) := heap_alloc_new w _
  go_wp2_with fail
  generalize (w.alloc (.cells #[.string g0.name, .slice g0.aa g0.acts.length g0.ac, .slice g0.ea g0.edges.length g0.ec, .slice g0.ia g0.ins.length g0.ic, .slice g0.oa g0.outs.length g0.oc] 26)) = wa at na ha ⊢
  have HB := Lib.hid ha
  clear ha
  refine (HHV.out wa na).mono ?_
  rintro e w1 ⟨he, k1⟩
  have hN1 := na.trans k1
  rcases he with rfl | ⟨rfl, hf⟩
  · go_wp2_with fail
    go_ret
    exact ⟨rfl, hN1⟩
  · have HB1 := Lib.hid (Keeps.heap k1 HB.out (fun h => h))
    clear HB HHV na k1
    obtain ⟨x0, x1, x2, x3, x4, hXl⟩ := gr_cells HB1.out
    go_wp2_with fail
    have hLG := lentGraph_any w1 g0 (hg0.new hN1) hf
    simp only [Gr.v, Gr.cs] at hLG
    refine hLG.mono ?_
    intro e w2 hL
    obtain ⟨q, rfl, hq, k2⟩ := hL.lended
    clear hL hLG x0 x1 x2 x3 x4 hXl
    have HB2 := Lib.hid (Keeps.heap k2 HB1.out (fun h => h))
    have hN2 := hN1.trans k2
    clear HB1 hN1 k2
    simp only [Gr.v, Gr.cs]
    have hC1 := ccheck_any w2 q hq.at (hl0.bare hq.bare)
    rw [findG_same hq.bare] at hC1
    simp only [Gr.v, Gr.cs] at hC1
    go_wp2_with fail
    refine hC1.mono ?_
    rintro e w3 ⟨rfl, k3⟩
    have HB3 := Lib.hid (Keeps.heap k3 HB2.out (fun h => h))
    have hN3 := hN2.trans k3
    clear HB2 hN2 k3 hC1 hq
    obtain ⟨x0, x1, x2, x3, x4, hXl⟩ := gr_cells HB3.out
    have hN3' := Lib.hid hN3
    by_cases h0 : (findG g0).1 = 0
    case neg =>
      have hrd : ((findG g0).1 != 0) = true := by simpa using h0
      generalize (findG g0).1 = r at hrd ⊢
      go_wp2_with fail
      refine (awake_any w3).mono ?_
      rintro e w4 ⟨rfl, k4⟩
      go_wp2_with fail
      go_ret
      exact ⟨rfl, hN3.trans k4⟩
    rw [h0]
    have HFG := Lib.hid h0
    clear h0 hN3'
    go_wp2_with fail
    obtain ⟨aE, hE⟩ : ∃ a, g0.ea = a := ⟨_, rfl⟩
    obtain ⟨aI, hI⟩ : ∃ a, g0.ia = a := ⟨_, rfl⟩
    obtain ⟨aO, hO⟩ : ∃ a, g0.oa = a := ⟨_, rfl⟩
    have HAE := Lib.hid hE
    have HAI := Lib.hid hI
    have HAO := Lib.hid hO
    clear hE hI hO
    clear x0 x1 x2 x3 x4 hXl
    go_cut [3] (fun p w' => ∃ (P : Nat) (q : Gr), p = .pointer (some ⟨P, 0, none⟩) ∧ Hid (q.bare = g0.bare ∧ OrdAt w g0 ⟨g0.name, q.aa, q.ac, q.acts, none, 0, [], none, 0, [], none, 0, []⟩ P w'))
    case first =>
      obtain ⟨x0, x1, x2, x3, x4, hXl⟩ := gr_cells HB3.out
      have hdr : New w3 w3.drew := (New.refl w3).drew
      have HSn : ∀ V, New w3 V → (fun w' : World => w'.cell? ⟨w.heap.size, 0, none⟩ = some (.string g0.name) ∧ w'.cell? ⟨w.heap.size, 1, none⟩ = some (.slice g0.aa g0.acts.length g0.ac) ∧ w'.cell? ⟨w.heap.size, 2, none⟩ = some (.slice g0.ea g0.edges.length g0.ec) ∧ w'.cell? ⟨w.heap.size, 3, none⟩ = some (.slice g0.ia g0.ins.length g0.ic) ∧ w'.cell? ⟨w.heap.size, 4, none⟩ = some (.slice g0.oa g0.outs.length g0.oc) ∧ New w3 w') V := fun V kv => ⟨kv.cell x0, kv.cell x1, kv.cell x2, kv.cell x3, kv.cell x4, kv⟩
      have hS0 := HSn _ hdr
      clear x0 x1 x2 x3 x4 hXl
      refine wp_region_X (fun w' : World => w'.cell? ⟨w.heap.size, 0, none⟩ = some (.string g0.name) ∧ w'.cell? ⟨w.heap.size, 1, none⟩ = some (.slice g0.aa g0.acts.length g0.ac) ∧ w'.cell? ⟨w.heap.size, 2, none⟩ = some (.slice g0.ea g0.edges.length g0.ec) ∧ w'.cell? ⟨w.heap.size, 3, none⟩ = some (.slice g0.ia g0.ins.length g0.ic) ∧ w'.cell? ⟨w.heap.size, 4, none⟩ = some (.slice g0.oa g0.outs.length g0.oc) ∧ New w3 w') [7] (by kernel_rfl) hS0 ?_
      generalize w3.drew = wd at hdr hS0 ⊢
      refine anyX_take 0 (by kernel_rfl) (by kernel_rfl) (by kernel_rfl) (by kernel_rfl) (by kernel_rfl) hS0 ?_
      intro oi ho; simp only [List.getElem?_toArray, List.getElem?_cons_succ, List.getElem?_cons_zero, Option.some.injEq] at ho; subst ho
      refine ⟨?_, fun _ _ _ h => h, Or.inl ⟨by rfl, ?_⟩, ?_⟩; rotate_left 1
      · (intro wS hSw; (try dsimp only at hSw); go_simp; try with_reducible rfl)
      simp only [Act.put, List.setIfInBounds_toArray, List.set_cons_zero, List.set_cons_succ]
      refine anyX_take 1 (by kernel_rfl) (by kernel_rfl) (by kernel_rfl) (by kernel_rfl) (by kernel_rfl) hS0 ?_
      intro oi ho; simp only [List.getElem?_toArray, List.getElem?_cons_succ, List.getElem?_cons_zero, Option.some.injEq] at ho; subst ho
      refine ⟨?_, fun _ _ _ h => h, Or.inl ⟨by rfl, ?_⟩, ?_⟩; rotate_left 1
      · (intro wS hSw; (try dsimp only at hSw); go_simp; try with_reducible rfl)
      simp only [Act.put, List.setIfInBounds_toArray, List.set_cons_zero, List.set_cons_succ]
      refine anyX_take 2 (by kernel_rfl) (by kernel_rfl) (by kernel_rfl) (by kernel_rfl) (by kernel_rfl) hS0 ?_
      intro oi ho; simp only [List.getElem?_toArray, List.getElem?_cons_succ, List.getElem?_cons_zero, Option.some.injEq] at ho; subst ho
      refine ⟨?_, fun _ _ _ h => h, Or.inl ⟨by rfl, ?_⟩, ?_⟩; rotate_left 1
      · (intro wS hSw; (try dsimp only at hSw); go_simp; try with_reducible rfl)
      simp only [Act.put, List.setIfInBounds_toArray, List.set_cons_zero, List.set_cons_succ]
      refine anyX_two 3 6 (by kernel_rfl) ?_ ?_
      · intro oi ho; simp only [List.getElem?_toArray, List.getElem?_cons_succ, List.getElem?_cons_zero, Option.some.injEq] at ho; subst ho; intro K hK
        (try simp only [Act.put, List.setIfInBounds_toArray, List.set_cons_zero, List.set_cons_succ])
        go_simp
        have hLG := lentGraph_any wd g0 (hg0.new (hN3.trans hdr)) hf
        simp only [Gr.v, Gr.cs] at hLG
        refine hLG.mono ?_
        intro e w4 hL
        obtain ⟨q2, rfl, hq2, k4⟩ := hL.lended
        clear hL hLG
        simp only [Gr.v, Gr.cs]
        have hk4 := hdr.trans k4
        have hS1 := HSn _ hk4
        have hfd : ∀ W, (Instr.field 26 (.agg #[.string q2.name, .slice q2.aa q2.acts.length q2.ac, .slice q2.ea q2.edges.length q2.ec, .slice q2.ia q2.ins.length q2.ic, .slice q2.oa q2.outs.length q2.oc]) 1).run Try.prog W = .ok (.slice q2.aa q2.acts.length q2.ac) W := fun _ => by kernel_rfl
        refine hK _ _ (fun _ => hS1) ?_
        clear hK K
        refine anyX_take 4 (by kernel_rfl) (by kernel_rfl) (by kernel_rfl) (by kernel_rfl) (by kernel_rfl) hS1 ?_
        intro oi ho; simp only [List.getElem?_toArray, List.getElem?_cons_succ, List.getElem?_cons_zero, Option.some.injEq] at ho; subst ho
        refine ⟨?_, fun _ _ _ h => h, Or.inl ⟨by rfl, ?_⟩, ?_⟩; rotate_left 1
        · (intro wS hSw; (try dsimp only at hSw); go_simp; try with_reducible rfl)
        simp only [Act.put, List.setIfInBounds_toArray, List.set_cons_zero, List.set_cons_succ]
        refine anyX_take 5 (by kernel_rfl) (by kernel_rfl) (by kernel_rfl) (by kernel_rfl) (by kernel_rfl) hS1 ?_
        intro oi ho; simp only [List.getElem?_toArray, List.getElem?_cons_succ, List.getElem?_cons_zero, Option.some.injEq] at ho; subst ho
        refine ⟨?_, fun _ _ _ h => h, Or.inl ⟨by rfl, ?_⟩, ?_⟩; rotate_left 1
        · (intro wS hSw; (try dsimp only at hSw); go_simp; try with_reducible rfl)
        simp only [Act.put, List.setIfInBounds_toArray, List.set_cons_zero, List.set_cons_succ]
        refine anyX_one 6 (by kernel_rfl) ?_
        intro oi ho; simp only [List.getElem?_toArray, List.getElem?_cons_succ, List.getElem?_cons_zero, Option.some.injEq] at ho; subst ho; intro K hK
        (try simp only [Act.put, List.setIfInBounds_toArray, List.set_cons_zero, List.set_cons_succ])
        go_simp
        have ks : New w4 (w4.alloc (.cells #[.string ⟨#[]⟩, .slice none 0 0, .slice none 0 0, .slice none 0 0, .slice none 0 0] 26)) := (New.refl w4).alloc _
        have hp : (w4.alloc (.cells #[.string ⟨#[]⟩, .slice none 0 0, .slice none 0 0, .slice none 0 0, .slice none 0 0] 26)).heap[w4.heap.size]? = some (.cells #[.string ⟨#[]⟩, .slice none 0 0, .slice none 0 0, .slice none 0 0, .slice none 0 0] 26 (0, 0)) := heap_alloc_new w4 _
        have hP : w.heap.size < w4.heap.size := Nat.lt_of_lt_of_le (Array.getElem?_eq_some_iff.1 HB3.out).1 hk4.size
        have hq5 := hq2.new ks
        have hk5 := hk4.trans ks
        have hBB : w.heap.size ≤ wd.heap.size := Nat.le_trans hN3.size hdr.size
        refine hK _ _ (fun _ => HSn _ (hk4.trans ks)) ?_
        clear hK K
        generalize (w4.alloc (.cells #[.string ⟨#[]⟩, .slice none 0 0, .slice none 0 0, .slice none 0 0, .slice none 0 0] 26)) = w5 at ks hp hq5 hk5 ⊢
        generalize w4.heap.size = P at hp hP ⊢
        obtain ⟨z0, z1, z2, z3, z4, hZl⟩ := gr_cells hp
        have gz0 := unfrozen_of_block hp 0
        have gz1 := unfrozen_of_block hp 1
        have gz2 := unfrozen_of_block hp 2
        have gz3 := unfrozen_of_block hp 3
        have gz4 := unfrozen_of_block hp 4
        refine anyX_one 7 (by kernel_rfl) ?_
        intro oi ho; simp only [List.getElem?_toArray, List.getElem?_cons_succ, List.getElem?_cons_zero, Option.some.injEq] at ho; subst ho; intro K hK
        (try simp only [Act.put, List.setIfInBounds_toArray, List.set_cons_zero, List.set_cons_succ])
        go_simp
        refine hK _ _ (fun hx => by cases hx) ?_
        clear hK K
        refine anyX_done (by kernel_rfl) ?_
        (try simp only [Act.put, List.setIfInBounds_toArray, List.set_cons_zero, List.set_cons_succ])
        (try simp only [Exit.then])
        obtain ⟨hb9, k9⟩ := gr_stored hp (.string g0.name) (.slice q2.aa q2.acts.length q2.ac) (.slice none 0 0) (.slice none 0 0) (.slice none 0 0)
        generalize (((((w5.setCell ⟨P, 0, none⟩ (.string g0.name)).setCell ⟨P, 1, none⟩ (.slice q2.aa q2.acts.length q2.ac)).setCell ⟨P, 2, none⟩ (.slice none 0 0)).setCell ⟨P, 3, none⟩ (.slice none 0 0)).setCell ⟨P, 4, none⟩ (.slice none 0 0)) = W9 at hb9 k9 ⊢
        clear z0 z1 z2 z3 z4 hZl gz0 gz1 gz2 gz3 gz4
        go_wp2
        go_meet
        case rel => exact ⟨P, q2, rfl, Lib.hid ⟨hq5.bare, OrdAt.start hq5 hBB hp (Keeps.heap hk5 HB3.out (fun h => h)) (hN3.trans hk5) hP hb9 k9⟩⟩
      · intro oi ho; simp only [List.getElem?_toArray, List.getElem?_cons_succ, List.getElem?_cons_zero, Option.some.injEq] at ho; subst ho; intro K hK
        (try simp only [Act.put, List.setIfInBounds_toArray, List.set_cons_zero, List.set_cons_succ])
        go_simp
        have ks : New wd (wd.alloc (.cells #[.string ⟨#[]⟩, .slice none 0 0, .slice none 0 0, .slice none 0 0, .slice none 0 0] 26)) := (New.refl wd).alloc _
        have hp : (wd.alloc (.cells #[.string ⟨#[]⟩, .slice none 0 0, .slice none 0 0, .slice none 0 0, .slice none 0 0] 26)).heap[wd.heap.size]? = some (.cells #[.string ⟨#[]⟩, .slice none 0 0, .slice none 0 0, .slice none 0 0, .slice none 0 0] 26 (0, 0)) := heap_alloc_new wd _
        have hP : w.heap.size < wd.heap.size := Nat.lt_of_lt_of_le (Array.getElem?_eq_some_iff.1 HB3.out).1 hdr.size
        have hkA := hdr.trans ks
        refine hK _ _ (fun _ => HSn _ hkA) ?_
        clear hK K
        generalize (wd.alloc (.cells #[.string ⟨#[]⟩, .slice none 0 0, .slice none 0 0, .slice none 0 0, .slice none 0 0] 26)) = wA at ks hp hkA ⊢
        generalize wd.heap.size = P at hp hP ⊢
        refine anyX_one 3 (by kernel_rfl) ?_
        intro oi ho; simp only [List.getElem?_toArray, List.getElem?_cons_succ, List.getElem?_cons_zero, Option.some.injEq] at ho; subst ho; intro K hK
        (try simp only [Act.put, List.setIfInBounds_toArray, List.set_cons_zero, List.set_cons_succ])
        go_simp
        have hLG := lentGraph_any wA g0 (hg0.new (hN3.trans hkA)) hf
        simp only [Gr.v, Gr.cs] at hLG
        refine hLG.mono ?_
        intro e w5 hL
        obtain ⟨q2, rfl, hq2, k4⟩ := hL.lended
        clear hL hLG
        simp only [Gr.v, Gr.cs]
        have hk4 := hkA.trans k4
        have hS1 := HSn _ hk4
        have hfd : ∀ W, (Instr.field 26 (.agg #[.string q2.name, .slice q2.aa q2.acts.length q2.ac, .slice q2.ea q2.edges.length q2.ec, .slice q2.ia q2.ins.length q2.ic, .slice q2.oa q2.outs.length q2.oc]) 1).run Try.prog W = .ok (.slice q2.aa q2.acts.length q2.ac) W := fun _ => by kernel_rfl
        refine hK _ _ (fun _ => hS1) ?_
        clear hK K
        replace hp := Keeps.heap k4 hp (fun h => h)
        have hq5 := hq2
        have hk5 := hk4
        have hBB : w.heap.size ≤ wA.heap.size := Nat.le_trans hN3.size hkA.size
        refine anyX_take 4 (by kernel_rfl) (by kernel_rfl) (by kernel_rfl) (by kernel_rfl) (by kernel_rfl) hS1 ?_
        intro oi ho; simp only [List.getElem?_toArray, List.getElem?_cons_succ, List.getElem?_cons_zero, Option.some.injEq] at ho; subst ho
        refine ⟨?_, fun _ _ _ h => h, Or.inl ⟨by rfl, ?_⟩, ?_⟩; rotate_left 1
        · (intro wS hSw; (try dsimp only at hSw); go_simp; try with_reducible rfl)
        simp only [Act.put, List.setIfInBounds_toArray, List.set_cons_zero, List.set_cons_succ]
        refine anyX_take 5 (by kernel_rfl) (by kernel_rfl) (by kernel_rfl) (by kernel_rfl) (by kernel_rfl) hS1 ?_
        intro oi ho; simp only [List.getElem?_toArray, List.getElem?_cons_succ, List.getElem?_cons_zero, Option.some.injEq] at ho; subst ho
        refine ⟨?_, fun _ _ _ h => h, Or.inl ⟨by rfl, ?_⟩, ?_⟩; rotate_left 1
        · (intro wS hSw; (try dsimp only at hSw); go_simp; try with_reducible rfl)
        simp only [Act.put, List.setIfInBounds_toArray, List.set_cons_zero, List.set_cons_succ]
        obtain ⟨z0, z1, z2, z3, z4, hZl⟩ := gr_cells hp
        have gz0 := unfrozen_of_block hp 0
        have gz1 := unfrozen_of_block hp 1
        have gz2 := unfrozen_of_block hp 2
        have gz3 := unfrozen_of_block hp 3
        have gz4 := unfrozen_of_block hp 4
        refine anyX_one 7 (by kernel_rfl) ?_
        intro oi ho; simp only [List.getElem?_toArray, List.getElem?_cons_succ, List.getElem?_cons_zero, Option.some.injEq] at ho; subst ho; intro K hK
        (try simp only [Act.put, List.setIfInBounds_toArray, List.set_cons_zero, List.set_cons_succ])
        go_simp
        refine hK _ _ (fun hx => by cases hx) ?_
        clear hK K
        refine anyX_done (by kernel_rfl) ?_
        (try simp only [Act.put, List.setIfInBounds_toArray, List.set_cons_zero, List.set_cons_succ])
        (try simp only [Exit.then])
        obtain ⟨hb9, k9⟩ := gr_stored hp (.string g0.name) (.slice q2.aa q2.acts.length q2.ac) (.slice none 0 0) (.slice none 0 0) (.slice none 0 0)
        generalize (((((w5.setCell ⟨P, 0, none⟩ (.string g0.name)).setCell ⟨P, 1, none⟩ (.slice q2.aa q2.acts.length q2.ac)).setCell ⟨P, 2, none⟩ (.slice none 0 0)).setCell ⟨P, 3, none⟩ (.slice none 0 0)).setCell ⟨P, 4, none⟩ (.slice none 0 0)) = W9 at hb9 k9 ⊢
        clear z0 z1 z2 z3 z4 hZl gz0 gz1 gz2 gz3 gz4
        go_wp2
        go_meet
        case rel => exact ⟨P, q2, rfl, Lib.hid ⟨hq5.bare, OrdAt.start hq5 hBB hp (Keeps.heap hk5 HB3.out (fun h => h)) (hN3.trans hk5) hP hb9 k9⟩⟩
    case rest =>
      obtain ⟨P, q9, rfl, HO⟩ := hcut
      have hfn := hf.n
      obtain ⟨it2, hit2, he0, he1, he2⟩ := info_parts infoEdge
      obtain ⟨it3, hit3, hp0, hp1, hp2⟩ := info_parts infoPort
      have HBQ := Lib.hid HO.out.1
      have HD := Lib.hid HO.out.2
      clear HO HB3 hN3
      obtain ⟨y0, y1, y2, y3, y4, hYl⟩ := gr_cells HD.out.hg
      go_wp2_with fail
      clear y0 y1 y2 y3 y4 hYl
      go_loopw [4] (fun i wr => ∃ (k : Nat) (a : Option Addr) (c : Nat), k ≤ g0.edges.length ∧ i = .int .i64 ((k : Int) - 1) ∧ Hid (OrdAt w g0 ⟨g0.name, q9.aa, q9.ac, q9.acts, a, c, (g0.edges.drop k).reverse, none, 0, [], none, 0, []⟩ P wr)) (fun i _ => (intOf i + 1).toNat)
      case atStart => exact ⟨g0.edges.length, none, 0, by omega, rfl, Lib.hid (by rw [List.drop_length, List.reverse_nil]; exact HD.out)⟩
      case round =>
        clear HD
        obtain ⟨k, a, c, hk, rfl, HD⟩ := hrel
        rcases Nat.eq_zero_or_pos k with hk0 | hk0
        case inr =>
          obtain ⟨j, rfl⟩ : ∃ j, k = j + 1 := ⟨k - 1, by omega⟩
          have e1 : (((j + 1 : Nat) : Int) - 1) = (j : Int) := by omega
          rw [e1]
          clear e1 hk0
          have hj : j < g0.edges.length := by omega
          obtain ⟨b, off, hab, q0, q1, q2, q3, q4⟩ := gedges_at (hg0.new HD.out.nw).se hj
          have hbw : b < wr.heap.size := World.block_lt_of_cell? wr _ q0
          have e2 : aE = some ⟨b, off, none⟩ := HAE.out.symm.trans hab
          have HEL : Hid ((g0.edges.drop (j + 1)).reverse ++ [g0.edges[j]] = (g0.edges.drop j).reverse) := Lib.hid (by rw [List.drop_eq_getElem_cons hj, List.reverse_cons])
          have hel : (g0.edges.drop (j + 1)).reverse.length ≤ 1048576 := by simp; omega
          generalize (g0.edges.drop (j + 1)).reverse = el at HD HEL hel
          generalize g0.edges[j] = x at q0 q1 q2 q3 q4 HEL
          obtain ⟨y0, y1, y2, y3, y4, hYl⟩ := gr_cells HD.out.hg
          obtain ⟨p0, p1, p2, p3, p4, hPl⟩ := gr_cells HD.out.bl
          rw [hab] at y2
          clear hab e2
          have hjI : (j : Int) < (g0.edges.length : Int) := by omega
          have hj0 : (0 : Int) ≤ (j : Int) := by omega
          have hjd : decide ((0 : Int) ≤ (j : Int)) = true := decide_eq_true hj0
          go_wp2_with fail
          have hdr : New wr wr.drew := (New.refl wr).drew
          have HSn : ∀ V, New wr V → (fun w' : World => w'.cell? ⟨P, 2, none⟩ = some (.slice a el.length c) ∧ w'.cell? ⟨w.heap.size, 2, none⟩ = some (.slice (some ⟨b, off, none⟩) g0.edges.length g0.ec) ∧ w'.cell? ⟨b, off + j * 5, none⟩ = some (I x.f) ∧ w'.cell? ⟨b, off + j * 5 + 1, none⟩ = some (I x.fp) ∧ w'.cell? ⟨b, off + j * 5 + 2, none⟩ = some (I x.t) ∧ w'.cell? ⟨b, off + j * 5 + 3, none⟩ = some (I x.tp) ∧ w'.cell? ⟨b, off + j * 5 + 4, none⟩ = some (.slice x.a x.xs.length x.c) ∧ P < w'.heap.size) V := fun V kv => ⟨kv.cell p2, kv.cell y2, kv.cell q0, kv.cell q1, kv.cell q2, kv.cell q3, kv.cell q4, Nat.lt_of_lt_of_le hPl kv.size⟩
          have hS0 := HSn _ hdr
          clear y0 y1 y2 y3 y4 hYl p0 p1 p2 p3 p4 hPl q0 q1 q2 q3 q4 hbw
          refine wp_region_X (fun w' : World => w'.cell? ⟨P, 2, none⟩ = some (.slice a el.length c) ∧ w'.cell? ⟨w.heap.size, 2, none⟩ = some (.slice (some ⟨b, off, none⟩) g0.edges.length g0.ec) ∧ w'.cell? ⟨b, off + j * 5, none⟩ = some (I x.f) ∧ w'.cell? ⟨b, off + j * 5 + 1, none⟩ = some (I x.fp) ∧ w'.cell? ⟨b, off + j * 5 + 2, none⟩ = some (I x.t) ∧ w'.cell? ⟨b, off + j * 5 + 3, none⟩ = some (I x.tp) ∧ w'.cell? ⟨b, off + j * 5 + 4, none⟩ = some (.slice x.a x.xs.length x.c) ∧ P < w'.heap.size) [8, 9, 10] (by kernel_rfl) hS0 ?_
          generalize wr.drew = wd at hdr hS0 ⊢
          refine anyX_take 0 (by kernel_rfl) (by kernel_rfl) (by kernel_rfl) (by kernel_rfl) (by kernel_rfl) hS0 ?_
          intro oi ho; simp only [List.getElem?_toArray, List.getElem?_cons_succ, List.getElem?_cons_zero, Option.some.injEq] at ho; subst ho
          refine ⟨?_, fun _ _ _ h => h, Or.inl ⟨by rfl, ?_⟩, ?_⟩; rotate_left 1
          · (intro wS hSw; (try dsimp only at hSw); go_simp; try with_reducible rfl)
          simp only [Act.put, List.setIfInBounds_toArray, List.set_cons_zero, List.set_cons_succ]
          refine anyX_take 1 (by kernel_rfl) (by kernel_rfl) (by kernel_rfl) (by kernel_rfl) (by kernel_rfl) hS0 ?_
          intro oi ho; simp only [List.getElem?_toArray, List.getElem?_cons_succ, List.getElem?_cons_zero, Option.some.injEq] at ho; subst ho
          refine ⟨?_, fun _ _ _ h => h, Or.inl ⟨by rfl, ?_⟩, ?_⟩; rotate_left 1
          · (intro wS hSw; (try dsimp only at hSw); go_simp; try with_reducible rfl)
          simp only [Act.put, List.setIfInBounds_toArray, List.set_cons_zero, List.set_cons_succ]
          refine anyX_take 2 (by kernel_rfl) (by kernel_rfl) (by kernel_rfl) (by kernel_rfl) (by kernel_rfl) hS0 ?_
          intro oi ho; simp only [List.getElem?_toArray, List.getElem?_cons_succ, List.getElem?_cons_zero, Option.some.injEq] at ho; subst ho
          refine ⟨?_, fun _ _ _ h => h, Or.inl ⟨by rfl, ?_⟩, ?_⟩; rotate_left 1
          · (intro wS hSw; (try dsimp only at hSw); go_simp; try with_reducible rfl)
          simp only [Act.put, List.setIfInBounds_toArray, List.set_cons_zero, List.set_cons_succ]
          refine anyX_take 3 (by kernel_rfl) (by kernel_rfl) (by kernel_rfl) (by kernel_rfl) (by kernel_rfl) hS0 ?_
          intro oi ho; simp only [List.getElem?_toArray, List.getElem?_cons_succ, List.getElem?_cons_zero, Option.some.injEq] at ho; subst ho
          refine ⟨?_, fun _ _ _ h => h, Or.inl ⟨by rfl, ?_⟩, ?_⟩; rotate_left 1
          · (intro wS hSw; (try dsimp only at hSw); go_simp; try with_reducible rfl)
          simp only [Act.put, List.setIfInBounds_toArray, List.set_cons_zero, List.set_cons_succ]
          refine anyX_take 4 (by kernel_rfl) (by kernel_rfl) (by kernel_rfl) (by kernel_rfl) (by kernel_rfl) hS0 ?_
          intro oi ho; simp only [List.getElem?_toArray, List.getElem?_cons_succ, List.getElem?_cons_zero, Option.some.injEq] at ho; subst ho
          refine ⟨?_, fun _ _ _ h => h, Or.inl ⟨by rfl, ?_⟩, ?_⟩; rotate_left 1
          · (intro wS hSw; (try dsimp only at hSw); go_simp; try with_reducible rfl)
          simp only [Act.put, List.setIfInBounds_toArray, List.set_cons_zero, List.set_cons_succ]
          refine anyX_take 5 (by kernel_rfl) (by kernel_rfl) (by kernel_rfl) (by kernel_rfl) (by kernel_rfl) hS0 ?_
          intro oi ho; simp only [List.getElem?_toArray, List.getElem?_cons_succ, List.getElem?_cons_zero, Option.some.injEq] at ho; subst ho
          refine ⟨?_, fun _ _ _ h => h, Or.inl ⟨by rfl, ?_⟩, ?_⟩; rotate_left 1
          · (intro wS hSw; (try dsimp only at hSw); go_simp; try with_reducible rfl)
          simp only [Act.put, List.setIfInBounds_toArray, List.set_cons_zero, List.set_cons_succ]
          refine anyX_take 6 (by kernel_rfl) (by kernel_rfl) (by kernel_rfl) (by kernel_rfl) (by kernel_rfl) hS0 ?_
          intro oi ho; simp only [List.getElem?_toArray, List.getElem?_cons_succ, List.getElem?_cons_zero, Option.some.injEq] at ho; subst ho
          refine ⟨?_, fun _ _ _ h => h, Or.inl ⟨by rfl, ?_⟩, ?_⟩; rotate_left 1
          · (intro wS hSw; (try dsimp only at hSw); go_simp; try with_reducible rfl)
          simp only [Act.put, List.setIfInBounds_toArray, List.set_cons_zero, List.set_cons_succ]
          refine anyX_one 7 (by kernel_rfl) ?_
          intro oi ho; simp only [List.getElem?_toArray, List.getElem?_cons_succ, List.getElem?_cons_zero, Option.some.injEq] at ho; subst ho; intro K hK
          (try simp only [Act.put, List.setIfInBounds_toArray, List.set_cons_zero, List.set_cons_succ])
          go_simp
          have kl : New wd (wd.alloc (.cells #[I x.f, I x.fp, I x.t, I x.tp, .slice x.a x.xs.length x.c] 58)) := (New.refl wd).alloc _
          have hlit : SlAt (wd.alloc (.cells #[I x.f, I x.fp, I x.t, I x.tp, .slice x.a x.xs.length x.c] 58)) (some ⟨wd.heap.size, 0, none⟩) (edgeCells x) := SlAt.lit wd _ _
          have kz := hdr.trans kl
          refine hK _ _ (fun _ => HSn _ kz) ?_
          clear hK K
          generalize (wd.alloc (.cells #[I x.f, I x.fp, I x.t, I x.tp, .slice x.a x.xs.length x.c] 58)) = VZ at kl hlit kz ⊢
          generalize wd.heap.size = Z at hlit ⊢
          refine anyX_one 8 (by kernel_rfl) ?_
          intro oi ho; simp only [List.getElem?_toArray, List.getElem?_cons_succ, List.getElem?_cons_zero, Option.some.injEq] at ho; subst ho; intro K hK
          refine step_app rfl _ _ 23 rfl w.heap.size 58 it2 _ 5 56 Try.underlying23 hit2 he0 he1 he2 rfl (by decide) a el.length c (el.flatMap edgeCells) rfl (HD.out.new kz).eo (some ⟨Z, 0, none⟩) 1 1 (edgeCells x) rfl rfl hlit (one_edge _) (by unfold maxLen; omega) (by omega) (Nat.le_trans HD.out.nw.size kz.size) ?_
          intro a' c' wq hown' hk' hmv
          obtain ⟨⟨hv0, hfz, hPl2⟩, hDn⟩ := HD.out.addE x kz hown' hk' hmv
          have HDn := Lib.hid hDn
          refine hK _ _ (fun hx => by cases hx) ?_
          clear hK K hDn hown' hk' hmv
          refine anyX_one 9 (by kernel_rfl) ?_
          intro oi ho; simp only [List.getElem?_toArray, List.getElem?_cons_succ, List.getElem?_cons_zero, Option.some.injEq] at ho; subst ho; intro K hK
          (try simp only [Act.put, List.setIfInBounds_toArray, List.set_cons_zero, List.set_cons_succ])
          go_simp
          refine hK _ _ (fun hx => by cases hx) ?_
          clear hK K
          refine anyX_one 10 (by kernel_rfl) ?_
          intro oi ho; simp only [List.getElem?_toArray, List.getElem?_cons_succ, List.getElem?_cons_zero, Option.some.injEq] at ho; subst ho; intro K hK
          (try simp only [Act.put, List.setIfInBounds_toArray, List.set_cons_zero, List.set_cons_succ])
          go_simp
          refine hK _ _ (fun hx => by cases hx) ?_
          clear hK K
          refine anyX_done (by kernel_rfl) ?_
          (try simp only [Act.put, List.setIfInBounds_toArray, List.set_cons_zero, List.set_cons_succ])
          clear hS0 HSn
          (try simp only [Exit.then])
          go_wp2_with fail
          go_roundw
          case rel => exact ⟨j, a', c', by omega, rfl, Lib.hid (by have h := HDn.out; simp only [HEL.out] at h; exact h)⟩
          case measure => (simp [intOf] <;> omega)
        subst hk0
        rw [List.drop_zero] at HD
        have e1 : (((0 : Nat) : Int) - 1) = -1 := by decide
        rw [e1]
        clear e1 hk
        obtain ⟨a0, rfl⟩ : ∃ z, z = a := ⟨_, rfl⟩
        obtain ⟨c0, rfl⟩ : ∃ z, z = c := ⟨_, rfl⟩
        obtain ⟨y0, y1, y2, y3, y4, hYl⟩ := gr_cells HD.out.hg
        go_wp2_with fail
        clear y0 y1 y2 y3 y4 hYl
        go_loopw [5] (fun i wr => ∃ (k : Nat) (a : Option Addr) (c : Nat), k ≤ g0.ins.length ∧ i = .int .i64 ((k : Int) - 1) ∧ Hid (OrdAt w g0 ⟨g0.name, q9.aa, q9.ac, q9.acts, a0, c0, g0.edges.reverse, a, c, (g0.ins.drop k).reverse, none, 0, []⟩ P wr)) (fun i _ => (intOf i + 1).toNat)
        case atStart => exact ⟨g0.ins.length, none, 0, by omega, rfl, Lib.hid (by rw [List.drop_length, List.reverse_nil]; exact HD.out)⟩
        case round =>
          clear HD
          obtain ⟨k, a, c, hk, rfl, HD⟩ := hrel
          rcases Nat.eq_zero_or_pos k with hk0 | hk0
          case inr =>
            obtain ⟨j, rfl⟩ : ∃ j, k = j + 1 := ⟨k - 1, by omega⟩
            have e1 : (((j + 1 : Nat) : Int) - 1) = (j : Int) := by omega
            rw [e1]
            clear e1 hk0
            have hj : j < g0.ins.length := by omega
            obtain ⟨b, off, hab, q0, q1, q2⟩ := ports_at (hg0.new HD.out.nw).si hj
            have hbw : b < wr.heap.size := World.block_lt_of_cell? wr _ q0
            have e2 : aI = some ⟨b, off, none⟩ := HAI.out.symm.trans hab
            have HEL : Hid ((g0.ins.drop (j + 1)).reverse ++ [g0.ins[j]] = (g0.ins.drop j).reverse) := Lib.hid (by rw [List.drop_eq_getElem_cons hj, List.reverse_cons])
            have hel : (g0.ins.drop (j + 1)).reverse.length ≤ 1048576 := by simp; omega
            generalize (g0.ins.drop (j + 1)).reverse = el at HD HEL hel
            generalize g0.ins[j] = x at q0 q1 q2 HEL
            obtain ⟨y0, y1, y2, y3, y4, hYl⟩ := gr_cells HD.out.hg
            obtain ⟨p0, p1, p2, p3, p4, hPl⟩ := gr_cells HD.out.bl
            rw [hab] at y3
            clear hab e2
            have hjI : (j : Int) < (g0.ins.length : Int) := by omega
            have hj0 : (0 : Int) ≤ (j : Int) := by omega
            have hjd : decide ((0 : Int) ≤ (j : Int)) = true := decide_eq_true hj0
            go_wp2_with fail
            have hdr : New wr wr.drew := (New.refl wr).drew
            have HSn : ∀ V, New wr V → (fun w' : World => w'.cell? ⟨P, 3, none⟩ = some (.slice a el.length c) ∧ w'.cell? ⟨w.heap.size, 3, none⟩ = some (.slice (some ⟨b, off, none⟩) g0.ins.length g0.ic) ∧ w'.cell? ⟨b, off + j * 3, none⟩ = some (.string x.name) ∧ w'.cell? ⟨b, off + j * 3 + 1, none⟩ = some (I x.ac) ∧ w'.cell? ⟨b, off + j * 3 + 2, none⟩ = some (I x.po) ∧ P < w'.heap.size) V := fun V kv => ⟨kv.cell p3, kv.cell y3, kv.cell q0, kv.cell q1, kv.cell q2, Nat.lt_of_lt_of_le hPl kv.size⟩
            have hS0 := HSn _ hdr
            clear y0 y1 y2 y3 y4 hYl p0 p1 p2 p3 p4 hPl q0 q1 q2 hbw
            refine wp_region_X (fun w' : World => w'.cell? ⟨P, 3, none⟩ = some (.slice a el.length c) ∧ w'.cell? ⟨w.heap.size, 3, none⟩ = some (.slice (some ⟨b, off, none⟩) g0.ins.length g0.ic) ∧ w'.cell? ⟨b, off + j * 3, none⟩ = some (.string x.name) ∧ w'.cell? ⟨b, off + j * 3 + 1, none⟩ = some (I x.ac) ∧ w'.cell? ⟨b, off + j * 3 + 2, none⟩ = some (I x.po) ∧ P < w'.heap.size) [8, 9, 10] (by kernel_rfl) hS0 ?_
            generalize wr.drew = wd at hdr hS0 ⊢
            refine anyX_take 0 (by kernel_rfl) (by kernel_rfl) (by kernel_rfl) (by kernel_rfl) (by kernel_rfl) hS0 ?_
            intro oi ho; simp only [List.getElem?_toArray, List.getElem?_cons_succ, List.getElem?_cons_zero, Option.some.injEq] at ho; subst ho
            refine ⟨?_, fun _ _ _ h => h, Or.inl ⟨by rfl, ?_⟩, ?_⟩; rotate_left 1
            · (intro wS hSw; (try dsimp only at hSw); go_simp; try with_reducible rfl)
            simp only [Act.put, List.setIfInBounds_toArray, List.set_cons_zero, List.set_cons_succ]
            refine anyX_take 1 (by kernel_rfl) (by kernel_rfl) (by kernel_rfl) (by kernel_rfl) (by kernel_rfl) hS0 ?_
            intro oi ho; simp only [List.getElem?_toArray, List.getElem?_cons_succ, List.getElem?_cons_zero, Option.some.injEq] at ho; subst ho
            refine ⟨?_, fun _ _ _ h => h, Or.inl ⟨by rfl, ?_⟩, ?_⟩; rotate_left 1
            · (intro wS hSw; (try dsimp only at hSw); go_simp; try with_reducible rfl)
            simp only [Act.put, List.setIfInBounds_toArray, List.set_cons_zero, List.set_cons_succ]
            refine anyX_take 2 (by kernel_rfl) (by kernel_rfl) (by kernel_rfl) (by kernel_rfl) (by kernel_rfl) hS0 ?_
            intro oi ho; simp only [List.getElem?_toArray, List.getElem?_cons_succ, List.getElem?_cons_zero, Option.some.injEq] at ho; subst ho
            refine ⟨?_, fun _ _ _ h => h, Or.inl ⟨by rfl, ?_⟩, ?_⟩; rotate_left 1
            · (intro wS hSw; (try dsimp only at hSw); go_simp; try with_reducible rfl)
            simp only [Act.put, List.setIfInBounds_toArray, List.set_cons_zero, List.set_cons_succ]
            refine anyX_take 3 (by kernel_rfl) (by kernel_rfl) (by kernel_rfl) (by kernel_rfl) (by kernel_rfl) hS0 ?_
            intro oi ho; simp only [List.getElem?_toArray, List.getElem?_cons_succ, List.getElem?_cons_zero, Option.some.injEq] at ho; subst ho
            refine ⟨?_, fun _ _ _ h => h, Or.inl ⟨by rfl, ?_⟩, ?_⟩; rotate_left 1
            · (intro wS hSw; (try dsimp only at hSw); go_simp; try with_reducible rfl)
            simp only [Act.put, List.setIfInBounds_toArray, List.set_cons_zero, List.set_cons_succ]
            refine anyX_take 4 (by kernel_rfl) (by kernel_rfl) (by kernel_rfl) (by kernel_rfl) (by kernel_rfl) hS0 ?_
            intro oi ho; simp only [List.getElem?_toArray, List.getElem?_cons_succ, List.getElem?_cons_zero, Option.some.injEq] at ho; subst ho
            refine ⟨?_, fun _ _ _ h => h, Or.inl ⟨by rfl, ?_⟩, ?_⟩; rotate_left 1
            · (intro wS hSw; (try dsimp only at hSw); go_simp; try with_reducible rfl)
            simp only [Act.put, List.setIfInBounds_toArray, List.set_cons_zero, List.set_cons_succ]
            refine anyX_take 5 (by kernel_rfl) (by kernel_rfl) (by kernel_rfl) (by kernel_rfl) (by kernel_rfl) hS0 ?_
            intro oi ho; simp only [List.getElem?_toArray, List.getElem?_cons_succ, List.getElem?_cons_zero, Option.some.injEq] at ho; subst ho
            refine ⟨?_, fun _ _ _ h => h, Or.inl ⟨by rfl, ?_⟩, ?_⟩; rotate_left 1
            · (intro wS hSw; (try dsimp only at hSw); go_simp; try with_reducible rfl)
            simp only [Act.put, List.setIfInBounds_toArray, List.set_cons_zero, List.set_cons_succ]
            refine anyX_take 6 (by kernel_rfl) (by kernel_rfl) (by kernel_rfl) (by kernel_rfl) (by kernel_rfl) hS0 ?_
            intro oi ho; simp only [List.getElem?_toArray, List.getElem?_cons_succ, List.getElem?_cons_zero, Option.some.injEq] at ho; subst ho
            refine ⟨?_, fun _ _ _ h => h, Or.inl ⟨by rfl, ?_⟩, ?_⟩; rotate_left 1
            · (intro wS hSw; (try dsimp only at hSw); go_simp; try with_reducible rfl)
            simp only [Act.put, List.setIfInBounds_toArray, List.set_cons_zero, List.set_cons_succ]
            refine anyX_one 7 (by kernel_rfl) ?_
            intro oi ho; simp only [List.getElem?_toArray, List.getElem?_cons_succ, List.getElem?_cons_zero, Option.some.injEq] at ho; subst ho; intro K hK
            (try simp only [Act.put, List.setIfInBounds_toArray, List.set_cons_zero, List.set_cons_succ])
            go_simp
            have kl : New wd (wd.alloc (.cells #[.string x.name, I x.ac, I x.po] 60)) := (New.refl wd).alloc _
            have hlit : SlAt (wd.alloc (.cells #[.string x.name, I x.ac, I x.po] 60)) (some ⟨wd.heap.size, 0, none⟩) (portCells x) := SlAt.lit wd _ _
            have kz := hdr.trans kl
            refine hK _ _ (fun _ => HSn _ kz) ?_
            clear hK K
            generalize (wd.alloc (.cells #[.string x.name, I x.ac, I x.po] 60)) = VZ at kl hlit kz ⊢
            generalize wd.heap.size = Z at hlit ⊢
            refine anyX_one 8 (by kernel_rfl) ?_
            intro oi ho; simp only [List.getElem?_toArray, List.getElem?_cons_succ, List.getElem?_cons_zero, Option.some.injEq] at ho; subst ho; intro K hK
            refine step_app rfl _ _ 24 rfl w.heap.size 60 it3 _ 3 32 Try.underlying24 hit3 hp0 hp1 hp2 rfl (by decide) a el.length c (el.flatMap portCells) rfl (HD.out.new kz).io (some ⟨Z, 0, none⟩) 1 1 (portCells x) rfl rfl hlit (one_port _) (by unfold maxLen; omega) (by omega) (Nat.le_trans HD.out.nw.size kz.size) ?_
            intro a' c' wq hown' hk' hmv
            obtain ⟨⟨hv0, hfz, hPl2⟩, hDn⟩ := HD.out.addI x kz hown' hk' hmv
            have HDn := Lib.hid hDn
            refine hK _ _ (fun hx => by cases hx) ?_
            clear hK K hDn hown' hk' hmv
            refine anyX_one 9 (by kernel_rfl) ?_
            intro oi ho; simp only [List.getElem?_toArray, List.getElem?_cons_succ, List.getElem?_cons_zero, Option.some.injEq] at ho; subst ho; intro K hK
            (try simp only [Act.put, List.setIfInBounds_toArray, List.set_cons_zero, List.set_cons_succ])
            go_simp
            refine hK _ _ (fun hx => by cases hx) ?_
            clear hK K
            refine anyX_one 10 (by kernel_rfl) ?_
            intro oi ho; simp only [List.getElem?_toArray, List.getElem?_cons_succ, List.getElem?_cons_zero, Option.some.injEq] at ho; subst ho; intro K hK
            (try simp only [Act.put, List.setIfInBounds_toArray, List.set_cons_zero, List.set_cons_succ])
            go_simp
            refine hK _ _ (fun hx => by cases hx) ?_
            clear hK K
            refine anyX_done (by kernel_rfl) ?_
            (try simp only [Act.put, List.setIfInBounds_toArray, List.set_cons_zero, List.set_cons_succ])
            clear hS0 HSn
            (try simp only [Exit.then])
            go_wp2_with fail
            go_roundw
            case rel => exact ⟨j, a', c', by omega, rfl, Lib.hid (by have h := HDn.out; simp only [HEL.out] at h; exact h)⟩
            case measure => (simp [intOf] <;> omega)
          subst hk0
          rw [List.drop_zero] at HD
          have e1 : (((0 : Nat) : Int) - 1) = -1 := by decide
          rw [e1]
          clear e1 hk
          obtain ⟨a1, rfl⟩ : ∃ z, z = a := ⟨_, rfl⟩
          obtain ⟨c1, rfl⟩ : ∃ z, z = c := ⟨_, rfl⟩
          obtain ⟨y0, y1, y2, y3, y4, hYl⟩ := gr_cells HD.out.hg
          go_wp2_with fail
          clear y0 y1 y2 y3 y4 hYl
          go_loopw [6] (fun i wr => ∃ (k : Nat) (a : Option Addr) (c : Nat), k ≤ g0.outs.length ∧ i = .int .i64 ((k : Int) - 1) ∧ Hid (OrdAt w g0 ⟨g0.name, q9.aa, q9.ac, q9.acts, a0, c0, g0.edges.reverse, a1, c1, g0.ins.reverse, a, c, (g0.outs.drop k).reverse⟩ P wr)) (fun i _ => (intOf i + 1).toNat)
          case atStart => exact ⟨g0.outs.length, none, 0, by omega, rfl, Lib.hid (by rw [List.drop_length, List.reverse_nil]; exact HD.out)⟩
          case round =>
            clear HD
            obtain ⟨k, a, c, hk, rfl, HD⟩ := hrel
            rcases Nat.eq_zero_or_pos k with hk0 | hk0
            case inr =>
              obtain ⟨j, rfl⟩ : ∃ j, k = j + 1 := ⟨k - 1, by omega⟩
              have e1 : (((j + 1 : Nat) : Int) - 1) = (j : Int) := by omega
              rw [e1]
              clear e1 hk0
              have hj : j < g0.outs.length := by omega
              obtain ⟨b, off, hab, q0, q1, q2⟩ := ports_at (hg0.new HD.out.nw).so hj
              have hbw : b < wr.heap.size := World.block_lt_of_cell? wr _ q0
              have e2 : aO = some ⟨b, off, none⟩ := HAO.out.symm.trans hab
              have HEL : Hid ((g0.outs.drop (j + 1)).reverse ++ [g0.outs[j]] = (g0.outs.drop j).reverse) := Lib.hid (by rw [List.drop_eq_getElem_cons hj, List.reverse_cons])
              have hel : (g0.outs.drop (j + 1)).reverse.length ≤ 1048576 := by simp; omega
              generalize (g0.outs.drop (j + 1)).reverse = el at HD HEL hel
              generalize g0.outs[j] = x at q0 q1 q2 HEL
              obtain ⟨y0, y1, y2, y3, y4, hYl⟩ := gr_cells HD.out.hg
              obtain ⟨p0, p1, p2, p3, p4, hPl⟩ := gr_cells HD.out.bl
              rw [hab] at y4
              clear hab e2
              have hjI : (j : Int) < (g0.outs.length : Int) := by omega
              have hj0 : (0 : Int) ≤ (j : Int) := by omega
              have hjd : decide ((0 : Int) ≤ (j : Int)) = true := decide_eq_true hj0
              go_wp2_with fail
              have hdr : New wr wr.drew := (New.refl wr).drew
              have HSn : ∀ V, New wr V → (fun w' : World => w'.cell? ⟨P, 4, none⟩ = some (.slice a el.length c) ∧ w'.cell? ⟨w.heap.size, 4, none⟩ = some (.slice (some ⟨b, off, none⟩) g0.outs.length g0.oc) ∧ w'.cell? ⟨b, off + j * 3, none⟩ = some (.string x.name) ∧ w'.cell? ⟨b, off + j * 3 + 1, none⟩ = some (I x.ac) ∧ w'.cell? ⟨b, off + j * 3 + 2, none⟩ = some (I x.po) ∧ P < w'.heap.size) V := fun V kv => ⟨kv.cell p4, kv.cell y4, kv.cell q0, kv.cell q1, kv.cell q2, Nat.lt_of_lt_of_le hPl kv.size⟩
              have hS0 := HSn _ hdr
              clear y0 y1 y2 y3 y4 hYl p0 p1 p2 p3 p4 hPl q0 q1 q2 hbw
              refine wp_region_X (fun w' : World => w'.cell? ⟨P, 4, none⟩ = some (.slice a el.length c) ∧ w'.cell? ⟨w.heap.size, 4, none⟩ = some (.slice (some ⟨b, off, none⟩) g0.outs.length g0.oc) ∧ w'.cell? ⟨b, off + j * 3, none⟩ = some (.string x.name) ∧ w'.cell? ⟨b, off + j * 3 + 1, none⟩ = some (I x.ac) ∧ w'.cell? ⟨b, off + j * 3 + 2, none⟩ = some (I x.po) ∧ P < w'.heap.size) [8, 9, 10] (by kernel_rfl) hS0 ?_
              generalize wr.drew = wd at hdr hS0 ⊢
              refine anyX_take 0 (by kernel_rfl) (by kernel_rfl) (by kernel_rfl) (by kernel_rfl) (by kernel_rfl) hS0 ?_
              intro oi ho; simp only [List.getElem?_toArray, List.getElem?_cons_succ, List.getElem?_cons_zero, Option.some.injEq] at ho; subst ho
              refine ⟨?_, fun _ _ _ h => h, Or.inl ⟨by rfl, ?_⟩, ?_⟩; rotate_left 1
              · (intro wS hSw; (try dsimp only at hSw); go_simp; try with_reducible rfl)
              simp only [Act.put, List.setIfInBounds_toArray, List.set_cons_zero, List.set_cons_succ]
              refine anyX_take 1 (by kernel_rfl) (by kernel_rfl) (by kernel_rfl) (by kernel_rfl) (by kernel_rfl) hS0 ?_
              intro oi ho; simp only [List.getElem?_toArray, List.getElem?_cons_succ, List.getElem?_cons_zero, Option.some.injEq] at ho; subst ho
              refine ⟨?_, fun _ _ _ h => h, Or.inl ⟨by rfl, ?_⟩, ?_⟩; rotate_left 1
              · (intro wS hSw; (try dsimp only at hSw); go_simp; try with_reducible rfl)
              simp only [Act.put, List.setIfInBounds_toArray, List.set_cons_zero, List.set_cons_succ]
              refine anyX_take 2 (by kernel_rfl) (by kernel_rfl) (by kernel_rfl) (by kernel_rfl) (by kernel_rfl) hS0 ?_
              intro oi ho; simp only [List.getElem?_toArray, List.getElem?_cons_succ, List.getElem?_cons_zero, Option.some.injEq] at ho; subst ho
              refine ⟨?_, fun _ _ _ h => h, Or.inl ⟨by rfl, ?_⟩, ?_⟩; rotate_left 1
              · (intro wS hSw; (try dsimp only at hSw); go_simp; try with_reducible rfl)
              simp only [Act.put, List.setIfInBounds_toArray, List.set_cons_zero, List.set_cons_succ]
              refine anyX_take 3 (by kernel_rfl) (by kernel_rfl) (by kernel_rfl) (by kernel_rfl) (by kernel_rfl) hS0 ?_
              intro oi ho; simp only [List.getElem?_toArray, List.getElem?_cons_succ, List.getElem?_cons_zero, Option.some.injEq] at ho; subst ho
              refine ⟨?_, fun _ _ _ h => h, Or.inl ⟨by rfl, ?_⟩, ?_⟩; rotate_left 1
              · (intro wS hSw; (try dsimp only at hSw); go_simp; try with_reducible rfl)
              simp only [Act.put, List.setIfInBounds_toArray, List.set_cons_zero, List.set_cons_succ]
              refine anyX_take 4 (by kernel_rfl) (by kernel_rfl) (by kernel_rfl) (by kernel_rfl) (by kernel_rfl) hS0 ?_
              intro oi ho; simp only [List.getElem?_toArray, List.getElem?_cons_succ, List.getElem?_cons_zero, Option.some.injEq] at ho; subst ho
              refine ⟨?_, fun _ _ _ h => h, Or.inl ⟨by rfl, ?_⟩, ?_⟩; rotate_left 1
              · (intro wS hSw; (try dsimp only at hSw); go_simp; try with_reducible rfl)
              simp only [Act.put, List.setIfInBounds_toArray, List.set_cons_zero, List.set_cons_succ]
              refine anyX_take 5 (by kernel_rfl) (by kernel_rfl) (by kernel_rfl) (by kernel_rfl) (by kernel_rfl) hS0 ?_
              intro oi ho; simp only [List.getElem?_toArray, List.getElem?_cons_succ, List.getElem?_cons_zero, Option.some.injEq] at ho; subst ho
              refine ⟨?_, fun _ _ _ h => h, Or.inl ⟨by rfl, ?_⟩, ?_⟩; rotate_left 1
              · (intro wS hSw; (try dsimp only at hSw); go_simp; try with_reducible rfl)
              simp only [Act.put, List.setIfInBounds_toArray, List.set_cons_zero, List.set_cons_succ]
              refine anyX_take 6 (by kernel_rfl) (by kernel_rfl) (by kernel_rfl) (by kernel_rfl) (by kernel_rfl) hS0 ?_
              intro oi ho; simp only [List.getElem?_toArray, List.getElem?_cons_succ, List.getElem?_cons_zero, Option.some.injEq] at ho; subst ho
              refine ⟨?_, fun _ _ _ h => h, Or.inl ⟨by rfl, ?_⟩, ?_⟩; rotate_left 1
              · (intro wS hSw; (try dsimp only at hSw); go_simp; try with_reducible rfl)
              simp only [Act.put, List.setIfInBounds_toArray, List.set_cons_zero, List.set_cons_succ]
              refine anyX_one 7 (by kernel_rfl) ?_
              intro oi ho; simp only [List.getElem?_toArray, List.getElem?_cons_succ, List.getElem?_cons_zero, Option.some.injEq] at ho; subst ho; intro K hK
              (try simp only [Act.put, List.setIfInBounds_toArray, List.set_cons_zero, List.set_cons_succ])
              go_simp
              have kl : New wd (wd.alloc (.cells #[.string x.name, I x.ac, I x.po] 60)) := (New.refl wd).alloc _
              have hlit : SlAt (wd.alloc (.cells #[.string x.name, I x.ac, I x.po] 60)) (some ⟨wd.heap.size, 0, none⟩) (portCells x) := SlAt.lit wd _ _
              have kz := hdr.trans kl
              refine hK _ _ (fun _ => HSn _ kz) ?_
              clear hK K
              generalize (wd.alloc (.cells #[.string x.name, I x.ac, I x.po] 60)) = VZ at kl hlit kz ⊢
              generalize wd.heap.size = Z at hlit ⊢
              refine anyX_one 8 (by kernel_rfl) ?_
              intro oi ho; simp only [List.getElem?_toArray, List.getElem?_cons_succ, List.getElem?_cons_zero, Option.some.injEq] at ho; subst ho; intro K hK
              refine step_app rfl _ _ 24 rfl w.heap.size 60 it3 _ 3 32 Try.underlying24 hit3 hp0 hp1 hp2 rfl (by decide) a el.length c (el.flatMap portCells) rfl (HD.out.new kz).oo (some ⟨Z, 0, none⟩) 1 1 (portCells x) rfl rfl hlit (one_port _) (by unfold maxLen; omega) (by omega) (Nat.le_trans HD.out.nw.size kz.size) ?_
              intro a' c' wq hown' hk' hmv
              obtain ⟨⟨hv0, hfz, hPl2⟩, hDn⟩ := HD.out.addO x kz hown' hk' hmv
              have HDn := Lib.hid hDn
              refine hK _ _ (fun hx => by cases hx) ?_
              clear hK K hDn hown' hk' hmv
              refine anyX_one 9 (by kernel_rfl) ?_
              intro oi ho; simp only [List.getElem?_toArray, List.getElem?_cons_succ, List.getElem?_cons_zero, Option.some.injEq] at ho; subst ho; intro K hK
              (try simp only [Act.put, List.setIfInBounds_toArray, List.set_cons_zero, List.set_cons_succ])
              go_simp
              refine hK _ _ (fun hx => by cases hx) ?_
              clear hK K
              refine anyX_one 10 (by kernel_rfl) ?_
              intro oi ho; simp only [List.getElem?_toArray, List.getElem?_cons_succ, List.getElem?_cons_zero, Option.some.injEq] at ho; subst ho; intro K hK
              (try simp only [Act.put, List.setIfInBounds_toArray, List.set_cons_zero, List.set_cons_succ])
              go_simp
              refine hK _ _ (fun hx => by cases hx) ?_
              clear hK K
              refine anyX_done (by kernel_rfl) ?_
              (try simp only [Act.put, List.setIfInBounds_toArray, List.set_cons_zero, List.set_cons_succ])
              clear hS0 HSn
              (try simp only [Exit.then])
              go_wp2_with fail
              go_roundw
              case rel => exact ⟨j, a', c', by omega, rfl, Lib.hid (by have h := HDn.out; simp only [HEL.out] at h; exact h)⟩
              case measure => (simp [intOf] <;> omega)
            subst hk0
            rw [List.drop_zero] at HD
            have e1 : (((0 : Nat) : Int) - 1) = -1 := by decide
            rw [e1]
            clear e1 hk
            obtain ⟨a2, rfl⟩ : ∃ z, z = a := ⟨_, rfl⟩
            obtain ⟨c2, rfl⟩ : ∃ z, z = c := ⟨_, rfl⟩
            obtain ⟨y0, y1, y2, y3, y4, hYl⟩ := gr_cells HD.out.hg
            clear y0 y1 y2 y3 y4 hYl
            have hF := (find_fair HFG.out).1.rev
            have hrb : (⟨g0.name, q9.aa, q9.ac, q9.acts, a0, c0, g0.edges.reverse, a1, c1, g0.ins.reverse, a2, c2, g0.outs.reverse⟩ : Gr).bare = (revG g0).bare := by
              have h2 : q9.acts.map GAct.bare = g0.acts.map GAct.bare := congrArg Gr.acts HBQ.out
              unfold Gr.bare revG
              simp only [h2]
            have hrl : GLen (⟨g0.name, q9.aa, q9.ac, q9.acts, a0, c0, g0.edges.reverse, a1, c1, g0.ins.reverse, a2, c2, g0.outs.reverse⟩ : Gr) := (hl0.rev).bare hrb
            have hex : ∀ W, New wr W → ∀ x ∈ g0.edges, SlAt W x.a (Is x.xs) := fun W k x hx => (hg0.new (HD.out.nw.trans k)).ex x hx
            have hra : ∀ W, New wr W → GrAt W (⟨g0.name, q9.aa, q9.ac, q9.acts, a0, c0, g0.edges.reverse, a1, c1, g0.ins.reverse, a2, c2, g0.outs.reverse⟩ : Gr) := fun W k => (HD.out.new k).at (fun x hx => hex W k x (List.mem_reverse.1 hx))
            have HF := Lib.hid hF
            have HRB := Lib.hid hrb
            have HRL := Lib.hid hrl
            have HRA := Lib.hid hra
            have HEX := Lib.hid hex
            have hC := fun W (k : New wr W) => ccheck_any W (⟨g0.name, q9.aa, q9.ac, q9.acts, a0, c0, g0.edges.reverse, a1, c1, g0.ins.reverse, a2, c2, g0.outs.reverse⟩ : Gr) (hra W k) hrl
            rw [findG_same hrb, find_rev HFG.out] at hC
            have hbl := HD.out.bl
            simp only [Gr.v, Gr.cs, List.length_reverse] at hC hbl
            clear hF hrb hrl hra hex
            have HC := Lib.hid hC
            clear hC
            have hL0 : ∀ x t, g0.edges.reverse = x :: t → ∀ W, New wr W → Calls Try.prog 12 #[(⟨g0.name, q9.aa, q9.ac, q9.acts, (Option.map (fun x => ({ block := x.block, off := x.off + 5 } : Addr)) a0), c0 - 1, t, a1, c1, g0.ins.reverse, a2, c2, g0.outs.reverse⟩ : Gr).v] W fun e w' => e = .returned (I 87) ∧ New W w' := by
              intro x t e W k
              have hb : (⟨g0.name, q9.aa, q9.ac, q9.acts, (Option.map (fun x => ({ block := x.block, off := x.off + 5 } : Addr)) a0), c0 - 1, t, a1, c1, g0.ins.reverse, a2, c2, g0.outs.reverse⟩ : Gr).bare = ({ revG g0 with edges := t } : Gr).bare := by
                have h2 : q9.acts.map GAct.bare = g0.acts.map GAct.bare := congrArg Gr.acts HBQ.out
                unfold Gr.bare revG
                simp only [h2]
              have hl : t.length ≤ 9223372036854775807 := by have h9 := HRL.out.e; have h8 : g0.edges.reverse.length ≤ 9223372036854775807 := h9; rw [e] at h8; simp at h8; omega
              have h := HRL.out
              have hgl : GLen (⟨g0.name, q9.aa, q9.ac, q9.acts, (Option.map (fun x => ({ block := x.block, off := x.off + 5 } : Addr)) a0), c0 - 1, t, a1, c1, g0.ins.reverse, a2, c2, g0.outs.reverse⟩ : Gr) := ⟨h.a, hl, h.i, h.o, h.ax, fun y hy => h.ex y (by show y ∈ g0.edges.reverse; rw [e]; exact List.mem_cons_of_mem _ hy), h.ix, h.ox, h.n⟩
              have hr := HRA.out W k
              have hs : SlAt W a0 ((x :: t).flatMap edgeCells) := by rw [← e]; exact hr.se
              have hga : GrAt W (⟨g0.name, q9.aa, q9.ac, q9.acts, (Option.map (fun x => ({ block := x.block, off := x.off + 5 } : Addr)) a0), c0 - 1, t, a1, c1, g0.ins.reverse, a2, c2, g0.outs.reverse⟩ : Gr) := ⟨hr.sa, SlAt.rest (n := 5) (fun _ => rfl) (by decide) hs, hr.si, hr.so, hr.ax, fun y hy => hr.ex y (by show y ∈ g0.edges.reverse; rw [e]; exact List.mem_cons_of_mem _ hy)⟩
              have hc := ccheck_any W (⟨g0.name, q9.aa, q9.ac, q9.acts, (Option.map (fun x => ({ block := x.block, off := x.off + 5 } : Addr)) a0), c0 - 1, t, a1, c1, g0.ins.reverse, a2, c2, g0.outs.reverse⟩ : Gr) hga hgl
              rw [findG_same hb, HF.out.lessE (show (revG g0).edges = x :: t from e)] at hc
              exact hc
            have hM0 : ∀ x, g0.edges.reverse = [x] → ∀ W, New wr W → Calls Try.prog 12 #[(⟨g0.name, q9.aa, q9.ac, q9.acts, a0, 0, [], a1, c1, g0.ins.reverse, a2, c2, g0.outs.reverse⟩ : Gr).v] W fun e w' => e = .returned (I 87) ∧ New W w' := by
              intro x e W k
              have hb : (⟨g0.name, q9.aa, q9.ac, q9.acts, a0, 0, [], a1, c1, g0.ins.reverse, a2, c2, g0.outs.reverse⟩ : Gr).bare = ({ revG g0 with edges := [] } : Gr).bare := by
                have h2 : q9.acts.map GAct.bare = g0.acts.map GAct.bare := congrArg Gr.acts HBQ.out
                unfold Gr.bare revG
                simp only [h2]
              have h := HRL.out
              have hgl : GLen (⟨g0.name, q9.aa, q9.ac, q9.acts, a0, 0, [], a1, c1, g0.ins.reverse, a2, c2, g0.outs.reverse⟩ : Gr) := ⟨h.a, by simp, h.i, h.o, h.ax, (fun y hy => by cases hy), h.ix, h.ox, h.n⟩
              have hr := HRA.out W k
              have hga : GrAt W (⟨g0.name, q9.aa, q9.ac, q9.acts, a0, 0, [], a1, c1, g0.ins.reverse, a2, c2, g0.outs.reverse⟩ : Gr) := ⟨hr.sa, SlAt.nil _ _, hr.si, hr.so, hr.ax, (fun y hy => by cases hy)⟩
              have hc := ccheck_any W (⟨g0.name, q9.aa, q9.ac, q9.acts, a0, 0, [], a1, c1, g0.ins.reverse, a2, c2, g0.outs.reverse⟩ : Gr) hga hgl
              rw [findG_same hb, HF.out.lessE (show (revG g0).edges = x :: [] from e)] at hc
              exact hc
            have hq0 : ∀ x t, g0.edges.reverse = x :: t → t.length + 1 ≤ c0 := by
              intro x t e
              have ho := HD.out.eo
              have hll : g0.edges.reverse.length = t.length + 1 := by rw [e]; rfl
              rcases ho.2 with ⟨h0, -⟩ | ⟨g9, cap, cur, h0, hb, hg, hnc, -⟩
              · simp only [Value.slice.injEq] at h0
                have h9 : g0.edges.reverse.length = 0 := h0.2.1
                omega
              · simp only [Value.slice.injEq] at h0
                obtain ⟨-, -, h1⟩ := h0
                have h9 : g0.edges.reverse.length ≤ cap := hnc
                omega
            simp only [Gr.v, Gr.cs, List.length_reverse, List.length_nil] at hL0 hM0
            have HL0 := Lib.hid hL0
            have HM0 := Lib.hid hM0
            have HQ0 := Lib.hid hq0
            clear hL0 hM0 hq0
            have hL1 : ∀ x t, g0.ins.reverse = x :: t → ∀ W, New wr W → Calls Try.prog 12 #[(⟨g0.name, q9.aa, q9.ac, q9.acts, a0, c0, g0.edges.reverse, (Option.map (fun x => ({ block := x.block, off := x.off + 3 } : Addr)) a1), c1 - 1, t, a2, c2, g0.outs.reverse⟩ : Gr).v] W fun e w' => e = .returned (I 87) ∧ New W w' := by
              intro x t e W k
              have hb : (⟨g0.name, q9.aa, q9.ac, q9.acts, a0, c0, g0.edges.reverse, (Option.map (fun x => ({ block := x.block, off := x.off + 3 } : Addr)) a1), c1 - 1, t, a2, c2, g0.outs.reverse⟩ : Gr).bare = ({ revG g0 with ins := t } : Gr).bare := by
                have h2 : q9.acts.map GAct.bare = g0.acts.map GAct.bare := congrArg Gr.acts HBQ.out
                unfold Gr.bare revG
                simp only [h2]
              have hl : t.length ≤ 9223372036854775807 := by have h9 := HRL.out.i; have h8 : g0.ins.reverse.length ≤ 9223372036854775807 := h9; rw [e] at h8; simp at h8; omega
              have h := HRL.out
              have hgl : GLen (⟨g0.name, q9.aa, q9.ac, q9.acts, a0, c0, g0.edges.reverse, (Option.map (fun x => ({ block := x.block, off := x.off + 3 } : Addr)) a1), c1 - 1, t, a2, c2, g0.outs.reverse⟩ : Gr) := ⟨h.a, h.e, hl, h.o, h.ax, h.ex, fun y hy => h.ix y (by show y ∈ g0.ins.reverse; rw [e]; exact List.mem_cons_of_mem _ hy), h.ox, h.n⟩
              have hr := HRA.out W k
              have hs : SlAt W a1 ((x :: t).flatMap portCells) := by rw [← e]; exact hr.si
              have hga : GrAt W (⟨g0.name, q9.aa, q9.ac, q9.acts, a0, c0, g0.edges.reverse, (Option.map (fun x => ({ block := x.block, off := x.off + 3 } : Addr)) a1), c1 - 1, t, a2, c2, g0.outs.reverse⟩ : Gr) := ⟨hr.sa, hr.se, SlAt.rest (n := 3) (fun _ => rfl) (by decide) hs, hr.so, hr.ax, hr.ex⟩
              have hc := ccheck_any W (⟨g0.name, q9.aa, q9.ac, q9.acts, a0, c0, g0.edges.reverse, (Option.map (fun x => ({ block := x.block, off := x.off + 3 } : Addr)) a1), c1 - 1, t, a2, c2, g0.outs.reverse⟩ : Gr) hga hgl
              rw [findG_same hb, HF.out.lessI (show (revG g0).ins = x :: t from e)] at hc
              exact hc
            have hM1 : ∀ x, g0.ins.reverse = [x] → ∀ W, New wr W → Calls Try.prog 12 #[(⟨g0.name, q9.aa, q9.ac, q9.acts, a0, c0, g0.edges.reverse, a1, 0, [], a2, c2, g0.outs.reverse⟩ : Gr).v] W fun e w' => e = .returned (I 87) ∧ New W w' := by
              intro x e W k
              have hb : (⟨g0.name, q9.aa, q9.ac, q9.acts, a0, c0, g0.edges.reverse, a1, 0, [], a2, c2, g0.outs.reverse⟩ : Gr).bare = ({ revG g0 with ins := [] } : Gr).bare := by
                have h2 : q9.acts.map GAct.bare = g0.acts.map GAct.bare := congrArg Gr.acts HBQ.out
                unfold Gr.bare revG
                simp only [h2]
              have h := HRL.out
              have hgl : GLen (⟨g0.name, q9.aa, q9.ac, q9.acts, a0, c0, g0.edges.reverse, a1, 0, [], a2, c2, g0.outs.reverse⟩ : Gr) := ⟨h.a, h.e, by simp, h.o, h.ax, h.ex, (fun y hy => by cases hy), h.ox, h.n⟩
              have hr := HRA.out W k
              have hga : GrAt W (⟨g0.name, q9.aa, q9.ac, q9.acts, a0, c0, g0.edges.reverse, a1, 0, [], a2, c2, g0.outs.reverse⟩ : Gr) := ⟨hr.sa, hr.se, SlAt.nil _ _, hr.so, hr.ax, hr.ex⟩
              have hc := ccheck_any W (⟨g0.name, q9.aa, q9.ac, q9.acts, a0, c0, g0.edges.reverse, a1, 0, [], a2, c2, g0.outs.reverse⟩ : Gr) hga hgl
              rw [findG_same hb, HF.out.lessI (show (revG g0).ins = x :: [] from e)] at hc
              exact hc
            have hq1 : ∀ x t, g0.ins.reverse = x :: t → t.length + 1 ≤ c1 := by
              intro x t e
              have ho := HD.out.io
              have hll : g0.ins.reverse.length = t.length + 1 := by rw [e]; rfl
              rcases ho.2 with ⟨h0, -⟩ | ⟨g9, cap, cur, h0, hb, hg, hnc, -⟩
              · simp only [Value.slice.injEq] at h0
                have h9 : g0.ins.reverse.length = 0 := h0.2.1
                omega
              · simp only [Value.slice.injEq] at h0
                obtain ⟨-, -, h1⟩ := h0
                have h9 : g0.ins.reverse.length ≤ cap := hnc
                omega
            simp only [Gr.v, Gr.cs, List.length_reverse, List.length_nil] at hL1 hM1
            have HL1 := Lib.hid hL1
            have HM1 := Lib.hid hM1
            have HQ1 := Lib.hid hq1
            clear hL1 hM1 hq1
            have hL2 : ∀ x t, g0.outs.reverse = x :: t → ∀ W, New wr W → Calls Try.prog 12 #[(⟨g0.name, q9.aa, q9.ac, q9.acts, a0, c0, g0.edges.reverse, a1, c1, g0.ins.reverse, (Option.map (fun x => ({ block := x.block, off := x.off + 3 } : Addr)) a2), c2 - 1, t⟩ : Gr).v] W fun e w' => e = .returned (I 87) ∧ New W w' := by
              intro x t e W k
              have hb : (⟨g0.name, q9.aa, q9.ac, q9.acts, a0, c0, g0.edges.reverse, a1, c1, g0.ins.reverse, (Option.map (fun x => ({ block := x.block, off := x.off + 3 } : Addr)) a2), c2 - 1, t⟩ : Gr).bare = ({ revG g0 with outs := t } : Gr).bare := by
                have h2 : q9.acts.map GAct.bare = g0.acts.map GAct.bare := congrArg Gr.acts HBQ.out
                unfold Gr.bare revG
                simp only [h2]
              have hl : t.length ≤ 9223372036854775807 := by have h9 := HRL.out.o; have h8 : g0.outs.reverse.length ≤ 9223372036854775807 := h9; rw [e] at h8; simp at h8; omega
              have h := HRL.out
              have hgl : GLen (⟨g0.name, q9.aa, q9.ac, q9.acts, a0, c0, g0.edges.reverse, a1, c1, g0.ins.reverse, (Option.map (fun x => ({ block := x.block, off := x.off + 3 } : Addr)) a2), c2 - 1, t⟩ : Gr) := ⟨h.a, h.e, h.i, hl, h.ax, h.ex, h.ix, fun y hy => h.ox y (by show y ∈ g0.outs.reverse; rw [e]; exact List.mem_cons_of_mem _ hy), h.n⟩
              have hr := HRA.out W k
              have hs : SlAt W a2 ((x :: t).flatMap portCells) := by rw [← e]; exact hr.so
              have hga : GrAt W (⟨g0.name, q9.aa, q9.ac, q9.acts, a0, c0, g0.edges.reverse, a1, c1, g0.ins.reverse, (Option.map (fun x => ({ block := x.block, off := x.off + 3 } : Addr)) a2), c2 - 1, t⟩ : Gr) := ⟨hr.sa, hr.se, hr.si, SlAt.rest (n := 3) (fun _ => rfl) (by decide) hs, hr.ax, hr.ex⟩
              have hc := ccheck_any W (⟨g0.name, q9.aa, q9.ac, q9.acts, a0, c0, g0.edges.reverse, a1, c1, g0.ins.reverse, (Option.map (fun x => ({ block := x.block, off := x.off + 3 } : Addr)) a2), c2 - 1, t⟩ : Gr) hga hgl
              rw [findG_same hb, HF.out.lessO (show (revG g0).outs = x :: t from e)] at hc
              exact hc
            have hM2 : ∀ x, g0.outs.reverse = [x] → ∀ W, New wr W → Calls Try.prog 12 #[(⟨g0.name, q9.aa, q9.ac, q9.acts, a0, c0, g0.edges.reverse, a1, c1, g0.ins.reverse, a2, 0, []⟩ : Gr).v] W fun e w' => e = .returned (I 87) ∧ New W w' := by
              intro x e W k
              have hb : (⟨g0.name, q9.aa, q9.ac, q9.acts, a0, c0, g0.edges.reverse, a1, c1, g0.ins.reverse, a2, 0, []⟩ : Gr).bare = ({ revG g0 with outs := [] } : Gr).bare := by
                have h2 : q9.acts.map GAct.bare = g0.acts.map GAct.bare := congrArg Gr.acts HBQ.out
                unfold Gr.bare revG
                simp only [h2]
              have h := HRL.out
              have hgl : GLen (⟨g0.name, q9.aa, q9.ac, q9.acts, a0, c0, g0.edges.reverse, a1, c1, g0.ins.reverse, a2, 0, []⟩ : Gr) := ⟨h.a, h.e, h.i, by simp, h.ax, h.ex, h.ix, (fun y hy => by cases hy), h.n⟩
              have hr := HRA.out W k
              have hga : GrAt W (⟨g0.name, q9.aa, q9.ac, q9.acts, a0, c0, g0.edges.reverse, a1, c1, g0.ins.reverse, a2, 0, []⟩ : Gr) := ⟨hr.sa, hr.se, hr.si, SlAt.nil _ _, hr.ax, hr.ex⟩
              have hc := ccheck_any W (⟨g0.name, q9.aa, q9.ac, q9.acts, a0, c0, g0.edges.reverse, a1, c1, g0.ins.reverse, a2, 0, []⟩ : Gr) hga hgl
              rw [findG_same hb, HF.out.lessO (show (revG g0).outs = x :: [] from e)] at hc
              exact hc
            have hq2 : ∀ x t, g0.outs.reverse = x :: t → t.length + 1 ≤ c2 := by
              intro x t e
              have ho := HD.out.oo
              have hll : g0.outs.reverse.length = t.length + 1 := by rw [e]; rfl
              rcases ho.2 with ⟨h0, -⟩ | ⟨g9, cap, cur, h0, hb, hg, hnc, -⟩
              · simp only [Value.slice.injEq] at h0
                have h9 : g0.outs.reverse.length = 0 := h0.2.1
                omega
              · simp only [Value.slice.injEq] at h0
                obtain ⟨-, -, h1⟩ := h0
                have h9 : g0.outs.reverse.length ≤ cap := hnc
                omega
            simp only [Gr.v, Gr.cs, List.length_reverse, List.length_nil] at hL2 hM2
            have HL2 := Lib.hid hL2
            have HM2 := Lib.hid hM2
            have HQ2 := Lib.hid hq2
            clear hL2 hM2 hq2
            have HBL := Lib.hid hbl
            have HWR := Lib.hid HD.out.nw
            clear HRA HRL HRB HEX HF hbl HD hl0 hg0 hr0 hw0
            obtain ⟨p0, p1, p2, p3, p4, hPl⟩ := gr_cells HBL.out
            go_wp2_with fail
            refine (HC.out wr (New.refl wr)).mono ?_
            rintro e v0 ⟨rfl, k0⟩
            clear p0 p1 p2 p3 p4 hPl HC
            rcases hE9 : g0.edges.reverse with _ | ⟨x0, t0⟩ <;> rcases hI9 : g0.ins.reverse with _ | ⟨x1, t1⟩ <;> rcases hO9 : g0.outs.reverse with _ | ⟨x2, t2⟩
            · skip
              obtain ⟨p0, p1, p2, p3, p4, hPl⟩ := gr_cells (Keeps.heap k0 HBL.out (fun h => h))
              have hl0 : g0.edges.length = 0 := by have := congrArg List.length hE9; simpa using this
              have hl1 : g0.ins.length = 0 := by have := congrArg List.length hI9; simpa using this
              have hl2 : g0.outs.length = 0 := by have := congrArg List.length hO9; simpa using this
              rw [hl0] at p2
              rw [hl1] at p3
              rw [hl2] at p4
              go_wp2_with fail
              refine (awake_any _).mono ?_
              rintro e v9 ⟨rfl, k9⟩
              go_wp2_with fail
              go_ret
              exact ⟨rfl, (HWR.out.trans k0).trans k9⟩
            · skip
              by_cases hcn2 : c2 = 1
              · obtain rfl : t2 = [] := by
                  have := HQ2.out _ _ hO9
                  exact List.length_eq_zero_iff.1 (by omega)
                subst hcn2
                obtain ⟨p0, p1, p2, p3, p4, hPl⟩ := gr_cells (Keeps.heap k0 HBL.out (fun h => h))
                have hl0 : g0.edges.length = 0 := by have := congrArg List.length hE9; simpa using this
                have hl1 : g0.ins.length = 0 := by have := congrArg List.length hI9; simpa using this
                have hl2 : g0.outs.length = 1 := by have := congrArg List.length hO9; simpa using this
                have hc2 := HM2.out _ hO9
                rw [hl0, hl1] at hc2
                rw [hl0] at p2
                rw [hl1] at p3
                rw [hl2] at p4
                go_wp2_with fail
                refine (hc2 _ ((k0).trans ((New.refl _).alloc _))).mono ?_
                rintro e v1 ⟨rfl, m1⟩
                have k1 := (k0.trans ((New.refl _).alloc _)).trans m1
                clear m1 p0 p1 p2 p3 p4 hPl
                obtain ⟨p0, p1, p2, p3, p4, hPl⟩ := gr_cells (Keeps.heap k1 HBL.out (fun h => h))
                rw [hl0] at p2
                rw [hl1] at p3
                rw [hl2] at p4
                go_wp2_with fail
                refine (awake_any _).mono ?_
                rintro e v9 ⟨rfl, k9⟩
                go_wp2_with fail
                go_ret
                exact ⟨rfl, (HWR.out.trans k1).trans k9⟩
              · skip
                obtain ⟨p0, p1, p2, p3, p4, hPl⟩ := gr_cells (Keeps.heap k0 HBL.out (fun h => h))
                have hl0 : g0.edges.length = 0 := by have := congrArg List.length hE9; simpa using this
                have hl1 : g0.ins.length = 0 := by have := congrArg List.length hI9; simpa using this
                have hl2 : g0.outs.length = t2.length + 1 := by have := congrArg List.length hO9; simpa using this
                have hc2 := HL2.out _ _ hO9
                rw [hl0, hl1] at hc2
                rw [hl0] at p2
                rw [hl1] at p3
                rw [hl2] at p4
                go_wp2_with fail
                refine (hc2 _ ((k0).trans ((New.refl _).alloc _))).mono ?_
                rintro e v1 ⟨rfl, m1⟩
                have k1 := (k0.trans ((New.refl _).alloc _)).trans m1
                clear m1 p0 p1 p2 p3 p4 hPl
                obtain ⟨p0, p1, p2, p3, p4, hPl⟩ := gr_cells (Keeps.heap k1 HBL.out (fun h => h))
                rw [hl0] at p2
                rw [hl1] at p3
                rw [hl2] at p4
                go_wp2_with fail
                refine (awake_any _).mono ?_
                rintro e v9 ⟨rfl, k9⟩
                go_wp2_with fail
                go_ret
                exact ⟨rfl, (HWR.out.trans k1).trans k9⟩
            · skip
              by_cases hcn1 : c1 = 1
              · obtain rfl : t1 = [] := by
                  have := HQ1.out _ _ hI9
                  exact List.length_eq_zero_iff.1 (by omega)
                subst hcn1
                obtain ⟨p0, p1, p2, p3, p4, hPl⟩ := gr_cells (Keeps.heap k0 HBL.out (fun h => h))
                have hl0 : g0.edges.length = 0 := by have := congrArg List.length hE9; simpa using this
                have hl1 : g0.ins.length = 1 := by have := congrArg List.length hI9; simpa using this
                have hl2 : g0.outs.length = 0 := by have := congrArg List.length hO9; simpa using this
                have hc1 := HM1.out _ hI9
                rw [hl0, hl2] at hc1
                rw [hl0] at p2
                rw [hl1] at p3
                rw [hl2] at p4
                go_wp2_with fail
                refine (hc1 _ ((k0).trans ((New.refl _).alloc _))).mono ?_
                rintro e v1 ⟨rfl, m1⟩
                have k1 := (k0.trans ((New.refl _).alloc _)).trans m1
                clear m1 p0 p1 p2 p3 p4 hPl
                obtain ⟨p0, p1, p2, p3, p4, hPl⟩ := gr_cells (Keeps.heap k1 HBL.out (fun h => h))
                rw [hl0] at p2
                rw [hl1] at p3
                rw [hl2] at p4
                go_wp2_with fail
                refine (awake_any _).mono ?_
                rintro e v9 ⟨rfl, k9⟩
                go_wp2_with fail
                go_ret
                exact ⟨rfl, (HWR.out.trans k1).trans k9⟩
              · skip
                obtain ⟨p0, p1, p2, p3, p4, hPl⟩ := gr_cells (Keeps.heap k0 HBL.out (fun h => h))
                have hl0 : g0.edges.length = 0 := by have := congrArg List.length hE9; simpa using this
                have hl1 : g0.ins.length = t1.length + 1 := by have := congrArg List.length hI9; simpa using this
                have hl2 : g0.outs.length = 0 := by have := congrArg List.length hO9; simpa using this
                have hc1 := HL1.out _ _ hI9
                rw [hl0, hl2] at hc1
                rw [hl0] at p2
                rw [hl1] at p3
                rw [hl2] at p4
                go_wp2_with fail
                refine (hc1 _ ((k0).trans ((New.refl _).alloc _))).mono ?_
                rintro e v1 ⟨rfl, m1⟩
                have k1 := (k0.trans ((New.refl _).alloc _)).trans m1
                clear m1 p0 p1 p2 p3 p4 hPl
                obtain ⟨p0, p1, p2, p3, p4, hPl⟩ := gr_cells (Keeps.heap k1 HBL.out (fun h => h))
                rw [hl0] at p2
                rw [hl1] at p3
                rw [hl2] at p4
                go_wp2_with fail
                refine (awake_any _).mono ?_
                rintro e v9 ⟨rfl, k9⟩
                go_wp2_with fail
                go_ret
                exact ⟨rfl, (HWR.out.trans k1).trans k9⟩
            · skip
              by_cases hcn1 : c1 = 1
              · obtain rfl : t1 = [] := by
                  have := HQ1.out _ _ hI9
                  exact List.length_eq_zero_iff.1 (by omega)
                subst hcn1
                by_cases hcn2 : c2 = 1
                · obtain rfl : t2 = [] := by
                    have := HQ2.out _ _ hO9
                    exact List.length_eq_zero_iff.1 (by omega)
                  subst hcn2
                  obtain ⟨p0, p1, p2, p3, p4, hPl⟩ := gr_cells (Keeps.heap k0 HBL.out (fun h => h))
                  have hl0 : g0.edges.length = 0 := by have := congrArg List.length hE9; simpa using this
                  have hl1 : g0.ins.length = 1 := by have := congrArg List.length hI9; simpa using this
                  have hl2 : g0.outs.length = 1 := by have := congrArg List.length hO9; simpa using this
                  have hc1 := HM1.out _ hI9
                  rw [hl0, hl2] at hc1
                  have hc2 := HM2.out _ hO9
                  rw [hl0, hl1] at hc2
                  rw [hl0] at p2
                  rw [hl1] at p3
                  rw [hl2] at p4
                  go_wp2_with fail
                  refine (hc1 _ ((k0).trans ((New.refl _).alloc _))).mono ?_
                  rintro e v1 ⟨rfl, m1⟩
                  have k1 := (k0.trans ((New.refl _).alloc _)).trans m1
                  clear m1 p0 p1 p2 p3 p4 hPl
                  obtain ⟨p0, p1, p2, p3, p4, hPl⟩ := gr_cells (Keeps.heap k1 HBL.out (fun h => h))
                  rw [hl0] at p2
                  rw [hl1] at p3
                  rw [hl2] at p4
                  go_wp2_with fail
                  refine (hc2 _ ((k1).trans ((New.refl _).alloc _))).mono ?_
                  rintro e v2 ⟨rfl, m2⟩
                  have k2 := (k1.trans ((New.refl _).alloc _)).trans m2
                  clear m2 p0 p1 p2 p3 p4 hPl
                  obtain ⟨p0, p1, p2, p3, p4, hPl⟩ := gr_cells (Keeps.heap k2 HBL.out (fun h => h))
                  rw [hl0] at p2
                  rw [hl1] at p3
                  rw [hl2] at p4
                  go_wp2_with fail
                  refine (awake_any _).mono ?_
                  rintro e v9 ⟨rfl, k9⟩
                  go_wp2_with fail
                  go_ret
                  exact ⟨rfl, (HWR.out.trans k2).trans k9⟩
                · skip
                  obtain ⟨p0, p1, p2, p3, p4, hPl⟩ := gr_cells (Keeps.heap k0 HBL.out (fun h => h))
                  have hl0 : g0.edges.length = 0 := by have := congrArg List.length hE9; simpa using this
                  have hl1 : g0.ins.length = 1 := by have := congrArg List.length hI9; simpa using this
                  have hl2 : g0.outs.length = t2.length + 1 := by have := congrArg List.length hO9; simpa using this
                  have hc1 := HM1.out _ hI9
                  rw [hl0, hl2] at hc1
                  have hc2 := HL2.out _ _ hO9
                  rw [hl0, hl1] at hc2
                  rw [hl0] at p2
                  rw [hl1] at p3
                  rw [hl2] at p4
                  go_wp2_with fail
                  refine (hc1 _ ((k0).trans ((New.refl _).alloc _))).mono ?_
                  rintro e v1 ⟨rfl, m1⟩
                  have k1 := (k0.trans ((New.refl _).alloc _)).trans m1
                  clear m1 p0 p1 p2 p3 p4 hPl
                  obtain ⟨p0, p1, p2, p3, p4, hPl⟩ := gr_cells (Keeps.heap k1 HBL.out (fun h => h))
                  rw [hl0] at p2
                  rw [hl1] at p3
                  rw [hl2] at p4
                  go_wp2_with fail
                  refine (hc2 _ ((k1).trans ((New.refl _).alloc _))).mono ?_
                  rintro e v2 ⟨rfl, m2⟩
                  have k2 := (k1.trans ((New.refl _).alloc _)).trans m2
                  clear m2 p0 p1 p2 p3 p4 hPl
                  obtain ⟨p0, p1, p2, p3, p4, hPl⟩ := gr_cells (Keeps.heap k2 HBL.out (fun h => h))
                  rw [hl0] at p2
                  rw [hl1] at p3
                  rw [hl2] at p4
                  go_wp2_with fail
                  refine (awake_any _).mono ?_
                  rintro e v9 ⟨rfl, k9⟩
                  go_wp2_with fail
                  go_ret
                  exact ⟨rfl, (HWR.out.trans k2).trans k9⟩
              · skip
                by_cases hcn2 : c2 = 1
                · obtain rfl : t2 = [] := by
                    have := HQ2.out _ _ hO9
                    exact List.length_eq_zero_iff.1 (by omega)
                  subst hcn2
                  obtain ⟨p0, p1, p2, p3, p4, hPl⟩ := gr_cells (Keeps.heap k0 HBL.out (fun h => h))
                  have hl0 : g0.edges.length = 0 := by have := congrArg List.length hE9; simpa using this
                  have hl1 : g0.ins.length = t1.length + 1 := by have := congrArg List.length hI9; simpa using this
                  have hl2 : g0.outs.length = 1 := by have := congrArg List.length hO9; simpa using this
                  have hc1 := HL1.out _ _ hI9
                  rw [hl0, hl2] at hc1
                  have hc2 := HM2.out _ hO9
                  rw [hl0, hl1] at hc2
                  rw [hl0] at p2
                  rw [hl1] at p3
                  rw [hl2] at p4
                  go_wp2_with fail
                  refine (hc1 _ ((k0).trans ((New.refl _).alloc _))).mono ?_
                  rintro e v1 ⟨rfl, m1⟩
                  have k1 := (k0.trans ((New.refl _).alloc _)).trans m1
                  clear m1 p0 p1 p2 p3 p4 hPl
                  obtain ⟨p0, p1, p2, p3, p4, hPl⟩ := gr_cells (Keeps.heap k1 HBL.out (fun h => h))
                  rw [hl0] at p2
                  rw [hl1] at p3
                  rw [hl2] at p4
                  go_wp2_with fail
                  refine (hc2 _ ((k1).trans ((New.refl _).alloc _))).mono ?_
                  rintro e v2 ⟨rfl, m2⟩
                  have k2 := (k1.trans ((New.refl _).alloc _)).trans m2
                  clear m2 p0 p1 p2 p3 p4 hPl
                  obtain ⟨p0, p1, p2, p3, p4, hPl⟩ := gr_cells (Keeps.heap k2 HBL.out (fun h => h))
                  rw [hl0] at p2
                  rw [hl1] at p3
                  rw [hl2] at p4
                  go_wp2_with fail
                  refine (awake_any _).mono ?_
                  rintro e v9 ⟨rfl, k9⟩
                  go_wp2_with fail
                  go_ret
                  exact ⟨rfl, (HWR.out.trans k2).trans k9⟩
                · skip
                  obtain ⟨p0, p1, p2, p3, p4, hPl⟩ := gr_cells (Keeps.heap k0 HBL.out (fun h => h))
                  have hl0 : g0.edges.length = 0 := by have := congrArg List.length hE9; simpa using this
                  have hl1 : g0.ins.length = t1.length + 1 := by have := congrArg List.length hI9; simpa using this
                  have hl2 : g0.outs.length = t2.length + 1 := by have := congrArg List.length hO9; simpa using this
                  have hc1 := HL1.out _ _ hI9
                  rw [hl0, hl2] at hc1
                  have hc2 := HL2.out _ _ hO9
                  rw [hl0, hl1] at hc2
                  rw [hl0] at p2
                  rw [hl1] at p3
                  rw [hl2] at p4
                  go_wp2_with fail
                  refine (hc1 _ ((k0).trans ((New.refl _).alloc _))).mono ?_
                  rintro e v1 ⟨rfl, m1⟩
                  have k1 := (k0.trans ((New.refl _).alloc _)).trans m1
                  clear m1 p0 p1 p2 p3 p4 hPl
                  obtain ⟨p0, p1, p2, p3, p4, hPl⟩ := gr_cells (Keeps.heap k1 HBL.out (fun h => h))
                  rw [hl0] at p2
                  rw [hl1] at p3
                  rw [hl2] at p4
                  go_wp2_with fail
                  refine (hc2 _ ((k1).trans ((New.refl _).alloc _))).mono ?_
                  rintro e v2 ⟨rfl, m2⟩
                  have k2 := (k1.trans ((New.refl _).alloc _)).trans m2
                  clear m2 p0 p1 p2 p3 p4 hPl
                  obtain ⟨p0, p1, p2, p3, p4, hPl⟩ := gr_cells (Keeps.heap k2 HBL.out (fun h => h))
                  rw [hl0] at p2
                  rw [hl1] at p3
                  rw [hl2] at p4
                  go_wp2_with fail
                  refine (awake_any _).mono ?_
                  rintro e v9 ⟨rfl, k9⟩
                  go_wp2_with fail
                  go_ret
                  exact ⟨rfl, (HWR.out.trans k2).trans k9⟩
            · skip
              by_cases hcn0 : c0 = 1
              · obtain rfl : t0 = [] := by
                  have := HQ0.out _ _ hE9
                  exact List.length_eq_zero_iff.1 (by omega)
                subst hcn0
                obtain ⟨p0, p1, p2, p3, p4, hPl⟩ := gr_cells (Keeps.heap k0 HBL.out (fun h => h))
                have hl0 : g0.edges.length = 1 := by have := congrArg List.length hE9; simpa using this
                have hl1 : g0.ins.length = 0 := by have := congrArg List.length hI9; simpa using this
                have hl2 : g0.outs.length = 0 := by have := congrArg List.length hO9; simpa using this
                have hc0 := HM0.out _ hE9
                rw [hl1, hl2] at hc0
                rw [hl0] at p2
                rw [hl1] at p3
                rw [hl2] at p4
                go_wp2_with fail
                refine (hc0 _ ((k0).trans ((New.refl _).alloc _))).mono ?_
                rintro e v1 ⟨rfl, m1⟩
                have k1 := (k0.trans ((New.refl _).alloc _)).trans m1
                clear m1 p0 p1 p2 p3 p4 hPl
                obtain ⟨p0, p1, p2, p3, p4, hPl⟩ := gr_cells (Keeps.heap k1 HBL.out (fun h => h))
                rw [hl0] at p2
                rw [hl1] at p3
                rw [hl2] at p4
                go_wp2_with fail
                refine (awake_any _).mono ?_
                rintro e v9 ⟨rfl, k9⟩
                go_wp2_with fail
                go_ret
                exact ⟨rfl, (HWR.out.trans k1).trans k9⟩
              · skip
                obtain ⟨p0, p1, p2, p3, p4, hPl⟩ := gr_cells (Keeps.heap k0 HBL.out (fun h => h))
                have hl0 : g0.edges.length = t0.length + 1 := by have := congrArg List.length hE9; simpa using this
                have hl1 : g0.ins.length = 0 := by have := congrArg List.length hI9; simpa using this
                have hl2 : g0.outs.length = 0 := by have := congrArg List.length hO9; simpa using this
                have hc0 := HL0.out _ _ hE9
                rw [hl1, hl2] at hc0
                rw [hl0] at p2
                rw [hl1] at p3
                rw [hl2] at p4
                go_wp2_with fail
                refine (hc0 _ ((k0).trans ((New.refl _).alloc _))).mono ?_
                rintro e v1 ⟨rfl, m1⟩
                have k1 := (k0.trans ((New.refl _).alloc _)).trans m1
                clear m1 p0 p1 p2 p3 p4 hPl
                obtain ⟨p0, p1, p2, p3, p4, hPl⟩ := gr_cells (Keeps.heap k1 HBL.out (fun h => h))
                rw [hl0] at p2
                rw [hl1] at p3
                rw [hl2] at p4
                go_wp2_with fail
                refine (awake_any _).mono ?_
                rintro e v9 ⟨rfl, k9⟩
                go_wp2_with fail
                go_ret
                exact ⟨rfl, (HWR.out.trans k1).trans k9⟩
            · skip
              by_cases hcn0 : c0 = 1
              · obtain rfl : t0 = [] := by
                  have := HQ0.out _ _ hE9
                  exact List.length_eq_zero_iff.1 (by omega)
                subst hcn0
                by_cases hcn2 : c2 = 1
                · obtain rfl : t2 = [] := by
                    have := HQ2.out _ _ hO9
                    exact List.length_eq_zero_iff.1 (by omega)
                  subst hcn2
                  obtain ⟨p0, p1, p2, p3, p4, hPl⟩ := gr_cells (Keeps.heap k0 HBL.out (fun h => h))
                  have hl0 : g0.edges.length = 1 := by have := congrArg List.length hE9; simpa using this
                  have hl1 : g0.ins.length = 0 := by have := congrArg List.length hI9; simpa using this
                  have hl2 : g0.outs.length = 1 := by have := congrArg List.length hO9; simpa using this
                  have hc0 := HM0.out _ hE9
                  rw [hl1, hl2] at hc0
                  have hc2 := HM2.out _ hO9
                  rw [hl0, hl1] at hc2
                  rw [hl0] at p2
                  rw [hl1] at p3
                  rw [hl2] at p4
                  go_wp2_with fail
                  refine (hc0 _ ((k0).trans ((New.refl _).alloc _))).mono ?_
                  rintro e v1 ⟨rfl, m1⟩
                  have k1 := (k0.trans ((New.refl _).alloc _)).trans m1
                  clear m1 p0 p1 p2 p3 p4 hPl
                  obtain ⟨p0, p1, p2, p3, p4, hPl⟩ := gr_cells (Keeps.heap k1 HBL.out (fun h => h))
                  rw [hl0] at p2
                  rw [hl1] at p3
                  rw [hl2] at p4
                  go_wp2_with fail
                  refine (hc2 _ ((k1).trans ((New.refl _).alloc _))).mono ?_
                  rintro e v2 ⟨rfl, m2⟩
                  have k2 := (k1.trans ((New.refl _).alloc _)).trans m2
                  clear m2 p0 p1 p2 p3 p4 hPl
                  obtain ⟨p0, p1, p2, p3, p4, hPl⟩ := gr_cells (Keeps.heap k2 HBL.out (fun h => h))
                  rw [hl0] at p2
                  rw [hl1] at p3
                  rw [hl2] at p4
                  go_wp2_with fail
                  refine (awake_any _).mono ?_
                  rintro e v9 ⟨rfl, k9⟩
                  go_wp2_with fail
                  go_ret
                  exact ⟨rfl, (HWR.out.trans k2).trans k9⟩
                · skip
                  obtain ⟨p0, p1, p2, p3, p4, hPl⟩ := gr_cells (Keeps.heap k0 HBL.out (fun h => h))
                  have hl0 : g0.edges.length = 1 := by have := congrArg List.length hE9; simpa using this
                  have hl1 : g0.ins.length = 0 := by have := congrArg List.length hI9; simpa using this
                  have hl2 : g0.outs.length = t2.length + 1 := by have := congrArg List.length hO9; simpa using this
                  have hc0 := HM0.out _ hE9
                  rw [hl1, hl2] at hc0
                  have hc2 := HL2.out _ _ hO9
                  rw [hl0, hl1] at hc2
                  rw [hl0] at p2
                  rw [hl1] at p3
                  rw [hl2] at p4
                  go_wp2_with fail
                  refine (hc0 _ ((k0).trans ((New.refl _).alloc _))).mono ?_
                  rintro e v1 ⟨rfl, m1⟩
                  have k1 := (k0.trans ((New.refl _).alloc _)).trans m1
                  clear m1 p0 p1 p2 p3 p4 hPl
                  obtain ⟨p0, p1, p2, p3, p4, hPl⟩ := gr_cells (Keeps.heap k1 HBL.out (fun h => h))
                  rw [hl0] at p2
                  rw [hl1] at p3
                  rw [hl2] at p4
                  go_wp2_with fail
                  refine (hc2 _ ((k1).trans ((New.refl _).alloc _))).mono ?_
                  rintro e v2 ⟨rfl, m2⟩
                  have k2 := (k1.trans ((New.refl _).alloc _)).trans m2
                  clear m2 p0 p1 p2 p3 p4 hPl
                  obtain ⟨p0, p1, p2, p3, p4, hPl⟩ := gr_cells (Keeps.heap k2 HBL.out (fun h => h))
                  rw [hl0] at p2
                  rw [hl1] at p3
                  rw [hl2] at p4
                  go_wp2_with fail
                  refine (awake_any _).mono ?_
                  rintro e v9 ⟨rfl, k9⟩
                  go_wp2_with fail
                  go_ret
                  exact ⟨rfl, (HWR.out.trans k2).trans k9⟩
              · skip
                by_cases hcn2 : c2 = 1
                · obtain rfl : t2 = [] := by
                    have := HQ2.out _ _ hO9
                    exact List.length_eq_zero_iff.1 (by omega)
                  subst hcn2
                  obtain ⟨p0, p1, p2, p3, p4, hPl⟩ := gr_cells (Keeps.heap k0 HBL.out (fun h => h))
                  have hl0 : g0.edges.length = t0.length + 1 := by have := congrArg List.length hE9; simpa using this
                  have hl1 : g0.ins.length = 0 := by have := congrArg List.length hI9; simpa using this
                  have hl2 : g0.outs.length = 1 := by have := congrArg List.length hO9; simpa using this
                  have hc0 := HL0.out _ _ hE9
                  rw [hl1, hl2] at hc0
                  have hc2 := HM2.out _ hO9
                  rw [hl0, hl1] at hc2
                  rw [hl0] at p2
                  rw [hl1] at p3
                  rw [hl2] at p4
                  go_wp2_with fail
                  refine (hc0 _ ((k0).trans ((New.refl _).alloc _))).mono ?_
                  rintro e v1 ⟨rfl, m1⟩
                  have k1 := (k0.trans ((New.refl _).alloc _)).trans m1
                  clear m1 p0 p1 p2 p3 p4 hPl
                  obtain ⟨p0, p1, p2, p3, p4, hPl⟩ := gr_cells (Keeps.heap k1 HBL.out (fun h => h))
                  rw [hl0] at p2
                  rw [hl1] at p3
                  rw [hl2] at p4
                  go_wp2_with fail
                  refine (hc2 _ ((k1).trans ((New.refl _).alloc _))).mono ?_
                  rintro e v2 ⟨rfl, m2⟩
                  have k2 := (k1.trans ((New.refl _).alloc _)).trans m2
                  clear m2 p0 p1 p2 p3 p4 hPl
                  obtain ⟨p0, p1, p2, p3, p4, hPl⟩ := gr_cells (Keeps.heap k2 HBL.out (fun h => h))
                  rw [hl0] at p2
                  rw [hl1] at p3
                  rw [hl2] at p4
                  go_wp2_with fail
                  refine (awake_any _).mono ?_
                  rintro e v9 ⟨rfl, k9⟩
                  go_wp2_with fail
                  go_ret
                  exact ⟨rfl, (HWR.out.trans k2).trans k9⟩
                · skip
                  obtain ⟨p0, p1, p2, p3, p4, hPl⟩ := gr_cells (Keeps.heap k0 HBL.out (fun h => h))
                  have hl0 : g0.edges.length = t0.length + 1 := by have := congrArg List.length hE9; simpa using this
                  have hl1 : g0.ins.length = 0 := by have := congrArg List.length hI9; simpa using this
                  have hl2 : g0.outs.length = t2.length + 1 := by have := congrArg List.length hO9; simpa using this
                  have hc0 := HL0.out _ _ hE9
                  rw [hl1, hl2] at hc0
                  have hc2 := HL2.out _ _ hO9
                  rw [hl0, hl1] at hc2
                  rw [hl0] at p2
                  rw [hl1] at p3
                  rw [hl2] at p4
                  go_wp2_with fail
                  refine (hc0 _ ((k0).trans ((New.refl _).alloc _))).mono ?_
                  rintro e v1 ⟨rfl, m1⟩
                  have k1 := (k0.trans ((New.refl _).alloc _)).trans m1
                  clear m1 p0 p1 p2 p3 p4 hPl
                  obtain ⟨p0, p1, p2, p3, p4, hPl⟩ := gr_cells (Keeps.heap k1 HBL.out (fun h => h))
                  rw [hl0] at p2
                  rw [hl1] at p3
                  rw [hl2] at p4
                  go_wp2_with fail
                  refine (hc2 _ ((k1).trans ((New.refl _).alloc _))).mono ?_
                  rintro e v2 ⟨rfl, m2⟩
                  have k2 := (k1.trans ((New.refl _).alloc _)).trans m2
                  clear m2 p0 p1 p2 p3 p4 hPl
                  obtain ⟨p0, p1, p2, p3, p4, hPl⟩ := gr_cells (Keeps.heap k2 HBL.out (fun h => h))
                  rw [hl0] at p2
                  rw [hl1] at p3
                  rw [hl2] at p4
                  go_wp2_with fail
                  refine (awake_any _).mono ?_
                  rintro e v9 ⟨rfl, k9⟩
                  go_wp2_with fail
                  go_ret
                  exact ⟨rfl, (HWR.out.trans k2).trans k9⟩
            · skip
              by_cases hcn0 : c0 = 1
              · obtain rfl : t0 = [] := by
                  have := HQ0.out _ _ hE9
                  exact List.length_eq_zero_iff.1 (by omega)
                subst hcn0
                by_cases hcn1 : c1 = 1
                · obtain rfl : t1 = [] := by
                    have := HQ1.out _ _ hI9
                    exact List.length_eq_zero_iff.1 (by omega)
                  subst hcn1
                  obtain ⟨p0, p1, p2, p3, p4, hPl⟩ := gr_cells (Keeps.heap k0 HBL.out (fun h => h))
                  have hl0 : g0.edges.length = 1 := by have := congrArg List.length hE9; simpa using this
                  have hl1 : g0.ins.length = 1 := by have := congrArg List.length hI9; simpa using this
                  have hl2 : g0.outs.length = 0 := by have := congrArg List.length hO9; simpa using this
                  have hc0 := HM0.out _ hE9
                  rw [hl1, hl2] at hc0
                  have hc1 := HM1.out _ hI9
                  rw [hl0, hl2] at hc1
                  rw [hl0] at p2
                  rw [hl1] at p3
                  rw [hl2] at p4
                  go_wp2_with fail
                  refine (hc0 _ ((k0).trans ((New.refl _).alloc _))).mono ?_
                  rintro e v1 ⟨rfl, m1⟩
                  have k1 := (k0.trans ((New.refl _).alloc _)).trans m1
                  clear m1 p0 p1 p2 p3 p4 hPl
                  obtain ⟨p0, p1, p2, p3, p4, hPl⟩ := gr_cells (Keeps.heap k1 HBL.out (fun h => h))
                  rw [hl0] at p2
                  rw [hl1] at p3
                  rw [hl2] at p4
                  go_wp2_with fail
                  refine (hc1 _ ((k1).trans ((New.refl _).alloc _))).mono ?_
                  rintro e v2 ⟨rfl, m2⟩
                  have k2 := (k1.trans ((New.refl _).alloc _)).trans m2
                  clear m2 p0 p1 p2 p3 p4 hPl
                  obtain ⟨p0, p1, p2, p3, p4, hPl⟩ := gr_cells (Keeps.heap k2 HBL.out (fun h => h))
                  rw [hl0] at p2
                  rw [hl1] at p3
                  rw [hl2] at p4
                  go_wp2_with fail
                  refine (awake_any _).mono ?_
                  rintro e v9 ⟨rfl, k9⟩
                  go_wp2_with fail
                  go_ret
                  exact ⟨rfl, (HWR.out.trans k2).trans k9⟩
                · skip
                  obtain ⟨p0, p1, p2, p3, p4, hPl⟩ := gr_cells (Keeps.heap k0 HBL.out (fun h => h))
                  have hl0 : g0.edges.length = 1 := by have := congrArg List.length hE9; simpa using this
                  have hl1 : g0.ins.length = t1.length + 1 := by have := congrArg List.length hI9; simpa using this
                  have hl2 : g0.outs.length = 0 := by have := congrArg List.length hO9; simpa using this
                  have hc0 := HM0.out _ hE9
                  rw [hl1, hl2] at hc0
                  have hc1 := HL1.out _ _ hI9
                  rw [hl0, hl2] at hc1
                  rw [hl0] at p2
                  rw [hl1] at p3
                  rw [hl2] at p4
                  go_wp2_with fail
                  refine (hc0 _ ((k0).trans ((New.refl _).alloc _))).mono ?_
                  rintro e v1 ⟨rfl, m1⟩
                  have k1 := (k0.trans ((New.refl _).alloc _)).trans m1
                  clear m1 p0 p1 p2 p3 p4 hPl
                  obtain ⟨p0, p1, p2, p3, p4, hPl⟩ := gr_cells (Keeps.heap k1 HBL.out (fun h => h))
                  rw [hl0] at p2
                  rw [hl1] at p3
                  rw [hl2] at p4
                  go_wp2_with fail
                  refine (hc1 _ ((k1).trans ((New.refl _).alloc _))).mono ?_
                  rintro e v2 ⟨rfl, m2⟩
                  have k2 := (k1.trans ((New.refl _).alloc _)).trans m2
                  clear m2 p0 p1 p2 p3 p4 hPl
                  obtain ⟨p0, p1, p2, p3, p4, hPl⟩ := gr_cells (Keeps.heap k2 HBL.out (fun h => h))
                  rw [hl0] at p2
                  rw [hl1] at p3
                  rw [hl2] at p4
                  go_wp2_with fail
                  refine (awake_any _).mono ?_
                  rintro e v9 ⟨rfl, k9⟩
                  go_wp2_with fail
                  go_ret
                  exact ⟨rfl, (HWR.out.trans k2).trans k9⟩
              · skip
                by_cases hcn1 : c1 = 1
                · obtain rfl : t1 = [] := by
                    have := HQ1.out _ _ hI9
                    exact List.length_eq_zero_iff.1 (by omega)
                  subst hcn1
                  obtain ⟨p0, p1, p2, p3, p4, hPl⟩ := gr_cells (Keeps.heap k0 HBL.out (fun h => h))
                  have hl0 : g0.edges.length = t0.length + 1 := by have := congrArg List.length hE9; simpa using this
                  have hl1 : g0.ins.length = 1 := by have := congrArg List.length hI9; simpa using this
                  have hl2 : g0.outs.length = 0 := by have := congrArg List.length hO9; simpa using this
                  have hc0 := HL0.out _ _ hE9
                  rw [hl1, hl2] at hc0
                  have hc1 := HM1.out _ hI9
                  rw [hl0, hl2] at hc1
                  rw [hl0] at p2
                  rw [hl1] at p3
                  rw [hl2] at p4
                  go_wp2_with fail
                  refine (hc0 _ ((k0).trans ((New.refl _).alloc _))).mono ?_
                  rintro e v1 ⟨rfl, m1⟩
                  have k1 := (k0.trans ((New.refl _).alloc _)).trans m1
                  clear m1 p0 p1 p2 p3 p4 hPl
                  obtain ⟨p0, p1, p2, p3, p4, hPl⟩ := gr_cells (Keeps.heap k1 HBL.out (fun h => h))
                  rw [hl0] at p2
                  rw [hl1] at p3
                  rw [hl2] at p4
                  go_wp2_with fail
                  refine (hc1 _ ((k1).trans ((New.refl _).alloc _))).mono ?_
                  rintro e v2 ⟨rfl, m2⟩
                  have k2 := (k1.trans ((New.refl _).alloc _)).trans m2
                  clear m2 p0 p1 p2 p3 p4 hPl
                  obtain ⟨p0, p1, p2, p3, p4, hPl⟩ := gr_cells (Keeps.heap k2 HBL.out (fun h => h))
                  rw [hl0] at p2
                  rw [hl1] at p3
                  rw [hl2] at p4
                  go_wp2_with fail
                  refine (awake_any _).mono ?_
                  rintro e v9 ⟨rfl, k9⟩
                  go_wp2_with fail
                  go_ret
                  exact ⟨rfl, (HWR.out.trans k2).trans k9⟩
                · skip
                  obtain ⟨p0, p1, p2, p3, p4, hPl⟩ := gr_cells (Keeps.heap k0 HBL.out (fun h => h))
                  have hl0 : g0.edges.length = t0.length + 1 := by have := congrArg List.length hE9; simpa using this
                  have hl1 : g0.ins.length = t1.length + 1 := by have := congrArg List.length hI9; simpa using this
                  have hl2 : g0.outs.length = 0 := by have := congrArg List.length hO9; simpa using this
                  have hc0 := HL0.out _ _ hE9
                  rw [hl1, hl2] at hc0
                  have hc1 := HL1.out _ _ hI9
                  rw [hl0, hl2] at hc1
                  rw [hl0] at p2
                  rw [hl1] at p3
                  rw [hl2] at p4
                  go_wp2_with fail
                  refine (hc0 _ ((k0).trans ((New.refl _).alloc _))).mono ?_
                  rintro e v1 ⟨rfl, m1⟩
                  have k1 := (k0.trans ((New.refl _).alloc _)).trans m1
                  clear m1 p0 p1 p2 p3 p4 hPl
                  obtain ⟨p0, p1, p2, p3, p4, hPl⟩ := gr_cells (Keeps.heap k1 HBL.out (fun h => h))
                  rw [hl0] at p2
                  rw [hl1] at p3
                  rw [hl2] at p4
                  go_wp2_with fail
                  refine (hc1 _ ((k1).trans ((New.refl _).alloc _))).mono ?_
                  rintro e v2 ⟨rfl, m2⟩
                  have k2 := (k1.trans ((New.refl _).alloc _)).trans m2
                  clear m2 p0 p1 p2 p3 p4 hPl
                  obtain ⟨p0, p1, p2, p3, p4, hPl⟩ := gr_cells (Keeps.heap k2 HBL.out (fun h => h))
                  rw [hl0] at p2
                  rw [hl1] at p3
                  rw [hl2] at p4
                  go_wp2_with fail
                  refine (awake_any _).mono ?_
                  rintro e v9 ⟨rfl, k9⟩
                  go_wp2_with fail
                  go_ret
                  exact ⟨rfl, (HWR.out.trans k2).trans k9⟩
            · skip
              by_cases hcn0 : c0 = 1
              · obtain rfl : t0 = [] := by
                  have := HQ0.out _ _ hE9
                  exact List.length_eq_zero_iff.1 (by omega)
                subst hcn0
                by_cases hcn1 : c1 = 1
                · obtain rfl : t1 = [] := by
                    have := HQ1.out _ _ hI9
                    exact List.length_eq_zero_iff.1 (by omega)
                  subst hcn1
                  by_cases hcn2 : c2 = 1
                  · obtain rfl : t2 = [] := by
                      have := HQ2.out _ _ hO9
                      exact List.length_eq_zero_iff.1 (by omega)
                    subst hcn2
                    obtain ⟨p0, p1, p2, p3, p4, hPl⟩ := gr_cells (Keeps.heap k0 HBL.out (fun h => h))
                    have hl0 : g0.edges.length = 1 := by have := congrArg List.length hE9; simpa using this
                    have hl1 : g0.ins.length = 1 := by have := congrArg List.length hI9; simpa using this
                    have hl2 : g0.outs.length = 1 := by have := congrArg List.length hO9; simpa using this
                    have hc0 := HM0.out _ hE9
                    rw [hl1, hl2] at hc0
                    have hc1 := HM1.out _ hI9
                    rw [hl0, hl2] at hc1
                    have hc2 := HM2.out _ hO9
                    rw [hl0, hl1] at hc2
                    rw [hl0] at p2
                    rw [hl1] at p3
                    rw [hl2] at p4
                    go_wp2_with fail
                    refine (hc0 _ ((k0).trans ((New.refl _).alloc _))).mono ?_
                    rintro e v1 ⟨rfl, m1⟩
                    have k1 := (k0.trans ((New.refl _).alloc _)).trans m1
                    clear m1 p0 p1 p2 p3 p4 hPl
                    obtain ⟨p0, p1, p2, p3, p4, hPl⟩ := gr_cells (Keeps.heap k1 HBL.out (fun h => h))
                    rw [hl0] at p2
                    rw [hl1] at p3
                    rw [hl2] at p4
                    go_wp2_with fail
                    refine (hc1 _ ((k1).trans ((New.refl _).alloc _))).mono ?_
                    rintro e v2 ⟨rfl, m2⟩
                    have k2 := (k1.trans ((New.refl _).alloc _)).trans m2
                    clear m2 p0 p1 p2 p3 p4 hPl
                    obtain ⟨p0, p1, p2, p3, p4, hPl⟩ := gr_cells (Keeps.heap k2 HBL.out (fun h => h))
                    rw [hl0] at p2
                    rw [hl1] at p3
                    rw [hl2] at p4
                    go_wp2_with fail
                    refine (hc2 _ ((k2).trans ((New.refl _).alloc _))).mono ?_
                    rintro e v3 ⟨rfl, m3⟩
                    have k3 := (k2.trans ((New.refl _).alloc _)).trans m3
                    clear m3 p0 p1 p2 p3 p4 hPl
                    obtain ⟨p0, p1, p2, p3, p4, hPl⟩ := gr_cells (Keeps.heap k3 HBL.out (fun h => h))
                    rw [hl0] at p2
                    rw [hl1] at p3
                    rw [hl2] at p4
                    go_wp2_with fail
                    refine (awake_any _).mono ?_
                    rintro e v9 ⟨rfl, k9⟩
                    go_wp2_with fail
                    go_ret
                    exact ⟨rfl, (HWR.out.trans k3).trans k9⟩
                  · skip
                    obtain ⟨p0, p1, p2, p3, p4, hPl⟩ := gr_cells (Keeps.heap k0 HBL.out (fun h => h))
                    have hl0 : g0.edges.length = 1 := by have := congrArg List.length hE9; simpa using this
                    have hl1 : g0.ins.length = 1 := by have := congrArg List.length hI9; simpa using this
                    have hl2 : g0.outs.length = t2.length + 1 := by have := congrArg List.length hO9; simpa using this
                    have hc0 := HM0.out _ hE9
                    rw [hl1, hl2] at hc0
                    have hc1 := HM1.out _ hI9
                    rw [hl0, hl2] at hc1
                    have hc2 := HL2.out _ _ hO9
                    rw [hl0, hl1] at hc2
                    rw [hl0] at p2
                    rw [hl1] at p3
                    rw [hl2] at p4
                    go_wp2_with fail
                    refine (hc0 _ ((k0).trans ((New.refl _).alloc _))).mono ?_
                    rintro e v1 ⟨rfl, m1⟩
                    have k1 := (k0.trans ((New.refl _).alloc _)).trans m1
                    clear m1 p0 p1 p2 p3 p4 hPl
                    obtain ⟨p0, p1, p2, p3, p4, hPl⟩ := gr_cells (Keeps.heap k1 HBL.out (fun h => h))
                    rw [hl0] at p2
                    rw [hl1] at p3
                    rw [hl2] at p4
                    go_wp2_with fail
                    refine (hc1 _ ((k1).trans ((New.refl _).alloc _))).mono ?_
                    rintro e v2 ⟨rfl, m2⟩
                    have k2 := (k1.trans ((New.refl _).alloc _)).trans m2
                    clear m2 p0 p1 p2 p3 p4 hPl
                    obtain ⟨p0, p1, p2, p3, p4, hPl⟩ := gr_cells (Keeps.heap k2 HBL.out (fun h => h))
                    rw [hl0] at p2
                    rw [hl1] at p3
                    rw [hl2] at p4
                    go_wp2_with fail
                    refine (hc2 _ ((k2).trans ((New.refl _).alloc _))).mono ?_
                    rintro e v3 ⟨rfl, m3⟩
                    have k3 := (k2.trans ((New.refl _).alloc _)).trans m3
                    clear m3 p0 p1 p2 p3 p4 hPl
                    obtain ⟨p0, p1, p2, p3, p4, hPl⟩ := gr_cells (Keeps.heap k3 HBL.out (fun h => h))
                    rw [hl0] at p2
                    rw [hl1] at p3
                    rw [hl2] at p4
                    go_wp2_with fail
                    refine (awake_any _).mono ?_
                    rintro e v9 ⟨rfl, k9⟩
                    go_wp2_with fail
                    go_ret
                    exact ⟨rfl, (HWR.out.trans k3).trans k9⟩
                · skip
                  by_cases hcn2 : c2 = 1
                  · obtain rfl : t2 = [] := by
                      have := HQ2.out _ _ hO9
                      exact List.length_eq_zero_iff.1 (by omega)
                    subst hcn2
                    obtain ⟨p0, p1, p2, p3, p4, hPl⟩ := gr_cells (Keeps.heap k0 HBL.out (fun h => h))
                    have hl0 : g0.edges.length = 1 := by have := congrArg List.length hE9; simpa using this
                    have hl1 : g0.ins.length = t1.length + 1 := by have := congrArg List.length hI9; simpa using this
                    have hl2 : g0.outs.length = 1 := by have := congrArg List.length hO9; simpa using this
                    have hc0 := HM0.out _ hE9
                    rw [hl1, hl2] at hc0
                    have hc1 := HL1.out _ _ hI9
                    rw [hl0, hl2] at hc1
                    have hc2 := HM2.out _ hO9
                    rw [hl0, hl1] at hc2
                    rw [hl0] at p2
                    rw [hl1] at p3
                    rw [hl2] at p4
                    go_wp2_with fail
                    refine (hc0 _ ((k0).trans ((New.refl _).alloc _))).mono ?_
                    rintro e v1 ⟨rfl, m1⟩
                    have k1 := (k0.trans ((New.refl _).alloc _)).trans m1
                    clear m1 p0 p1 p2 p3 p4 hPl
                    obtain ⟨p0, p1, p2, p3, p4, hPl⟩ := gr_cells (Keeps.heap k1 HBL.out (fun h => h))
                    rw [hl0] at p2
                    rw [hl1] at p3
                    rw [hl2] at p4
                    go_wp2_with fail
                    refine (hc1 _ ((k1).trans ((New.refl _).alloc _))).mono ?_
                    rintro e v2 ⟨rfl, m2⟩
                    have k2 := (k1.trans ((New.refl _).alloc _)).trans m2
                    clear m2 p0 p1 p2 p3 p4 hPl
                    obtain ⟨p0, p1, p2, p3, p4, hPl⟩ := gr_cells (Keeps.heap k2 HBL.out (fun h => h))
                    rw [hl0] at p2
                    rw [hl1] at p3
                    rw [hl2] at p4
                    go_wp2_with fail
                    refine (hc2 _ ((k2).trans ((New.refl _).alloc _))).mono ?_
                    rintro e v3 ⟨rfl, m3⟩
                    have k3 := (k2.trans ((New.refl _).alloc _)).trans m3
                    clear m3 p0 p1 p2 p3 p4 hPl
                    obtain ⟨p0, p1, p2, p3, p4, hPl⟩ := gr_cells (Keeps.heap k3 HBL.out (fun h => h))
                    rw [hl0] at p2
                    rw [hl1] at p3
                    rw [hl2] at p4
                    go_wp2_with fail
                    refine (awake_any _).mono ?_
                    rintro e v9 ⟨rfl, k9⟩
                    go_wp2_with fail
                    go_ret
                    exact ⟨rfl, (HWR.out.trans k3).trans k9⟩
                  · skip
                    obtain ⟨p0, p1, p2, p3, p4, hPl⟩ := gr_cells (Keeps.heap k0 HBL.out (fun h => h))
                    have hl0 : g0.edges.length = 1 := by have := congrArg List.length hE9; simpa using this
                    have hl1 : g0.ins.length = t1.length + 1 := by have := congrArg List.length hI9; simpa using this
                    have hl2 : g0.outs.length = t2.length + 1 := by have := congrArg List.length hO9; simpa using this
                    have hc0 := HM0.out _ hE9
                    rw [hl1, hl2] at hc0
                    have hc1 := HL1.out _ _ hI9
                    rw [hl0, hl2] at hc1
                    have hc2 := HL2.out _ _ hO9
                    rw [hl0, hl1] at hc2
                    rw [hl0] at p2
                    rw [hl1] at p3
                    rw [hl2] at p4
                    go_wp2_with fail
                    refine (hc0 _ ((k0).trans ((New.refl _).alloc _))).mono ?_
                    rintro e v1 ⟨rfl, m1⟩
                    have k1 := (k0.trans ((New.refl _).alloc _)).trans m1
                    clear m1 p0 p1 p2 p3 p4 hPl
                    obtain ⟨p0, p1, p2, p3, p4, hPl⟩ := gr_cells (Keeps.heap k1 HBL.out (fun h => h))
                    rw [hl0] at p2
                    rw [hl1] at p3
                    rw [hl2] at p4
                    go_wp2_with fail
                    refine (hc1 _ ((k1).trans ((New.refl _).alloc _))).mono ?_
                    rintro e v2 ⟨rfl, m2⟩
                    have k2 := (k1.trans ((New.refl _).alloc _)).trans m2
                    clear m2 p0 p1 p2 p3 p4 hPl
                    obtain ⟨p0, p1, p2, p3, p4, hPl⟩ := gr_cells (Keeps.heap k2 HBL.out (fun h => h))
                    rw [hl0] at p2
                    rw [hl1] at p3
                    rw [hl2] at p4
                    go_wp2_with fail
                    refine (hc2 _ ((k2).trans ((New.refl _).alloc _))).mono ?_
                    rintro e v3 ⟨rfl, m3⟩
                    have k3 := (k2.trans ((New.refl _).alloc _)).trans m3
                    clear m3 p0 p1 p2 p3 p4 hPl
                    obtain ⟨p0, p1, p2, p3, p4, hPl⟩ := gr_cells (Keeps.heap k3 HBL.out (fun h => h))
                    rw [hl0] at p2
                    rw [hl1] at p3
                    rw [hl2] at p4
                    go_wp2_with fail
                    refine (awake_any _).mono ?_
                    rintro e v9 ⟨rfl, k9⟩
                    go_wp2_with fail
                    go_ret
                    exact ⟨rfl, (HWR.out.trans k3).trans k9⟩
              · skip
                by_cases hcn1 : c1 = 1
                · obtain rfl : t1 = [] := by
                    have := HQ1.out _ _ hI9
                    exact List.length_eq_zero_iff.1 (by omega)
                  subst hcn1
                  by_cases hcn2 : c2 = 1
                  · obtain rfl : t2 = [] := by
                      have := HQ2.out _ _ hO9
                      exact List.length_eq_zero_iff.1 (by omega)
                    subst hcn2
                    obtain ⟨p0, p1, p2, p3, p4, hPl⟩ := gr_cells (Keeps.heap k0 HBL.out (fun h => h))
                    have hl0 : g0.edges.length = t0.length + 1 := by have := congrArg List.length hE9; simpa using this
                    have hl1 : g0.ins.length = 1 := by have := congrArg List.length hI9; simpa using this
                    have hl2 : g0.outs.length = 1 := by have := congrArg List.length hO9; simpa using this
                    have hc0 := HL0.out _ _ hE9
                    rw [hl1, hl2] at hc0
                    have hc1 := HM1.out _ hI9
                    rw [hl0, hl2] at hc1
                    have hc2 := HM2.out _ hO9
                    rw [hl0, hl1] at hc2
                    rw [hl0] at p2
                    rw [hl1] at p3
                    rw [hl2] at p4
                    go_wp2_with fail
                    refine (hc0 _ ((k0).trans ((New.refl _).alloc _))).mono ?_
                    rintro e v1 ⟨rfl, m1⟩
                    have k1 := (k0.trans ((New.refl _).alloc _)).trans m1
                    clear m1 p0 p1 p2 p3 p4 hPl
                    obtain ⟨p0, p1, p2, p3, p4, hPl⟩ := gr_cells (Keeps.heap k1 HBL.out (fun h => h))
                    rw [hl0] at p2
                    rw [hl1] at p3
                    rw [hl2] at p4
                    go_wp2_with fail
                    refine (hc1 _ ((k1).trans ((New.refl _).alloc _))).mono ?_
                    rintro e v2 ⟨rfl, m2⟩
                    have k2 := (k1.trans ((New.refl _).alloc _)).trans m2
                    clear m2 p0 p1 p2 p3 p4 hPl
                    obtain ⟨p0, p1, p2, p3, p4, hPl⟩ := gr_cells (Keeps.heap k2 HBL.out (fun h => h))
                    rw [hl0] at p2
                    rw [hl1] at p3
                    rw [hl2] at p4
                    go_wp2_with fail
                    refine (hc2 _ ((k2).trans ((New.refl _).alloc _))).mono ?_
                    rintro e v3 ⟨rfl, m3⟩
                    have k3 := (k2.trans ((New.refl _).alloc _)).trans m3
                    clear m3 p0 p1 p2 p3 p4 hPl
                    obtain ⟨p0, p1, p2, p3, p4, hPl⟩ := gr_cells (Keeps.heap k3 HBL.out (fun h => h))
                    rw [hl0] at p2
                    rw [hl1] at p3
                    rw [hl2] at p4
                    go_wp2_with fail
                    refine (awake_any _).mono ?_
                    rintro e v9 ⟨rfl, k9⟩
                    go_wp2_with fail
                    go_ret
                    exact ⟨rfl, (HWR.out.trans k3).trans k9⟩
                  · skip
                    obtain ⟨p0, p1, p2, p3, p4, hPl⟩ := gr_cells (Keeps.heap k0 HBL.out (fun h => h))
                    have hl0 : g0.edges.length = t0.length + 1 := by have := congrArg List.length hE9; simpa using this
                    have hl1 : g0.ins.length = 1 := by have := congrArg List.length hI9; simpa using this
                    have hl2 : g0.outs.length = t2.length + 1 := by have := congrArg List.length hO9; simpa using this
                    have hc0 := HL0.out _ _ hE9
                    rw [hl1, hl2] at hc0
                    have hc1 := HM1.out _ hI9
                    rw [hl0, hl2] at hc1
                    have hc2 := HL2.out _ _ hO9
                    rw [hl0, hl1] at hc2
                    rw [hl0] at p2
                    rw [hl1] at p3
                    rw [hl2] at p4
                    go_wp2_with fail
                    refine (hc0 _ ((k0).trans ((New.refl _).alloc _))).mono ?_
                    rintro e v1 ⟨rfl, m1⟩
                    have k1 := (k0.trans ((New.refl _).alloc _)).trans m1
                    clear m1 p0 p1 p2 p3 p4 hPl
                    obtain ⟨p0, p1, p2, p3, p4, hPl⟩ := gr_cells (Keeps.heap k1 HBL.out (fun h => h))
                    rw [hl0] at p2
                    rw [hl1] at p3
                    rw [hl2] at p4
                    go_wp2_with fail
                    refine (hc1 _ ((k1).trans ((New.refl _).alloc _))).mono ?_
                    rintro e v2 ⟨rfl, m2⟩
                    have k2 := (k1.trans ((New.refl _).alloc _)).trans m2
                    clear m2 p0 p1 p2 p3 p4 hPl
                    obtain ⟨p0, p1, p2, p3, p4, hPl⟩ := gr_cells (Keeps.heap k2 HBL.out (fun h => h))
                    rw [hl0] at p2
                    rw [hl1] at p3
                    rw [hl2] at p4
                    go_wp2_with fail
                    refine (hc2 _ ((k2).trans ((New.refl _).alloc _))).mono ?_
                    rintro e v3 ⟨rfl, m3⟩
                    have k3 := (k2.trans ((New.refl _).alloc _)).trans m3
                    clear m3 p0 p1 p2 p3 p4 hPl
                    obtain ⟨p0, p1, p2, p3, p4, hPl⟩ := gr_cells (Keeps.heap k3 HBL.out (fun h => h))
                    rw [hl0] at p2
                    rw [hl1] at p3
                    rw [hl2] at p4
                    go_wp2_with fail
                    refine (awake_any _).mono ?_
                    rintro e v9 ⟨rfl, k9⟩
                    go_wp2_with fail
                    go_ret
                    exact ⟨rfl, (HWR.out.trans k3).trans k9⟩
                · skip
                  by_cases hcn2 : c2 = 1
                  · obtain rfl : t2 = [] := by
                      have := HQ2.out _ _ hO9
                      exact List.length_eq_zero_iff.1 (by omega)
                    subst hcn2
                    obtain ⟨p0, p1, p2, p3, p4, hPl⟩ := gr_cells (Keeps.heap k0 HBL.out (fun h => h))
                    have hl0 : g0.edges.length = t0.length + 1 := by have := congrArg List.length hE9; simpa using this
                    have hl1 : g0.ins.length = t1.length + 1 := by have := congrArg List.length hI9; simpa using this
                    have hl2 : g0.outs.length = 1 := by have := congrArg List.length hO9; simpa using this
                    have hc0 := HL0.out _ _ hE9
                    rw [hl1, hl2] at hc0
                    have hc1 := HL1.out _ _ hI9
                    rw [hl0, hl2] at hc1
                    have hc2 := HM2.out _ hO9
                    rw [hl0, hl1] at hc2
                    rw [hl0] at p2
                    rw [hl1] at p3
                    rw [hl2] at p4
                    go_wp2_with fail
                    refine (hc0 _ ((k0).trans ((New.refl _).alloc _))).mono ?_
                    rintro e v1 ⟨rfl, m1⟩
                    have k1 := (k0.trans ((New.refl _).alloc _)).trans m1
                    clear m1 p0 p1 p2 p3 p4 hPl
                    obtain ⟨p0, p1, p2, p3, p4, hPl⟩ := gr_cells (Keeps.heap k1 HBL.out (fun h => h))
                    rw [hl0] at p2
                    rw [hl1] at p3
                    rw [hl2] at p4
                    go_wp2_with fail
                    refine (hc1 _ ((k1).trans ((New.refl _).alloc _))).mono ?_
                    rintro e v2 ⟨rfl, m2⟩
                    have k2 := (k1.trans ((New.refl _).alloc _)).trans m2
                    clear m2 p0 p1 p2 p3 p4 hPl
                    obtain ⟨p0, p1, p2, p3, p4, hPl⟩ := gr_cells (Keeps.heap k2 HBL.out (fun h => h))
                    rw [hl0] at p2
                    rw [hl1] at p3
                    rw [hl2] at p4
                    go_wp2_with fail
                    refine (hc2 _ ((k2).trans ((New.refl _).alloc _))).mono ?_
                    rintro e v3 ⟨rfl, m3⟩
                    have k3 := (k2.trans ((New.refl _).alloc _)).trans m3
                    clear m3 p0 p1 p2 p3 p4 hPl
                    obtain ⟨p0, p1, p2, p3, p4, hPl⟩ := gr_cells (Keeps.heap k3 HBL.out (fun h => h))
                    rw [hl0] at p2
                    rw [hl1] at p3
                    rw [hl2] at p4
                    go_wp2_with fail
                    refine (awake_any _).mono ?_
                    rintro e v9 ⟨rfl, k9⟩
                    go_wp2_with fail
                    go_ret
                    exact ⟨rfl, (HWR.out.trans k3).trans k9⟩
                  · skip
                    obtain ⟨p0, p1, p2, p3, p4, hPl⟩ := gr_cells (Keeps.heap k0 HBL.out (fun h => h))
                    have hl0 : g0.edges.length = t0.length + 1 := by have := congrArg List.length hE9; simpa using this
                    have hl1 : g0.ins.length = t1.length + 1 := by have := congrArg List.length hI9; simpa using this
                    have hl2 : g0.outs.length = t2.length + 1 := by have := congrArg List.length hO9; simpa using this
                    have hc0 := HL0.out _ _ hE9
                    rw [hl1, hl2] at hc0
                    have hc1 := HL1.out _ _ hI9
                    rw [hl0, hl2] at hc1
                    have hc2 := HL2.out _ _ hO9
                    rw [hl0, hl1] at hc2
                    rw [hl0] at p2
                    rw [hl1] at p3
                    rw [hl2] at p4
                    go_wp2_with fail
                    refine (hc0 _ ((k0).trans ((New.refl _).alloc _))).mono ?_
                    rintro e v1 ⟨rfl, m1⟩
                    have k1 := (k0.trans ((New.refl _).alloc _)).trans m1
                    clear m1 p0 p1 p2 p3 p4 hPl
                    obtain ⟨p0, p1, p2, p3, p4, hPl⟩ := gr_cells (Keeps.heap k1 HBL.out (fun h => h))
                    rw [hl0] at p2
                    rw [hl1] at p3
                    rw [hl2] at p4
                    go_wp2_with fail
                    refine (hc1 _ ((k1).trans ((New.refl _).alloc _))).mono ?_
                    rintro e v2 ⟨rfl, m2⟩
                    have k2 := (k1.trans ((New.refl _).alloc _)).trans m2
                    clear m2 p0 p1 p2 p3 p4 hPl
                    obtain ⟨p0, p1, p2, p3, p4, hPl⟩ := gr_cells (Keeps.heap k2 HBL.out (fun h => h))
                    rw [hl0] at p2
                    rw [hl1] at p3
                    rw [hl2] at p4
                    go_wp2_with fail
                    refine (hc2 _ ((k2).trans ((New.refl _).alloc _))).mono ?_
                    rintro e v3 ⟨rfl, m3⟩
                    have k3 := (k2.trans ((New.refl _).alloc _)).trans m3
                    clear m3 p0 p1 p2 p3 p4 hPl
                    obtain ⟨p0, p1, p2, p3, p4, hPl⟩ := gr_cells (Keeps.heap k3 HBL.out (fun h => h))
                    rw [hl0] at p2
                    rw [hl1] at p3
                    rw [hl2] at p4
                    go_wp2_with fail
                    refine (awake_any _).mono ?_
                    rintro e v9 ⟨rfl, k9⟩
                    go_wp2_with fail
                    go_ret
                    exact ⟨rfl, (HWR.out.trans k3).trans k9⟩
set_option maxRecDepth 100000 in
theorem lifted (os : Os) (started : os.Started) (H : Type) (enc : TypeId × Value → H) :
    ReturnsInHanded {} Try.checked os 7 .any (Rows.graphOrderSpec.pre6 enc Try.prog Try.f7 Rows.graphOrderRow.domain false) (Rows.graphOrderSpec.post enc Try.prog Try.f7 false true false false) := by
  refine returnsInHanded_of_change_sized (C := Try.checked) own started (by kernel_rfl) Try.func7
    (ChangeSpec.witness6 (enc := enc) (C := Try.checked) false ⟨#[], #[.agg #[.string ByteArray.empty, .slice none 0 0, .slice none 0 0, .slice none 0 0, .slice none 0 0]], []⟩ 8 (by kernel_rfl) (by kernel_rfl) (by kernel_rfl) (by kernel_rfl)) ?_
  intro W base args ds gs before hval0 hW hcnd hsz0 _
  have hval : ∀ (j : Nat) t v, Try.f7.params[j]? = some t → args[j]? = some v → Value.okWide Try.prog W .any base t v := hval0
  have hsz : (DataW.weightsEach Try.prog (Try.f7.params.toList ++ Rows.graphOrderSpec.plain.varTypes Try.prog) (ds ++ gs)).all (· ≤ reachBytes) = true := hsz0
  clear hsz0
  have hW' := hW
  obtain ⟨p, q, hA0, hV, rfl, hfz, hnd⟩ := hW
  have hA : DataW.TrodAll enc Try.prog W 0 (fun _ => true) true Try.f7.params.toList args.toList ds p := hA0
  rw [Try.params7] at hA hval hsz
  obtain ⟨v0, vs0, d0, ds0, p0, q0, hargs, rfl, rfl, h0, r0'⟩ := trodAll_cons hA
  obtain ⟨rfl, rfl, rfl⟩ := trodAll_nil r0'
  obtain rfl : args = #[v0] := by cases args; simp_all
  obtain ⟨rfl, rfl⟩ := trodVars_none hV
  have k0 := h0
  have lt0 : ∀ x ∈ p0, x.block < W.heap.size := by obtain ⟨m, hm⟩ := k0; exact DataW.trod_lt m _ _ _ hm
  obtain ⟨g0', rfl, hg0, hl0, hw0, hr0⟩ := read_graph (hval 0 26 v0 rfl rfl) h0
  have hr0' : GRoom g0' := hr0 (fun m hm => of_decide_eq_true (List.all_eq_true.1 hsz m (DataW.weights_mem_each (j := 0) (t := 26) rfl rfl _ hm)))
  clear hA0 hval0
  refine (walk W g0' hg0 hl0 hw0 hr0').mono fun e W' ⟨he, hnew⟩ => ?_
  have bel := hnew.below
  subst he
  exact ⟨_, rfl, _, _, _, [], _, [], hW', trodAll_mk1 (shut_bool Try.underlying4 _), (trodAll_cons_mk (Below.trod laidOut (by kernel_rfl) (of_decide_eq_true (by kernel_rfl)) k0 bel lt0) trodAll_mk0), rfl, bel.frame _, fun h => by cases h⟩

theorem over : Rows.graphOrderRow.holds Try.pinned (OpenSpec.ofChange Rows.graphOrderSpec) :=
  OpenClaim.holds_of_wide 7 Try.f7 rfl rfl rfl rfl rfl rfl rfl ⟨rfl, rfl, rfl, rfl, rfl⟩ rfl rfl rfl rfl rfl (by kernel_rfl) Try.func7 (by kernel_rfl)
    (of_decide_eq_true (by kernel_rfl)) (by unfold Func.isWrapper; first | (rw [if_pos (by decide +kernel)]; kernel_rfl) | (rw [if_neg (by decide +kernel)]; exact ⟨rfl, rfl⟩))
    (fun os started H enc _ => lifted os started H enc)

/-- THE STATEMENT. -/
theorem proved : Rows.GraphOrderSaid := over
end Go.Proofs.Ytpljnapglbmdlaa.graphOrder
