/-
  Layer 8: the document's Draw.
-/
import Derived.Test.YtpljnapglbmdlaaGrU
import Derived.Test.YtpljnapglbmdlaaGrH
import Derived.Test.YtpljnapglbmdlaaGtB
namespace Go.Proofs.Ytpljnapglbmdlaa
open Go Go.RowKit Go.Joins
set_option linter.all false

theorem end_cells {w : World} {C : Nat} {a0 a1 a2 : Value} (h : w.heap[C]? = some (.cells #[a0, a1, a2] 43 (0, 0))) :
    w.cell? ⟨C, 0, none⟩ = some a0 ∧ w.cell? ⟨C, 1, none⟩ = some a1 ∧ w.cell? ⟨C, 2, none⟩ = some a2 ∧ C < w.heap.size := by
  refine ⟨?_, ?_, ?_, (Array.getElem?_eq_some_iff.1 h).1⟩
  all_goals rw [cell_of_block h]; rfl
set_option maxRecDepth 100000 in
set_option maxHeartbeats 8000000 in
theorem rdraw_bad (w : World) (g : Gr) (hg : GrAt w g) (hl : GLen g) (h : (findG g).1 ≠ 0) :
    Calls Try.prog 16 #[g.v] w fun e w' => e = .returned (.tuple #[.agg #[.string ⟨#[]⟩, .slice none 0 0], I (findG g).1]) ∧ New w w' := by
  have HC : ∀ W, New w W → Calls Try.prog 13 #[g.v] W fun en w' => en = .returned (I (findG g).1) ∧ New W w' := fun W k => rcheck_any W g (hg.new k) hl
  generalize (findG g).1 = f at h HC ⊢
  have d0 : (f != 0) = true := by simp [h]
  clear hg hl h
  simp only [Gr.v, Gr.cs] at HC ⊢
  go_enter Try.func16, Try.ntmps16
  go_wp2_with fail
  have na : New w (w.alloc (.cells #[.string g.name, .slice g.aa g.acts.length g.ac, .slice g.ea g.edges.length g.ec, .slice g.ia g.ins.length g.ic, .slice g.oa g.outs.length g.oc] 26)) := (New.refl w).alloc _
  have ha : (w.alloc (.cells #[.string g.name, .slice g.aa g.acts.length g.ac, .slice g.ea g.edges.length g.ec, .slice g.ia g.ins.length g.ic, .slice g.oa g.outs.length g.oc] 26)).heap[w.heap.size]? = some (.cells #[.string g.name, .slice g.aa g.acts.length g.ac, .slice g.ea g.edges.length g.ec, .slice g.ia g.ins.length g.ic, .slice g.oa g.outs.length g.oc] 26 (0, 0)) := heap_alloc_new w _
  have sa : (w.alloc (.cells #[.string g.name, .slice g.aa g.acts.length g.ac, .slice g.ea g.edges.length g.ec, .slice g.ia g.ins.length g.ic, .slice g.oa g.outs.length g.oc] 26)).heap.size = w.heap.size + 1 := size_alloc _ _
  generalize (w.alloc (.cells #[.string g.name, .slice g.aa g.acts.length g.ac, .slice g.ea g.edges.length g.ec, .slice g.ia g.ins.length g.ic, .slice g.oa g.outs.length g.oc] 26)) = wa at na ha sa ⊢
  have nb : New wa (wa.alloc (.cells #[.string ⟨#[]⟩, .slice none 0 0] 35)) := (New.refl wa).alloc _
  have hb : (wa.alloc (.cells #[.string ⟨#[]⟩, .slice none 0 0] 35)).heap[wa.heap.size]? = some (.cells #[.string ⟨#[]⟩, .slice none 0 0] 35 (0, 0)) := heap_alloc_new wa _
  rw [sa] at hb
  have hs0 : (wa.alloc (.cells #[.string ⟨#[]⟩, .slice none 0 0] 35)).heap.size = w.heap.size + 1 + 1 := by rw [size_alloc, sa]
  generalize (wa.alloc (.cells #[.string ⟨#[]⟩, .slice none 0 0] 35)) = wb at nb hb hs0 ⊢
  have HX := Lib.hid (Keeps.heap nb ha (fun h => h))
  have HB := Lib.hid hb
  have hN : New w wb := na.trans nb
  clear na nb ha hb sa
  refine (HC wb hN).mono ?_
  rintro e W1 ⟨rfl, k1⟩
  replace HX := Lib.hid (Keeps.heap k1 HX.out (fun h => h))
  replace HB := Lib.hid (Keeps.heap k1 HB.out (fun h => h))
  replace hN := hN.trans k1
  have hsz : w.heap.size + 1 < W1.heap.size := (Array.getElem?_eq_some_iff.1 HB.out).1
  clear k1 hs0
  obtain ⟨r0, r1, f0, f1, hBB⟩ := sk_cells HB.out
  go_wp2_with fail
  exact bodyPost_ret (v := .tuple #[.agg #[.string ⟨#[]⟩, .slice none 0 0], I f]) (by simp [results, Try.results16, go_sem, r0, r1, f0, f1, hBB]) rfl ⟨rfl, (hN.setCell (by simp) _).setCell (by simp) _⟩
set_option maxRecDepth 100000 in
set_option maxHeartbeats 32000000 in
theorem rdraw_good (w : World) (g : Gr) (hg : GrAt w g) (hl : GLen g) (hw : ∀ x ∈ g.acts, 0 ≤ x.tag ∧ x.tag ≤ 255) (h : (findG g).1 = 0) :
    Calls Try.prog 16 #[g.v] w fun e w' => ∃ s : Sk, e = .returned (.tuple #[s.v, I 0]) ∧ SkOwn w' w.heap.size s ∧ s.bare = drawS g ∧ New w w' := by
  have HS := Lib.hid (sound_of h)
  have HC : ∀ W, New w W → Calls Try.prog 13 #[g.v] W fun en w' => en = .returned (I 0) ∧ New W w' := fun W k => by
    have := rcheck_any W g (hg.new k) hl; rwa [h] at this
  obtain ⟨it, hit, hz0, hz1, hz2⟩ := info_parts infoItem
  have HG := Lib.hid hg
  have HW := Lib.hid hw
  have hla := hl.a
  have hle := hl.e
  have hli := hl.i
  have hlo := hl.o
  clear hg hl h hw
  obtain ⟨post, hpost⟩ : ∃ post : Ending → World → Prop, (fun e w' => ∃ s : Sk, e = .returned (.tuple #[s.v, I 0]) ∧ SkOwn w' w.heap.size s ∧ s.bare = drawS g ∧ New w w') = post := ⟨_, rfl⟩
  rw [hpost]
  have HP := Lib.hid hpost
  clear hpost
  obtain ⟨aA, hA⟩ : ∃ a, g.aa = a := ⟨_, rfl⟩
  obtain ⟨aE, hE⟩ : ∃ a, g.ea = a := ⟨_, rfl⟩
  obtain ⟨aI, hI⟩ : ∃ a, g.ia = a := ⟨_, rfl⟩
  obtain ⟨aO, hO⟩ : ∃ a, g.oa = a := ⟨_, rfl⟩
  have HA := Lib.hid hA
  have HE := Lib.hid hE
  have HI := Lib.hid hI
  have HO := Lib.hid hO
  clear hA hE hI hO
  simp only [Gr.v, Gr.cs] at HC ⊢
  go_enter Try.func16, Try.ntmps16
  go_wp2_with fail
  have na : New w (w.alloc (.cells #[.string g.name, .slice g.aa g.acts.length g.ac, .slice g.ea g.edges.length g.ec, .slice g.ia g.ins.length g.ic, .slice g.oa g.outs.length g.oc] 26)) := (New.refl w).alloc _
  have ha : (w.alloc (.cells #[.string g.name, .slice g.aa g.acts.length g.ac, .slice g.ea g.edges.length g.ec, .slice g.ia g.ins.length g.ic, .slice g.oa g.outs.length g.oc] 26)).heap[w.heap.size]? = some (.cells #[.string g.name, .slice g.aa g.acts.length g.ac, .slice g.ea g.edges.length g.ec, .slice g.ia g.ins.length g.ic, .slice g.oa g.outs.length g.oc] 26 (0, 0)) := heap_alloc_new w _
  have sa : (w.alloc (.cells #[.string g.name, .slice g.aa g.acts.length g.ac, .slice g.ea g.edges.length g.ec, .slice g.ia g.ins.length g.ic, .slice g.oa g.outs.length g.oc] 26)).heap.size = w.heap.size + 1 := size_alloc _ _
  generalize (w.alloc (.cells #[.string g.name, .slice g.aa g.acts.length g.ac, .slice g.ea g.edges.length g.ec, .slice g.ia g.ins.length g.ic, .slice g.oa g.outs.length g.oc] 26)) = wa at na ha sa ⊢
  have nb : New wa (wa.alloc (.cells #[.string ⟨#[]⟩, .slice none 0 0] 35)) := (New.refl wa).alloc _
  have hb : (wa.alloc (.cells #[.string ⟨#[]⟩, .slice none 0 0] 35)).heap[wa.heap.size]? = some (.cells #[.string ⟨#[]⟩, .slice none 0 0] 35 (0, 0)) := heap_alloc_new wa _
  rw [sa] at hb
  have hs0 : (wa.alloc (.cells #[.string ⟨#[]⟩, .slice none 0 0] 35)).heap.size = w.heap.size + 1 + 1 := by rw [size_alloc, sa]
  generalize (wa.alloc (.cells #[.string ⟨#[]⟩, .slice none 0 0] 35)) = wb at nb hb hs0 ⊢
  have HX := Lib.hid (Keeps.heap nb ha (fun h => h))
  have HB := Lib.hid hb
  have hN : New w wb := na.trans nb
  clear na nb ha hb sa
  refine (HC wb hN).mono ?_
  rintro e W1 ⟨rfl, k1⟩
  replace HX := Lib.hid (Keeps.heap k1 HX.out (fun h => h))
  replace HB := Lib.hid (Keeps.heap k1 HB.out (fun h => h))
  replace hN := hN.trans k1
  have hsz : w.heap.size + 1 < W1.heap.size := (Array.getElem?_eq_some_iff.1 HB.out).1
  clear k1 hs0
  obtain ⟨g0, g1, g2, g3, g4, hGl⟩ := gr_cells HX.out
  go_wp2_with fail
  have ks : New W1 (W1.alloc (.cells #[.string g.name, .slice none 0 0] 35)) := (New.refl W1).alloc _
  have hp : (W1.alloc (.cells #[.string g.name, .slice none 0 0] 35)).heap[W1.heap.size]? = some (.cells #[.string g.name, .slice none 0 0] 35 (0, 0)) := heap_alloc_new W1 _
  generalize (W1.alloc (.cells #[.string g.name, .slice none 0 0] 35)) = W2 at ks hp ⊢
  generalize W1.heap.size = P at hp hsz ⊢
  have hD : DrawAt w g P [] ⟨g.name, none, 0, []⟩ W2 := ⟨⟨hp, ⟨World.ownsRow_nil _ _ _ _, (fun x hx => by cases hx), List.Pairwise.nil⟩⟩, rfl, rfl, hN.trans ks, Keeps.heap ks HX.out (fun h => h), Keeps.heap ks HB.out (fun h => h), hsz⟩
  have HD : Hid (DrawAt w g P ([] ++ (g.acts.take 0).map actIt) ⟨g.name, none, 0, []⟩ W2) := Lib.hid (by simpa using hD)
  clear ks hp hD HX HB hN HC g0 g1 g2 g3 g4 hGl
  go_loopw [6] (fun i wr => ∃ (k : Nat) (s : Sk), k ≤ g.acts.length ∧ i = .int .i64 k ∧ Hid (DrawAt w g P ([] ++ (g.acts.take k).map (actIt)) s wr)) (fun i _ => g.acts.length - (intOf i).toNat)
  case atStart => exact ⟨0, _, by omega, rfl, HD⟩
  case round =>
    clear HD
    obtain ⟨k, s, hk, rfl, HD⟩ := hrel
    obtain ⟨g0, g1, g2, g3, g4, hGl⟩ := gr_cells HD.out.hg
    rw [HA.out] at g1
    by_cases hk1 : k < g.acts.length
    · have hkI : (k : Int) < (g.acts.length : Int) := by omega
      have hkd : decide (k < g.acts.length) = true := decide_eq_true hk1
      have hGr := HG.out.new HD.out.nw
      obtain ⟨b, off, hab, q0, q1, q2⟩ := acts_at hGr.sa hk1
      have hbw : b < wr.heap.size := World.block_lt_of_cell? wr _ q0
      have hil : s.items.length ≤ 160 := by
        have h1 := bare_len HD.out.it
        have h2 := HS.out.na
        have h3 := HS.out.ne
        have h4 := HS.out.ni
        have h5 := HS.out.no
        simp at h1
        omega
      have e : aA = some ⟨b, off, none⟩ := HA.out.symm.trans hab
      subst e
      have HIT : Hid (∀ y : SIt, y.bare = actIt g.acts[k] → (s.items ++ [y]).map SIt.bare = [] ++ (g.acts.take (k + 1)).map (actIt)) := Lib.hid (fun y hy => bare_next HD.out.it hk1 hy)
      clear hab hGr
      have hxn := (shape_good (HS.out.act k hk1).2).2.2
      have hwt := HW.out _ (List.getElem_mem hk1)
      have HXS := fun W (n : New wr W) => ((HG.out.new HD.out.nw).ax _ (List.getElem_mem hk1)).new n
      generalize g.acts[k] = x at q0 q1 q2 hxn hwt HXS HIT
      generalize hwd : wordS x.tag = wd
      have HWD := Lib.hid hwd
      clear hwd
      go_wp2_with fail
      have kb : New wr (wr.alloc (.cells #[.string x.name, .int .u8 x.tag, .slice x.a x.xs.length x.c] 55)) := (New.refl wr).alloc _
      have hby : (wr.alloc (.cells #[.string x.name, .int .u8 x.tag, .slice x.a x.xs.length x.c] 55)).heap[wr.heap.size]? = some (.cells #[.string x.name, .int .u8 x.tag, .slice x.a x.xs.length x.c] 55 (0, 0)) := heap_alloc_new wr _
      generalize (wr.alloc (.cells #[.string x.name, .int .u8 x.tag, .slice x.a x.xs.length x.c] 55)) = w1 at kb hby ⊢
      generalize wr.heap.size = Y at hby ⊢
      replace HD := Lib.hid (HD.out.new kb)
      refine (refWord_any x.tag hwt.1 hwt.2 w1).mono ?_
      rintro e w2 ⟨rfl, k2⟩
      rw [HWD.out]
      have HY := Lib.hid (Keeps.heap k2 hby (fun h => h))
      replace HD := Lib.hid (HD.out.new k2)
      replace kb := kb.trans k2
      clear hby k2 hbw q0 q1 q2 g0 g1 g2 g3 g4 hGl
      go_wp2_with fail
      obtain ⟨-, p1, -, -, hPl⟩ := sk_cells HD.out.sk.blkP
      have hYl : Y < w2.heap.size := (Array.getElem?_eq_some_iff.1 HY.out).1
      have hdr : New w2 w2.drew := (New.refl w2).drew
      have HSn : ∀ V, New w2 V → (fun w' : World => w'.cell? ⟨P, 1, none⟩ = some (.slice s.ia s.items.length s.ic) ∧ P < w'.heap.size ∧ Y < w'.heap.size ∧ w'.cell? ⟨Y, 0, none⟩ = some (.string x.name) ∧ w'.cell? ⟨Y, 2, none⟩ = some (.slice x.a x.xs.length x.c)) V := fun V kv => ⟨kv.cell p1, Nat.lt_of_lt_of_le hPl kv.size, Nat.lt_of_lt_of_le hYl kv.size, by rw [cell_of_block (Keeps.heap kv HY.out (fun h => h)) 0]; rfl, by rw [cell_of_block (Keeps.heap kv HY.out (fun h => h)) 2]; rfl⟩
      have hS0 := HSn _ hdr
      clear p1 hPl hYl
      refine wp_region_X (fun w' : World => w'.cell? ⟨P, 1, none⟩ = some (.slice s.ia s.items.length s.ic) ∧ P < w'.heap.size ∧ Y < w'.heap.size ∧ w'.cell? ⟨Y, 0, none⟩ = some (.string x.name) ∧ w'.cell? ⟨Y, 2, none⟩ = some (.slice x.a x.xs.length x.c)) [10, 11, 12] (by kernel_rfl) hS0 ?_
      generalize w2.drew = WD at hS0 hdr ⊢
      refine anyX_take 0 (by kernel_rfl) (by kernel_rfl) (by kernel_rfl) (by kernel_rfl) (by kernel_rfl) hS0 ?_
      intro oi ho; simp only [List.getElem?_toArray, List.getElem?_cons_succ, List.getElem?_cons_zero, Option.some.injEq] at ho; subst ho
      refine ⟨?_, fun _ _ _ h => h, Or.inl ⟨by rfl, ?_⟩, ?_⟩; rotate_left 1
      · (intro wS hSw; (try dsimp only at hSw); go_simp; try with_reducible rfl)
      simp only [Act.put, List.setIfInBounds_toArray, List.set_cons_zero, List.set_cons_succ]
      refine anyX_take 1 (by kernel_rfl) (by kernel_rfl) (by kernel_rfl) (by kernel_rfl) (by kernel_rfl) hS0 ?_
      intro oi ho; simp only [List.getElem?_toArray, List.getElem?_cons_succ, List.getElem?_cons_zero, Option.some.injEq] at ho; subst ho
      refine ⟨?_, fun _ _ _ h => h, Or.inl ⟨by rfl, ?_⟩, ?_⟩; rotate_left 1
      · (intro wS hSw; (try dsimp only at hSw); go_simp; try with_reducible rfl)
      simp only [Act.put, List.setIfInBounds_toArray, List.set_cons_zero, List.set_cons_succ]
      refine anyX_take 2 (by kernel_rfl) (by kernel_rfl) (by kernel_rfl) (by kernel_rfl) (by kernel_rfl) hS0 ?_
      intro oi ho; simp only [List.getElem?_toArray, List.getElem?_cons_succ, List.getElem?_cons_zero, Option.some.injEq] at ho; subst ho
      refine ⟨?_, fun _ _ _ h => h, Or.inl ⟨by rfl, ?_⟩, ?_⟩; rotate_left 1
      · (intro wS hSw; (try dsimp only at hSw); go_simp; try with_reducible rfl)
      simp only [Act.put, List.setIfInBounds_toArray, List.set_cons_zero, List.set_cons_succ]
      refine anyX_take 3 (by kernel_rfl) (by kernel_rfl) (by kernel_rfl) (by kernel_rfl) (by kernel_rfl) hS0 ?_
      intro oi ho; simp only [List.getElem?_toArray, List.getElem?_cons_succ, List.getElem?_cons_zero, Option.some.injEq] at ho; subst ho
      refine ⟨?_, fun _ _ _ h => h, Or.inl ⟨by rfl, ?_⟩, ?_⟩; rotate_left 1
      · (intro wS hSw; (try dsimp only at hSw); go_simp; try with_reducible rfl)
      simp only [Act.put, List.setIfInBounds_toArray, List.set_cons_zero, List.set_cons_succ]
      refine anyX_take 4 (by kernel_rfl) (by kernel_rfl) (by kernel_rfl) (by kernel_rfl) (by kernel_rfl) hS0 ?_
      intro oi ho; simp only [List.getElem?_toArray, List.getElem?_cons_succ, List.getElem?_cons_zero, Option.some.injEq] at ho; subst ho
      refine ⟨?_, fun _ _ _ h => h, Or.inl ⟨by rfl, ?_⟩, ?_⟩; rotate_left 1
      · (intro wS hSw; (try dsimp only at hSw); go_simp; try with_reducible rfl)
      simp only [Act.put, List.setIfInBounds_toArray, List.set_cons_zero, List.set_cons_succ]
      refine anyX_take 5 (by kernel_rfl) (by kernel_rfl) (by kernel_rfl) (by kernel_rfl) (by kernel_rfl) hS0 ?_
      intro oi ho; simp only [List.getElem?_toArray, List.getElem?_cons_succ, List.getElem?_cons_zero, Option.some.injEq] at ho; subst ho
      refine ⟨?_, fun _ _ _ h => h, Or.inl ⟨by rfl, ?_⟩, ?_⟩; rotate_left 1
      · (intro wS hSw; (try dsimp only at hSw); go_simp; try with_reducible rfl)
      simp only [Act.put, List.setIfInBounds_toArray, List.set_cons_zero, List.set_cons_succ]
      refine anyX_take 6 (by kernel_rfl) (by kernel_rfl) (by kernel_rfl) (by kernel_rfl) (by kernel_rfl) hS0 ?_
      intro oi ho; simp only [List.getElem?_toArray, List.getElem?_cons_succ, List.getElem?_cons_zero, Option.some.injEq] at ho; subst ho
      refine ⟨?_, fun _ _ _ h => h, Or.inl ⟨by rfl, ?_⟩, ?_⟩; rotate_left 1
      · (intro wS hSw; (try dsimp only at hSw); go_simp; try with_reducible rfl)
      simp only [Act.put, List.setIfInBounds_toArray, List.set_cons_zero, List.set_cons_succ]
      refine anyX_one 7 (by kernel_rfl) ?_
      intro oi ho; simp only [List.getElem?_toArray, List.getElem?_cons_succ, List.getElem?_cons_zero, Option.some.injEq] at ho; subst ho; intro K hK
      (try simp only [Act.put, List.setIfInBounds_toArray, List.set_cons_zero, List.set_cons_succ])
      go_simp
      refine (rInts_any x.a x.c x.xs WD (HXS _ (kb.trans hdr)) (by omega)).mono ?_
      rintro e V1 ⟨a9, c9, rfl, ho9, kc1⟩
      have kd1 := hdr.trans kc1
      have hS1 := HSn _ kd1
      refine hK _ _ (fun _ => hS1) ?_
      clear hK K
      refine anyX_take 8 (by kernel_rfl) (by kernel_rfl) (by kernel_rfl) (by kernel_rfl) (by kernel_rfl) hS1 ?_
      intro oi ho; simp only [List.getElem?_toArray, List.getElem?_cons_succ, List.getElem?_cons_zero, Option.some.injEq] at ho; subst ho
      refine ⟨?_, fun _ _ _ h => h, Or.inl ⟨by rfl, ?_⟩, ?_⟩; rotate_left 1
      · (intro wS hSw; (try dsimp only at hSw); go_simp; try with_reducible rfl)
      simp only [Act.put, List.setIfInBounds_toArray, List.set_cons_zero, List.set_cons_succ]
      refine anyX_one 9 (by kernel_rfl) ?_
      intro oi ho; simp only [List.getElem?_toArray, List.getElem?_cons_succ, List.getElem?_cons_zero, Option.some.injEq] at ho; subst ho; intro K hK
      (try simp only [Act.put, List.setIfInBounds_toArray, List.set_cons_zero, List.set_cons_succ])
      go_simp
      have kl : New V1 (V1.alloc (.cells #[.int .u8 1, .string x.name, .string wd.1, .slice a9 x.xs.length c9, .string ⟨#[]⟩, I 0, I 0, .string ⟨#[]⟩, I 0, I 0, I 0] 45)) := (New.refl V1).alloc _
      have hlit : SlAt (V1.alloc (.cells #[.int .u8 1, .string x.name, .string wd.1, .slice a9 x.xs.length c9, .string ⟨#[]⟩, I 0, I 0, .string ⟨#[]⟩, I 0, I 0, I 0] 45)) (some ⟨V1.heap.size, 0, none⟩) (itCells (⟨1, x.name, wd.1, a9, c9, x.xs, ⟨#[]⟩, 0, 0, ⟨#[]⟩, 0, 0, 0⟩ : SIt)) := SlAt.lit V1 _ _
      have kz := kd1.trans kl
      have hxo : OwnI (V1.alloc (.cells #[.int .u8 1, .string x.name, .string wd.1, .slice a9 x.xs.length c9, .string ⟨#[]⟩, I 0, I 0, .string ⟨#[]⟩, I 0, I 0, I 0] 45)) w.heap.size ((⟨1, x.name, wd.1, a9, c9, x.xs, ⟨#[]⟩, 0, 0, ⟨#[]⟩, 0, 0, 0⟩ : SIt)).a ((⟨1, x.name, wd.1, a9, c9, x.xs, ⟨#[]⟩, 0, 0, ⟨#[]⟩, 0, 0, 0⟩ : SIt)).c ((⟨1, x.name, wd.1, a9, c9, x.xs, ⟨#[]⟩, 0, 0, ⟨#[]⟩, 0, 0, 0⟩ : SIt)).xs := ownsRow_le (ho9.new kl) (Nat.le_trans HD.out.nw.size hdr.size)
      have hxd : ∀ k, blk ((⟨1, x.name, wd.1, a9, c9, x.xs, ⟨#[]⟩, 0, 0, ⟨#[]⟩, 0, 0, 0⟩ : SIt)).a k → w2.heap.size ≤ k := fun k hk => Nat.le_trans hdr.size (own_of_blk ho9 hk).1
      refine hK _ _ (fun _ => HSn _ kz) ?_
      clear hK K
      generalize (V1.alloc (.cells #[.int .u8 1, .string x.name, .string wd.1, .slice a9 x.xs.length c9, .string ⟨#[]⟩, I 0, I 0, .string ⟨#[]⟩, I 0, I 0, I 0] 45)) = VZ at kl hlit kz hxo ⊢
      generalize V1.heap.size = Z at hlit ⊢
      refine anyX_one 10 (by kernel_rfl) ?_
      intro oi ho; simp only [List.getElem?_toArray, List.getElem?_cons_succ, List.getElem?_cons_zero, Option.some.injEq] at ho; subst ho; intro K hK
      refine step_app rfl _ _ 33 rfl w.heap.size 45 it _ 11 136 Try.underlying33 hit hz0 hz1 hz2 rfl (by decide) s.ia s.items.length s.ic (s.items.flatMap itCells) rfl (HD.out.new kz).sk.own.io (some ⟨Z, 0, none⟩) 1 1 (itCells (⟨1, x.name, wd.1, a9, c9, x.xs, ⟨#[]⟩, 0, 0, ⟨#[]⟩, 0, 0, 0⟩ : SIt)) rfl rfl hlit (one_it _) (by unfold maxLen; omega) (by omega) (Nat.le_trans HD.out.nw.size kz.size) ?_
      intro ao' c' wc hown' hk' hmv
      obtain ⟨⟨hv0, hfz, hPl2⟩, hDn⟩ := HD.out.add (⟨1, x.name, wd.1, a9, c9, x.xs, ⟨#[]⟩, 0, 0, ⟨#[]⟩, 0, 0, 0⟩ : SIt) hxo hxd kz (HIT.out _ (by unfold actIt; rw [HWD.out]; rfl)) hown' hk'
      have HDn := Lib.hid hDn
      refine hK _ _ (fun hx => by cases hx) ?_
      clear hK K hDn hown' hk' hmv
      refine anyX_one 11 (by kernel_rfl) ?_
      intro oi ho; simp only [List.getElem?_toArray, List.getElem?_cons_succ, List.getElem?_cons_zero, Option.some.injEq] at ho; subst ho; intro K hK
      (try simp only [Act.put, List.setIfInBounds_toArray, List.set_cons_zero, List.set_cons_succ])
      go_simp
      refine hK _ _ (fun hx => by cases hx) ?_
      clear hK K
      refine anyX_one 12 (by kernel_rfl) ?_
      intro oi ho; simp only [List.getElem?_toArray, List.getElem?_cons_succ, List.getElem?_cons_zero, Option.some.injEq] at ho; subst ho; intro K hK
      (try simp only [Act.put, List.setIfInBounds_toArray, List.set_cons_zero, List.set_cons_succ])
      go_simp
      refine hK _ _ (fun hx => by cases hx) ?_
      clear hK K
      refine anyX_done (by kernel_rfl) ?_
      (try simp only [Act.put, List.setIfInBounds_toArray, List.set_cons_zero, List.set_cons_succ])
      clear hS0 HSn
      (try simp only [Exit.then])
      go_wp2_with fail
      go_roundw
      case rel => exact ⟨k + 1, _, by omega, by go_num, HDn⟩
      case measure => simp [intOf]; omega
    · have hke : k = g.acts.length := by omega
      have hkd : decide (k < g.acts.length) = false := decide_eq_false hk1
      rw [hke, List.take_length] at HD
      clear hke hk hk1
      go_wp2_with fail
      clear g0 g1 g2 g3 g4 hGl
      have HD0 : Hid (DrawAt w g P (([] ++ g.acts.map actIt) ++ (g.edges.take 0).map (edgeIt g)) s wr) := Lib.hid (by simpa using HD.out)
      replace HD := HD0
      clear HD0
      go_loopw [10] (fun i wr => ∃ (k : Nat) (s : Sk), k ≤ g.edges.length ∧ i = .int .i64 k ∧ Hid (DrawAt w g P (([] ++ g.acts.map actIt) ++ (g.edges.take k).map (edgeIt g)) s wr)) (fun i _ => g.edges.length - (intOf i).toNat)
      case atStart => exact ⟨0, _, by omega, rfl, HD⟩
      case round =>
        clear HD
        obtain ⟨k, s, hk, rfl, HD⟩ := hrel
        obtain ⟨g0, g1, g2, g3, g4, hGl⟩ := gr_cells HD.out.hg
        rw [HE.out] at g2
        by_cases hk1 : k < g.edges.length
        · have hkI : (k : Int) < (g.edges.length : Int) := by omega
          have hkd : decide (k < g.edges.length) = true := decide_eq_true hk1
          have hGr := HG.out.new HD.out.nw
          obtain ⟨b, off, hab, q0, q1, q2, q3, q4⟩ := gedges_at hGr.se hk1
          have hbw : b < wr.heap.size := World.block_lt_of_cell? wr _ q0
          have hil : s.items.length ≤ 160 := by
            have h1 := bare_len HD.out.it
            have h2 := HS.out.na
            have h3 := HS.out.ne
            have h4 := HS.out.ni
            have h5 := HS.out.no
            simp at h1
            omega
          have e : aE = some ⟨b, off, none⟩ := HE.out.symm.trans hab
          subst e
          have HIT : Hid (∀ y : SIt, y.bare = edgeIt g g.edges[k] → (s.items ++ [y]).map SIt.bare = ([] ++ g.acts.map actIt) ++ (g.edges.take (k + 1)).map (edgeIt g)) := Lib.hid (fun y hy => bare_next HD.out.it hk1 hy)
          clear hab hGr
          have hxn := (HS.out.edge k hk1).2.2
          have HXS := fun W (n : New wr W) => ((HG.out.new HD.out.nw).ex _ (List.getElem_mem hk1)).new n
          obtain ⟨xf, hxf, ef, -⟩ := endE_zero (HS.out.edge k hk1).1
          obtain ⟨xt, hxt, et, -⟩ := endE_zero (HS.out.edge k hk1).2.1
          generalize g.edges[k] = x at q0 q1 q2 q3 q4 hxn HXS HIT ef et
          obtain ⟨f1, fp, t1, tp, xa, xc, xs⟩ := x
          simp only at q0 q1 q2 q3 q4 hxn HXS ef et
          subst ef et
          go_wp2_with fail
          have kb : New wr (wr.alloc (.cells #[I xf, I fp, I xt, I tp, .slice xa xs.length xc] 58)) := (New.refl wr).alloc _
          have hby : (wr.alloc (.cells #[I xf, I fp, I xt, I tp, .slice xa xs.length xc] 58)).heap[wr.heap.size]? = some (.cells #[I xf, I fp, I xt, I tp, .slice xa xs.length xc] 58 (0, 0)) := heap_alloc_new wr _
          generalize (wr.alloc (.cells #[I xf, I fp, I xt, I tp, .slice xa xs.length xc] 58)) = w1 at kb hby ⊢
          generalize wr.heap.size = Y at hby ⊢
          replace HD := Lib.hid (HD.out.new kb)
          have HY := Lib.hid hby
          have kb0 := kb
          clear hby kb hbw
          have kb : Hid (∀ V, New w1 V → SlAt V xa (Is xs)) := Lib.hid (fun V n => HXS V (kb0.trans n))
          clear HXS kb0 q0 q1 q2 q3 q4 g0 g1 g2 g3 g4 hGl
          obtain ⟨ba, oa, ea, n0, -, -⟩ := acts_at (HG.out.new HD.out.nw).sa hxf
          have hab := HA.out.symm.trans ea
          subst hab
          have HNF := Lib.hid (nameAt_is g hxf)
          generalize g.acts[xf].name = nF at n0 HNF
          obtain ⟨g0, g1, g2, g3, g4, hGl⟩ := gr_cells HD.out.hg
          rw [HA.out] at g1
          clear ea
          obtain ⟨y0, y1, y2, y3, y4, hYl⟩ := edge_cells HY.out
          have hxI : (xf : Int) < (g.acts.length : Int) := by omega
          have hdr : New w1 w1.drew := (New.refl w1).drew
          have HSn : ∀ V, New w1 V → (fun w' : World => w'.cell? ⟨w.heap.size, 1, none⟩ = some (.slice (some ⟨ba, oa, none⟩) g.acts.length g.ac) ∧ w'.cell? ⟨ba, oa + xf * 3, none⟩ = some (.string nF) ∧ w'.cell? ⟨Y, 0, none⟩ = some (I xf) ∧ w'.cell? ⟨Y, 1, none⟩ = some (I fp) ∧ New w1 w') V := fun V kv => ⟨kv.cell g1, kv.cell n0, kv.cell y0, kv.cell y1, kv⟩
          have hS0 := HSn _ hdr
          clear g0 g1 g2 g3 g4 hGl y0 y1 y2 y3 y4 hYl n0
          go_wp2_with fail
          refine wp_region_X (fun w' : World => w'.cell? ⟨w.heap.size, 1, none⟩ = some (.slice (some ⟨ba, oa, none⟩) g.acts.length g.ac) ∧ w'.cell? ⟨ba, oa + xf * 3, none⟩ = some (.string nF) ∧ w'.cell? ⟨Y, 0, none⟩ = some (I xf) ∧ w'.cell? ⟨Y, 1, none⟩ = some (I fp) ∧ New w1 w') [11] (by kernel_rfl) hS0 ?_
          refine anyX_take 0 (by kernel_rfl) (by kernel_rfl) (by kernel_rfl) (by kernel_rfl) (by kernel_rfl) hS0 ?_
          intro oi ho; simp only [List.getElem?_toArray, List.getElem?_cons_succ, List.getElem?_cons_zero, Option.some.injEq] at ho; subst ho
          refine ⟨?_, fun _ _ _ h => h, Or.inl ⟨by rfl, ?_⟩, ?_⟩; rotate_left 1
          · (intro wS hSw; (try dsimp only at hSw); go_simp; try with_reducible rfl)
          simp only [Act.put, List.setIfInBounds_toArray, List.set_cons_zero, List.set_cons_succ]
          refine anyX_take 1 (by kernel_rfl) (by kernel_rfl) (by kernel_rfl) (by kernel_rfl) (by kernel_rfl) hS0 ?_
          intro oi ho; simp only [List.getElem?_toArray, List.getElem?_cons_succ, List.getElem?_cons_zero, Option.some.injEq] at ho; subst ho
          refine ⟨?_, fun _ _ _ h => h, Or.inl ⟨by rfl, ?_⟩, ?_⟩; rotate_left 1
          · (intro wS hSw; (try dsimp only at hSw); go_simp; try with_reducible rfl)
          simp only [Act.put, List.setIfInBounds_toArray, List.set_cons_zero, List.set_cons_succ]
          refine anyX_take 2 (by kernel_rfl) (by kernel_rfl) (by kernel_rfl) (by kernel_rfl) (by kernel_rfl) hS0 ?_
          intro oi ho; simp only [List.getElem?_toArray, List.getElem?_cons_succ, List.getElem?_cons_zero, Option.some.injEq] at ho; subst ho
          refine ⟨?_, fun _ _ _ h => h, Or.inl ⟨by rfl, ?_⟩, ?_⟩; rotate_left 1
          · (intro wS hSw; (try dsimp only at hSw); go_simp; try with_reducible rfl)
          simp only [Act.put, List.setIfInBounds_toArray, List.set_cons_zero, List.set_cons_succ]
          refine anyX_take 3 (by kernel_rfl) (by kernel_rfl) (by kernel_rfl) (by kernel_rfl) (by kernel_rfl) hS0 ?_
          intro oi ho; simp only [List.getElem?_toArray, List.getElem?_cons_succ, List.getElem?_cons_zero, Option.some.injEq] at ho; subst ho
          refine ⟨?_, fun _ _ _ h => h, Or.inl ⟨by rfl, ?_⟩, ?_⟩; rotate_left 1
          · (intro wS hSw; (try dsimp only at hSw); go_simp; try with_reducible rfl)
          simp only [Act.put, List.setIfInBounds_toArray, List.set_cons_zero, List.set_cons_succ]
          refine anyX_take 4 (by kernel_rfl) (by kernel_rfl) (by kernel_rfl) (by kernel_rfl) (by kernel_rfl) hS0 ?_
          intro oi ho; simp only [List.getElem?_toArray, List.getElem?_cons_succ, List.getElem?_cons_zero, Option.some.injEq] at ho; subst ho
          refine ⟨?_, fun _ _ _ h => h, Or.inl ⟨by rfl, ?_⟩, ?_⟩; rotate_left 1
          · (intro wS hSw; (try dsimp only at hSw); go_simp; try with_reducible rfl)
          simp only [Act.put, List.setIfInBounds_toArray, List.set_cons_zero, List.set_cons_succ]
          refine anyX_take 5 (by kernel_rfl) (by kernel_rfl) (by kernel_rfl) (by kernel_rfl) (by kernel_rfl) hS0 ?_
          intro oi ho; simp only [List.getElem?_toArray, List.getElem?_cons_succ, List.getElem?_cons_zero, Option.some.injEq] at ho; subst ho
          refine ⟨?_, fun _ _ _ h => h, Or.inl ⟨by rfl, ?_⟩, ?_⟩; rotate_left 1
          · (intro wS hSw; (try dsimp only at hSw); go_simp; try with_reducible rfl)
          simp only [Act.put, List.setIfInBounds_toArray, List.set_cons_zero, List.set_cons_succ]
          refine anyX_take 6 (by kernel_rfl) (by kernel_rfl) (by kernel_rfl) (by kernel_rfl) (by kernel_rfl) hS0 ?_
          intro oi ho; simp only [List.getElem?_toArray, List.getElem?_cons_succ, List.getElem?_cons_zero, Option.some.injEq] at ho; subst ho
          refine ⟨?_, fun _ _ _ h => h, Or.inl ⟨by rfl, ?_⟩, ?_⟩; rotate_left 1
          · (intro wS hSw; (try dsimp only at hSw); go_simp; try with_reducible rfl)
          simp only [Act.put, List.setIfInBounds_toArray, List.set_cons_zero, List.set_cons_succ]
          refine anyX_take 7 (by kernel_rfl) (by kernel_rfl) (by kernel_rfl) (by kernel_rfl) (by kernel_rfl) hS0 ?_
          intro oi ho; simp only [List.getElem?_toArray, List.getElem?_cons_succ, List.getElem?_cons_zero, Option.some.injEq] at ho; subst ho
          refine ⟨?_, fun _ _ _ h => h, Or.inl ⟨by rfl, ?_⟩, ?_⟩; rotate_left 1
          · (intro wS hSw; (try dsimp only at hSw); go_simp; try with_reducible rfl)
          simp only [Act.put, List.setIfInBounds_toArray, List.set_cons_zero, List.set_cons_succ]
          refine anyX_take 8 (by kernel_rfl) (by kernel_rfl) (by kernel_rfl) (by kernel_rfl) (by kernel_rfl) hS0 ?_
          intro oi ho; simp only [List.getElem?_toArray, List.getElem?_cons_succ, List.getElem?_cons_zero, Option.some.injEq] at ho; subst ho
          refine ⟨?_, fun _ _ _ h => h, Or.inl ⟨by rfl, ?_⟩, ?_⟩; rotate_left 1
          · (intro wS hSw; (try dsimp only at hSw); go_simp; try with_reducible rfl)
          simp only [Act.put, List.setIfInBounds_toArray, List.set_cons_zero, List.set_cons_succ]
          refine anyX_take 9 (by kernel_rfl) (by kernel_rfl) (by kernel_rfl) (by kernel_rfl) (by kernel_rfl) hS0 ?_
          intro oi ho; simp only [List.getElem?_toArray, List.getElem?_cons_succ, List.getElem?_cons_zero, Option.some.injEq] at ho; subst ho
          refine ⟨?_, fun _ _ _ h => h, Or.inl ⟨by rfl, ?_⟩, ?_⟩; rotate_left 1
          · (intro wS hSw; (try dsimp only at hSw); go_simp; try with_reducible rfl)
          simp only [Act.put, List.setIfInBounds_toArray, List.set_cons_zero, List.set_cons_succ]
          refine anyX_one 10 (by kernel_rfl) ?_
          intro oi ho; simp only [List.getElem?_toArray, List.getElem?_cons_succ, List.getElem?_cons_zero, Option.some.injEq] at ho; subst ho; intro K hK
          (try simp only [Act.put, List.setIfInBounds_toArray, List.set_cons_zero, List.set_cons_succ])
          go_simp
          refine hK _ _ (fun _ => HSn _ (((New.refl w1).alloc _).drew)) ?_
          clear hK K
          refine anyX_one 11 (by kernel_rfl) ?_
          intro oi ho; simp only [List.getElem?_toArray, List.getElem?_cons_succ, List.getElem?_cons_zero, Option.some.injEq] at ho; subst ho; intro K hK
          (try simp only [Act.put, List.setIfInBounds_toArray, List.set_cons_zero, List.set_cons_succ])
          go_simp
          refine hK _ _ (fun hx => by cases hx) ?_
          clear hK K
          refine anyX_done (by kernel_rfl) ?_
          (try simp only [Act.put, List.setIfInBounds_toArray, List.set_cons_zero, List.set_cons_succ])
          (try simp only [Exit.then])
          clear hS0 HSn
          have kE : New w1 (w1.alloc (.cells #[.string nF, I fp, I 0] 43)).drew := ((New.refl w1).alloc _).drew
          have hE : (w1.alloc (.cells #[.string nF, I fp, I 0] 43)).drew.heap[w1.heap.size]? = some (.cells #[.string nF, I fp, I 0] 43 (0, 0)) := Keeps.heap ((New.refl (w1.alloc (.cells #[.string nF, I fp, I 0] 43))).drew) (heap_alloc_new w1 _) (fun h => h)
          generalize (w1.alloc (.cells #[.string nF, I fp, I 0] 43)).drew = w2 at kE hE ⊢
          generalize w1.heap.size = Z1 at hE ⊢
          replace HD := Lib.hid (HD.out.new kE)
          replace HY := Lib.hid (Keeps.heap kE HY.out (fun h => h))
          have knF := kE
          have HZ1 := Lib.hid hE
          clear hE kE hdr
          obtain ⟨ba2, oa2, ea, n0, -, -⟩ := acts_at (HG.out.new HD.out.nw).sa hxt
          have hab := HA.out.symm.trans ea
          simp only [Option.some.injEq, Addr.mk.injEq, and_true] at hab
          obtain ⟨rfl, rfl⟩ := hab
          have HNT := Lib.hid (nameAt_is g hxt)
          generalize g.acts[xt].name = nT at n0 HNT
          obtain ⟨g0, g1, g2, g3, g4, hGl⟩ := gr_cells HD.out.hg
          rw [HA.out] at g1
          clear ea
          obtain ⟨y0, y1, y2, y3, y4, hYl⟩ := edge_cells HY.out
          have hxI : (xt : Int) < (g.acts.length : Int) := by omega
          have hdr : New w2 w2.drew := (New.refl w2).drew
          have HSn : ∀ V, New w2 V → (fun w' : World => w'.cell? ⟨w.heap.size, 1, none⟩ = some (.slice (some ⟨ba, oa, none⟩) g.acts.length g.ac) ∧ w'.cell? ⟨ba, oa + xt * 3, none⟩ = some (.string nT) ∧ w'.cell? ⟨Y, 2, none⟩ = some (I xt) ∧ w'.cell? ⟨Y, 3, none⟩ = some (I tp) ∧ New w2 w') V := fun V kv => ⟨kv.cell g1, kv.cell n0, kv.cell y2, kv.cell y3, kv⟩
          have hS0 := HSn _ hdr
          clear g0 g1 g2 g3 g4 hGl y0 y1 y2 y3 y4 hYl n0
          go_wp2_with fail
          refine wp_region_X (fun w' : World => w'.cell? ⟨w.heap.size, 1, none⟩ = some (.slice (some ⟨ba, oa, none⟩) g.acts.length g.ac) ∧ w'.cell? ⟨ba, oa + xt * 3, none⟩ = some (.string nT) ∧ w'.cell? ⟨Y, 2, none⟩ = some (I xt) ∧ w'.cell? ⟨Y, 3, none⟩ = some (I tp) ∧ New w2 w') [11] (by kernel_rfl) hS0 ?_
          refine anyX_take 0 (by kernel_rfl) (by kernel_rfl) (by kernel_rfl) (by kernel_rfl) (by kernel_rfl) hS0 ?_
          intro oi ho; simp only [List.getElem?_toArray, List.getElem?_cons_succ, List.getElem?_cons_zero, Option.some.injEq] at ho; subst ho
          refine ⟨?_, fun _ _ _ h => h, Or.inl ⟨by rfl, ?_⟩, ?_⟩; rotate_left 1
          · (intro wS hSw; (try dsimp only at hSw); go_simp; try with_reducible rfl)
          simp only [Act.put, List.setIfInBounds_toArray, List.set_cons_zero, List.set_cons_succ]
          refine anyX_take 1 (by kernel_rfl) (by kernel_rfl) (by kernel_rfl) (by kernel_rfl) (by kernel_rfl) hS0 ?_
          intro oi ho; simp only [List.getElem?_toArray, List.getElem?_cons_succ, List.getElem?_cons_zero, Option.some.injEq] at ho; subst ho
          refine ⟨?_, fun _ _ _ h => h, Or.inl ⟨by rfl, ?_⟩, ?_⟩; rotate_left 1
          · (intro wS hSw; (try dsimp only at hSw); go_simp; try with_reducible rfl)
          simp only [Act.put, List.setIfInBounds_toArray, List.set_cons_zero, List.set_cons_succ]
          refine anyX_take 2 (by kernel_rfl) (by kernel_rfl) (by kernel_rfl) (by kernel_rfl) (by kernel_rfl) hS0 ?_
          intro oi ho; simp only [List.getElem?_toArray, List.getElem?_cons_succ, List.getElem?_cons_zero, Option.some.injEq] at ho; subst ho
          refine ⟨?_, fun _ _ _ h => h, Or.inl ⟨by rfl, ?_⟩, ?_⟩; rotate_left 1
          · (intro wS hSw; (try dsimp only at hSw); go_simp; try with_reducible rfl)
          simp only [Act.put, List.setIfInBounds_toArray, List.set_cons_zero, List.set_cons_succ]
          refine anyX_take 3 (by kernel_rfl) (by kernel_rfl) (by kernel_rfl) (by kernel_rfl) (by kernel_rfl) hS0 ?_
          intro oi ho; simp only [List.getElem?_toArray, List.getElem?_cons_succ, List.getElem?_cons_zero, Option.some.injEq] at ho; subst ho
          refine ⟨?_, fun _ _ _ h => h, Or.inl ⟨by rfl, ?_⟩, ?_⟩; rotate_left 1
          · (intro wS hSw; (try dsimp only at hSw); go_simp; try with_reducible rfl)
          simp only [Act.put, List.setIfInBounds_toArray, List.set_cons_zero, List.set_cons_succ]
          refine anyX_take 4 (by kernel_rfl) (by kernel_rfl) (by kernel_rfl) (by kernel_rfl) (by kernel_rfl) hS0 ?_
          intro oi ho; simp only [List.getElem?_toArray, List.getElem?_cons_succ, List.getElem?_cons_zero, Option.some.injEq] at ho; subst ho
          refine ⟨?_, fun _ _ _ h => h, Or.inl ⟨by rfl, ?_⟩, ?_⟩; rotate_left 1
          · (intro wS hSw; (try dsimp only at hSw); go_simp; try with_reducible rfl)
          simp only [Act.put, List.setIfInBounds_toArray, List.set_cons_zero, List.set_cons_succ]
          refine anyX_take 5 (by kernel_rfl) (by kernel_rfl) (by kernel_rfl) (by kernel_rfl) (by kernel_rfl) hS0 ?_
          intro oi ho; simp only [List.getElem?_toArray, List.getElem?_cons_succ, List.getElem?_cons_zero, Option.some.injEq] at ho; subst ho
          refine ⟨?_, fun _ _ _ h => h, Or.inl ⟨by rfl, ?_⟩, ?_⟩; rotate_left 1
          · (intro wS hSw; (try dsimp only at hSw); go_simp; try with_reducible rfl)
          simp only [Act.put, List.setIfInBounds_toArray, List.set_cons_zero, List.set_cons_succ]
          refine anyX_take 6 (by kernel_rfl) (by kernel_rfl) (by kernel_rfl) (by kernel_rfl) (by kernel_rfl) hS0 ?_
          intro oi ho; simp only [List.getElem?_toArray, List.getElem?_cons_succ, List.getElem?_cons_zero, Option.some.injEq] at ho; subst ho
          refine ⟨?_, fun _ _ _ h => h, Or.inl ⟨by rfl, ?_⟩, ?_⟩; rotate_left 1
          · (intro wS hSw; (try dsimp only at hSw); go_simp; try with_reducible rfl)
          simp only [Act.put, List.setIfInBounds_toArray, List.set_cons_zero, List.set_cons_succ]
          refine anyX_take 7 (by kernel_rfl) (by kernel_rfl) (by kernel_rfl) (by kernel_rfl) (by kernel_rfl) hS0 ?_
          intro oi ho; simp only [List.getElem?_toArray, List.getElem?_cons_succ, List.getElem?_cons_zero, Option.some.injEq] at ho; subst ho
          refine ⟨?_, fun _ _ _ h => h, Or.inl ⟨by rfl, ?_⟩, ?_⟩; rotate_left 1
          · (intro wS hSw; (try dsimp only at hSw); go_simp; try with_reducible rfl)
          simp only [Act.put, List.setIfInBounds_toArray, List.set_cons_zero, List.set_cons_succ]
          refine anyX_take 8 (by kernel_rfl) (by kernel_rfl) (by kernel_rfl) (by kernel_rfl) (by kernel_rfl) hS0 ?_
          intro oi ho; simp only [List.getElem?_toArray, List.getElem?_cons_succ, List.getElem?_cons_zero, Option.some.injEq] at ho; subst ho
          refine ⟨?_, fun _ _ _ h => h, Or.inl ⟨by rfl, ?_⟩, ?_⟩; rotate_left 1
          · (intro wS hSw; (try dsimp only at hSw); go_simp; try with_reducible rfl)
          simp only [Act.put, List.setIfInBounds_toArray, List.set_cons_zero, List.set_cons_succ]
          refine anyX_take 9 (by kernel_rfl) (by kernel_rfl) (by kernel_rfl) (by kernel_rfl) (by kernel_rfl) hS0 ?_
          intro oi ho; simp only [List.getElem?_toArray, List.getElem?_cons_succ, List.getElem?_cons_zero, Option.some.injEq] at ho; subst ho
          refine ⟨?_, fun _ _ _ h => h, Or.inl ⟨by rfl, ?_⟩, ?_⟩; rotate_left 1
          · (intro wS hSw; (try dsimp only at hSw); go_simp; try with_reducible rfl)
          simp only [Act.put, List.setIfInBounds_toArray, List.set_cons_zero, List.set_cons_succ]
          refine anyX_one 10 (by kernel_rfl) ?_
          intro oi ho; simp only [List.getElem?_toArray, List.getElem?_cons_succ, List.getElem?_cons_zero, Option.some.injEq] at ho; subst ho; intro K hK
          (try simp only [Act.put, List.setIfInBounds_toArray, List.set_cons_zero, List.set_cons_succ])
          go_simp
          refine hK _ _ (fun _ => HSn _ (((New.refl w2).alloc _).drew)) ?_
          clear hK K
          refine anyX_one 11 (by kernel_rfl) ?_
          intro oi ho; simp only [List.getElem?_toArray, List.getElem?_cons_succ, List.getElem?_cons_zero, Option.some.injEq] at ho; subst ho; intro K hK
          (try simp only [Act.put, List.setIfInBounds_toArray, List.set_cons_zero, List.set_cons_succ])
          go_simp
          refine hK _ _ (fun hx => by cases hx) ?_
          clear hK K
          refine anyX_done (by kernel_rfl) ?_
          (try simp only [Act.put, List.setIfInBounds_toArray, List.set_cons_zero, List.set_cons_succ])
          (try simp only [Exit.then])
          clear hS0 HSn
          have kE : New w2 (w2.alloc (.cells #[.string nT, I tp, I 0] 43)).drew := ((New.refl w2).alloc _).drew
          have hE : (w2.alloc (.cells #[.string nT, I tp, I 0] 43)).drew.heap[w2.heap.size]? = some (.cells #[.string nT, I tp, I 0] 43 (0, 0)) := Keeps.heap ((New.refl (w2.alloc (.cells #[.string nT, I tp, I 0] 43))).drew) (heap_alloc_new w2 _) (fun h => h)
          generalize (w2.alloc (.cells #[.string nT, I tp, I 0] 43)).drew = w3 at kE hE ⊢
          generalize w2.heap.size = Z2 at hE ⊢
          replace HD := Lib.hid (HD.out.new kE)
          replace HY := Lib.hid (Keeps.heap kE HY.out (fun h => h))
          have knT := kE
          have HZ2 := Lib.hid hE
          clear hE kE hdr
          replace HZ1 := Lib.hid (Keeps.heap knT HZ1.out (fun h => h))
          obtain ⟨e0, e1, e2, -⟩ := end_cells HZ1.out
          obtain ⟨f0, f1, f2, -⟩ := end_cells HZ2.out
          have knn := knF.trans knT
          clear knF knT
          go_wp2_with fail
          obtain ⟨-, p1, -, -, hPl⟩ := sk_cells HD.out.sk.blkP
          have hYl : Y < w3.heap.size := (Array.getElem?_eq_some_iff.1 HY.out).1
          have hdr : New w3 w3.drew := (New.refl w3).drew
          have HSn : ∀ V, New w3 V → (fun w' : World => w'.cell? ⟨P, 1, none⟩ = some (.slice s.ia s.items.length s.ic) ∧ P < w'.heap.size ∧ Y < w'.heap.size ∧ w'.cell? ⟨Y, 4, none⟩ = some (.slice xa xs.length xc) ∧ w'.cell? ⟨Z1, 0, none⟩ = some (.string nF) ∧ w'.cell? ⟨Z1, 1, none⟩ = some (I fp) ∧ w'.cell? ⟨Z1, 2, none⟩ = some (I 0) ∧ w'.cell? ⟨Z2, 0, none⟩ = some (.string nT) ∧ w'.cell? ⟨Z2, 1, none⟩ = some (I tp) ∧ w'.cell? ⟨Z2, 2, none⟩ = some (I 0)) V := fun V kv => ⟨kv.cell p1, Nat.lt_of_lt_of_le hPl kv.size, Nat.lt_of_lt_of_le hYl kv.size, by rw [cell_of_block (Keeps.heap kv HY.out (fun h => h)) 4]; rfl, kv.cell e0, kv.cell e1, kv.cell e2, kv.cell f0, kv.cell f1, kv.cell f2⟩
          have hS0 := HSn _ hdr
          clear p1 hPl hYl
          refine wp_region_X (fun w' : World => w'.cell? ⟨P, 1, none⟩ = some (.slice s.ia s.items.length s.ic) ∧ P < w'.heap.size ∧ Y < w'.heap.size ∧ w'.cell? ⟨Y, 4, none⟩ = some (.slice xa xs.length xc) ∧ w'.cell? ⟨Z1, 0, none⟩ = some (.string nF) ∧ w'.cell? ⟨Z1, 1, none⟩ = some (I fp) ∧ w'.cell? ⟨Z1, 2, none⟩ = some (I 0) ∧ w'.cell? ⟨Z2, 0, none⟩ = some (.string nT) ∧ w'.cell? ⟨Z2, 1, none⟩ = some (I tp) ∧ w'.cell? ⟨Z2, 2, none⟩ = some (I 0)) [9, 10, 11] (by kernel_rfl) hS0 ?_
          generalize w3.drew = WD at hS0 hdr ⊢
          refine anyX_take 0 (by kernel_rfl) (by kernel_rfl) (by kernel_rfl) (by kernel_rfl) (by kernel_rfl) hS0 ?_
          intro oi ho; simp only [List.getElem?_toArray, List.getElem?_cons_succ, List.getElem?_cons_zero, Option.some.injEq] at ho; subst ho
          refine ⟨?_, fun _ _ _ h => h, Or.inl ⟨by rfl, ?_⟩, ?_⟩; rotate_left 1
          · (intro wS hSw; (try dsimp only at hSw); go_simp; try with_reducible rfl)
          simp only [Act.put, List.setIfInBounds_toArray, List.set_cons_zero, List.set_cons_succ]
          refine anyX_take 1 (by kernel_rfl) (by kernel_rfl) (by kernel_rfl) (by kernel_rfl) (by kernel_rfl) hS0 ?_
          intro oi ho; simp only [List.getElem?_toArray, List.getElem?_cons_succ, List.getElem?_cons_zero, Option.some.injEq] at ho; subst ho
          refine ⟨?_, fun _ _ _ h => h, Or.inl ⟨by rfl, ?_⟩, ?_⟩; rotate_left 1
          · (intro wS hSw; (try dsimp only at hSw); go_simp; try with_reducible rfl)
          simp only [Act.put, List.setIfInBounds_toArray, List.set_cons_zero, List.set_cons_succ]
          refine anyX_take 2 (by kernel_rfl) (by kernel_rfl) (by kernel_rfl) (by kernel_rfl) (by kernel_rfl) hS0 ?_
          intro oi ho; simp only [List.getElem?_toArray, List.getElem?_cons_succ, List.getElem?_cons_zero, Option.some.injEq] at ho; subst ho
          refine ⟨?_, fun _ _ _ h => h, Or.inl ⟨by rfl, ?_⟩, ?_⟩; rotate_left 1
          · (intro wS hSw; (try dsimp only at hSw); go_simp; try with_reducible rfl)
          simp only [Act.put, List.setIfInBounds_toArray, List.set_cons_zero, List.set_cons_succ]
          refine anyX_take 3 (by kernel_rfl) (by kernel_rfl) (by kernel_rfl) (by kernel_rfl) (by kernel_rfl) hS0 ?_
          intro oi ho; simp only [List.getElem?_toArray, List.getElem?_cons_succ, List.getElem?_cons_zero, Option.some.injEq] at ho; subst ho
          refine ⟨?_, fun _ _ _ h => h, Or.inl ⟨by rfl, ?_⟩, ?_⟩; rotate_left 1
          · (intro wS hSw; (try dsimp only at hSw); go_simp; try with_reducible rfl)
          simp only [Act.put, List.setIfInBounds_toArray, List.set_cons_zero, List.set_cons_succ]
          refine anyX_take 4 (by kernel_rfl) (by kernel_rfl) (by kernel_rfl) (by kernel_rfl) (by kernel_rfl) hS0 ?_
          intro oi ho; simp only [List.getElem?_toArray, List.getElem?_cons_succ, List.getElem?_cons_zero, Option.some.injEq] at ho; subst ho
          refine ⟨?_, fun _ _ _ h => h, Or.inl ⟨by rfl, ?_⟩, ?_⟩; rotate_left 1
          · (intro wS hSw; (try dsimp only at hSw); go_simp; try with_reducible rfl)
          simp only [Act.put, List.setIfInBounds_toArray, List.set_cons_zero, List.set_cons_succ]
          refine anyX_take 5 (by kernel_rfl) (by kernel_rfl) (by kernel_rfl) (by kernel_rfl) (by kernel_rfl) hS0 ?_
          intro oi ho; simp only [List.getElem?_toArray, List.getElem?_cons_succ, List.getElem?_cons_zero, Option.some.injEq] at ho; subst ho
          refine ⟨?_, fun _ _ _ h => h, Or.inl ⟨by rfl, ?_⟩, ?_⟩; rotate_left 1
          · (intro wS hSw; (try dsimp only at hSw); go_simp; try with_reducible rfl)
          simp only [Act.put, List.setIfInBounds_toArray, List.set_cons_zero, List.set_cons_succ]
          refine anyX_one 6 (by kernel_rfl) ?_
          intro oi ho; simp only [List.getElem?_toArray, List.getElem?_cons_succ, List.getElem?_cons_zero, Option.some.injEq] at ho; subst ho; intro K hK
          (try simp only [Act.put, List.setIfInBounds_toArray, List.set_cons_zero, List.set_cons_succ])
          go_simp
          refine (rInts_any xa xc xs WD (kb.out _ (knn.trans hdr)) (by omega)).mono ?_
          rintro e V1 ⟨a9, c9, rfl, ho9, kc1⟩
          have kd1 := hdr.trans kc1
          have hS1 := HSn _ kd1
          refine hK _ _ (fun _ => hS1) ?_
          clear hK K
          refine anyX_take 7 (by kernel_rfl) (by kernel_rfl) (by kernel_rfl) (by kernel_rfl) (by kernel_rfl) hS1 ?_
          intro oi ho; simp only [List.getElem?_toArray, List.getElem?_cons_succ, List.getElem?_cons_zero, Option.some.injEq] at ho; subst ho
          refine ⟨?_, fun _ _ _ h => h, Or.inl ⟨by rfl, ?_⟩, ?_⟩; rotate_left 1
          · (intro wS hSw; (try dsimp only at hSw); go_simp; try with_reducible rfl)
          simp only [Act.put, List.setIfInBounds_toArray, List.set_cons_zero, List.set_cons_succ]
          refine anyX_one 8 (by kernel_rfl) ?_
          intro oi ho; simp only [List.getElem?_toArray, List.getElem?_cons_succ, List.getElem?_cons_zero, Option.some.injEq] at ho; subst ho; intro K hK
          (try simp only [Act.put, List.setIfInBounds_toArray, List.set_cons_zero, List.set_cons_succ])
          go_simp
          have kl : New V1 (V1.alloc (.cells #[.int .u8 2, .string ⟨#[]⟩, .string ⟨#[]⟩, .slice a9 xs.length c9, .string nF, I fp, I 0, .string nT, I tp, I 0, I 0] 45)) := (New.refl V1).alloc _
          have hlit : SlAt (V1.alloc (.cells #[.int .u8 2, .string ⟨#[]⟩, .string ⟨#[]⟩, .slice a9 xs.length c9, .string nF, I fp, I 0, .string nT, I tp, I 0, I 0] 45)) (some ⟨V1.heap.size, 0, none⟩) (itCells (⟨2, ⟨#[]⟩, ⟨#[]⟩, a9, c9, xs, nF, fp, 0, nT, tp, 0, 0⟩ : SIt)) := SlAt.lit V1 _ _
          have kz := kd1.trans kl
          have hxo : OwnI (V1.alloc (.cells #[.int .u8 2, .string ⟨#[]⟩, .string ⟨#[]⟩, .slice a9 xs.length c9, .string nF, I fp, I 0, .string nT, I tp, I 0, I 0] 45)) w.heap.size ((⟨2, ⟨#[]⟩, ⟨#[]⟩, a9, c9, xs, nF, fp, 0, nT, tp, 0, 0⟩ : SIt)).a ((⟨2, ⟨#[]⟩, ⟨#[]⟩, a9, c9, xs, nF, fp, 0, nT, tp, 0, 0⟩ : SIt)).c ((⟨2, ⟨#[]⟩, ⟨#[]⟩, a9, c9, xs, nF, fp, 0, nT, tp, 0, 0⟩ : SIt)).xs := ownsRow_le (ho9.new kl) (Nat.le_trans HD.out.nw.size hdr.size)
          have hxd : ∀ k, blk ((⟨2, ⟨#[]⟩, ⟨#[]⟩, a9, c9, xs, nF, fp, 0, nT, tp, 0, 0⟩ : SIt)).a k → w3.heap.size ≤ k := fun k hk => Nat.le_trans hdr.size (own_of_blk ho9 hk).1
          refine hK _ _ (fun _ => HSn _ kz) ?_
          clear hK K
          generalize (V1.alloc (.cells #[.int .u8 2, .string ⟨#[]⟩, .string ⟨#[]⟩, .slice a9 xs.length c9, .string nF, I fp, I 0, .string nT, I tp, I 0, I 0] 45)) = VZ at kl hlit kz hxo ⊢
          generalize V1.heap.size = Z at hlit ⊢
          refine anyX_one 9 (by kernel_rfl) ?_
          intro oi ho; simp only [List.getElem?_toArray, List.getElem?_cons_succ, List.getElem?_cons_zero, Option.some.injEq] at ho; subst ho; intro K hK
          refine step_app rfl _ _ 33 rfl w.heap.size 45 it _ 11 136 Try.underlying33 hit hz0 hz1 hz2 rfl (by decide) s.ia s.items.length s.ic (s.items.flatMap itCells) rfl (HD.out.new kz).sk.own.io (some ⟨Z, 0, none⟩) 1 1 (itCells (⟨2, ⟨#[]⟩, ⟨#[]⟩, a9, c9, xs, nF, fp, 0, nT, tp, 0, 0⟩ : SIt)) rfl rfl hlit (one_it _) (by unfold maxLen; omega) (by omega) (Nat.le_trans HD.out.nw.size kz.size) ?_
          intro ao' c' wc hown' hk' hmv
          obtain ⟨⟨hv0, hfz, hPl2⟩, hDn⟩ := HD.out.add (⟨2, ⟨#[]⟩, ⟨#[]⟩, a9, c9, xs, nF, fp, 0, nT, tp, 0, 0⟩ : SIt) hxo hxd kz (HIT.out _ (by unfold edgeIt; simp only; rw [HNF.out, HNT.out]; rfl)) hown' hk'
          have HDn := Lib.hid hDn
          refine hK _ _ (fun hx => by cases hx) ?_
          clear hK K hDn hown' hk' hmv
          refine anyX_one 10 (by kernel_rfl) ?_
          intro oi ho; simp only [List.getElem?_toArray, List.getElem?_cons_succ, List.getElem?_cons_zero, Option.some.injEq] at ho; subst ho; intro K hK
          (try simp only [Act.put, List.setIfInBounds_toArray, List.set_cons_zero, List.set_cons_succ])
          go_simp
          refine hK _ _ (fun hx => by cases hx) ?_
          clear hK K
          refine anyX_one 11 (by kernel_rfl) ?_
          intro oi ho; simp only [List.getElem?_toArray, List.getElem?_cons_succ, List.getElem?_cons_zero, Option.some.injEq] at ho; subst ho; intro K hK
          (try simp only [Act.put, List.setIfInBounds_toArray, List.set_cons_zero, List.set_cons_succ])
          go_simp
          refine hK _ _ (fun hx => by cases hx) ?_
          clear hK K
          refine anyX_done (by kernel_rfl) ?_
          (try simp only [Act.put, List.setIfInBounds_toArray, List.set_cons_zero, List.set_cons_succ])
          clear hS0 HSn
          (try simp only [Exit.then])
          go_wp2_with fail
          go_roundw
          case rel => exact ⟨k + 1, _, by omega, by go_num, HDn⟩
          case measure => simp [intOf]; omega
        · have hke : k = g.edges.length := by omega
          have hkd : decide (k < g.edges.length) = false := decide_eq_false hk1
          rw [hke, List.take_length] at HD
          clear hke hk hk1
          go_wp2_with fail
          clear g0 g1 g2 g3 g4 hGl
          have HD0 : Hid (DrawAt w g P ((([] ++ g.acts.map actIt) ++ g.edges.map (edgeIt g)) ++ (g.ins.take 0).map (inIt g)) s wr) := Lib.hid (by simpa using HD.out)
          replace HD := HD0
          clear HD0
          go_loopw [14] (fun i wr => ∃ (k : Nat) (s : Sk), k ≤ g.ins.length ∧ i = .int .i64 k ∧ Hid (DrawAt w g P ((([] ++ g.acts.map actIt) ++ g.edges.map (edgeIt g)) ++ (g.ins.take k).map (inIt g)) s wr)) (fun i _ => g.ins.length - (intOf i).toNat)
          case atStart => exact ⟨0, _, by omega, rfl, HD⟩
          case round =>
            clear HD
            obtain ⟨k, s, hk, rfl, HD⟩ := hrel
            obtain ⟨g0, g1, g2, g3, g4, hGl⟩ := gr_cells HD.out.hg
            rw [HI.out] at g3
            by_cases hk1 : k < g.ins.length
            · have hkI : (k : Int) < (g.ins.length : Int) := by omega
              have hkd : decide (k < g.ins.length) = true := decide_eq_true hk1
              have hGr := HG.out.new HD.out.nw
              obtain ⟨b, off, hab, q0, q1, q2⟩ := ports_at hGr.si hk1
              have hbw : b < wr.heap.size := World.block_lt_of_cell? wr _ q0
              have hil : s.items.length ≤ 160 := by
                have h1 := bare_len HD.out.it
                have h2 := HS.out.na
                have h3 := HS.out.ne
                have h4 := HS.out.ni
                have h5 := HS.out.no
                simp at h1
                omega
              have e : aI = some ⟨b, off, none⟩ := HI.out.symm.trans hab
              subst e
              have HIT : Hid (∀ y : SIt, y.bare = inIt g g.ins[k] → (s.items ++ [y]).map SIt.bare = (([] ++ g.acts.map actIt) ++ g.edges.map (edgeIt g)) ++ (g.ins.take (k + 1)).map (inIt g)) := Lib.hid (fun y hy => bare_next HD.out.it hk1 hy)
              clear hab hGr
              obtain ⟨xp, hxp, ep, -⟩ := endE_zero (HS.out.inp k hk1).2
              generalize g.ins[k] = x at q0 q1 q2 HIT ep
              obtain ⟨xn, x1, po⟩ := x
              simp only at q0 q1 q2 ep
              subst ep
              go_wp2_with fail
              have kb : New wr (wr.alloc (.cells #[.string xn, I xp, I po] 60)) := (New.refl wr).alloc _
              have hby : (wr.alloc (.cells #[.string xn, I xp, I po] 60)).heap[wr.heap.size]? = some (.cells #[.string xn, I xp, I po] 60 (0, 0)) := heap_alloc_new wr _
              generalize (wr.alloc (.cells #[.string xn, I xp, I po] 60)) = w1 at kb hby ⊢
              generalize wr.heap.size = Y at hby ⊢
              replace HD := Lib.hid (HD.out.new kb)
              have HY := Lib.hid hby

              clear hby kb hbw
              clear q0 q1 q2 g0 g1 g2 g3 g4 hGl
              obtain ⟨ba, oa, ea, n0, -, -⟩ := acts_at (HG.out.new HD.out.nw).sa hxp
              have hab := HA.out.symm.trans ea
              subst hab
              have HNF := Lib.hid (nameAt_is g hxp)
              generalize g.acts[xp].name = nF at n0 HNF
              obtain ⟨g0, g1, g2, g3, g4, hGl⟩ := gr_cells HD.out.hg
              rw [HA.out] at g1
              have hxI : (xp : Int) < (g.acts.length : Int) := by omega
              clear ea
              go_wp2_with fail
              obtain ⟨-, p1, -, -, hPl⟩ := sk_cells HD.out.sk.blkP
              have hYl : Y < w1.heap.size := (Array.getElem?_eq_some_iff.1 HY.out).1
              have hdr : New w1 w1.drew := (New.refl w1).drew
              have HSn : ∀ V, New w1 V → (fun w' : World => w'.cell? ⟨P, 1, none⟩ = some (.slice s.ia s.items.length s.ic) ∧ P < w'.heap.size ∧ Y < w'.heap.size ∧ w'.cell? ⟨Y, 0, none⟩ = some (.string xn) ∧ w'.cell? ⟨Y, 1, none⟩ = some (I xp) ∧ w'.cell? ⟨Y, 2, none⟩ = some (I po) ∧ w'.cell? ⟨w.heap.size, 1, none⟩ = some (.slice (some ⟨ba, oa, none⟩) g.acts.length g.ac) ∧ w'.cell? ⟨ba, oa + xp * 3, none⟩ = some (.string nF)) V := fun V kv => ⟨kv.cell p1, Nat.lt_of_lt_of_le hPl kv.size, Nat.lt_of_lt_of_le hYl kv.size, by rw [cell_of_block (Keeps.heap kv HY.out (fun h => h)) 0]; rfl, by rw [cell_of_block (Keeps.heap kv HY.out (fun h => h)) 1]; rfl, by rw [cell_of_block (Keeps.heap kv HY.out (fun h => h)) 2]; rfl, kv.cell g1, kv.cell n0⟩
              have hS0 := HSn _ hdr
              clear p1 hPl hYl
              refine wp_region_X (fun w' : World => w'.cell? ⟨P, 1, none⟩ = some (.slice s.ia s.items.length s.ic) ∧ P < w'.heap.size ∧ Y < w'.heap.size ∧ w'.cell? ⟨Y, 0, none⟩ = some (.string xn) ∧ w'.cell? ⟨Y, 1, none⟩ = some (I xp) ∧ w'.cell? ⟨Y, 2, none⟩ = some (I po) ∧ w'.cell? ⟨w.heap.size, 1, none⟩ = some (.slice (some ⟨ba, oa, none⟩) g.acts.length g.ac) ∧ w'.cell? ⟨ba, oa + xp * 3, none⟩ = some (.string nF)) [16, 17, 18] (by kernel_rfl) hS0 ?_
              generalize w1.drew = WD at hS0 hdr ⊢
              refine anyX_take 0 (by kernel_rfl) (by kernel_rfl) (by kernel_rfl) (by kernel_rfl) (by kernel_rfl) hS0 ?_
              intro oi ho; simp only [List.getElem?_toArray, List.getElem?_cons_succ, List.getElem?_cons_zero, Option.some.injEq] at ho; subst ho
              refine ⟨?_, fun _ _ _ h => h, Or.inl ⟨by rfl, ?_⟩, ?_⟩; rotate_left 1
              · (intro wS hSw; (try dsimp only at hSw); go_simp; try with_reducible rfl)
              simp only [Act.put, List.setIfInBounds_toArray, List.set_cons_zero, List.set_cons_succ]
              refine anyX_take 1 (by kernel_rfl) (by kernel_rfl) (by kernel_rfl) (by kernel_rfl) (by kernel_rfl) hS0 ?_
              intro oi ho; simp only [List.getElem?_toArray, List.getElem?_cons_succ, List.getElem?_cons_zero, Option.some.injEq] at ho; subst ho
              refine ⟨?_, fun _ _ _ h => h, Or.inl ⟨by rfl, ?_⟩, ?_⟩; rotate_left 1
              · (intro wS hSw; (try dsimp only at hSw); go_simp; try with_reducible rfl)
              simp only [Act.put, List.setIfInBounds_toArray, List.set_cons_zero, List.set_cons_succ]
              refine anyX_take 2 (by kernel_rfl) (by kernel_rfl) (by kernel_rfl) (by kernel_rfl) (by kernel_rfl) hS0 ?_
              intro oi ho; simp only [List.getElem?_toArray, List.getElem?_cons_succ, List.getElem?_cons_zero, Option.some.injEq] at ho; subst ho
              refine ⟨?_, fun _ _ _ h => h, Or.inl ⟨by rfl, ?_⟩, ?_⟩; rotate_left 1
              · (intro wS hSw; (try dsimp only at hSw); go_simp; try with_reducible rfl)
              simp only [Act.put, List.setIfInBounds_toArray, List.set_cons_zero, List.set_cons_succ]
              refine anyX_take 3 (by kernel_rfl) (by kernel_rfl) (by kernel_rfl) (by kernel_rfl) (by kernel_rfl) hS0 ?_
              intro oi ho; simp only [List.getElem?_toArray, List.getElem?_cons_succ, List.getElem?_cons_zero, Option.some.injEq] at ho; subst ho
              refine ⟨?_, fun _ _ _ h => h, Or.inl ⟨by rfl, ?_⟩, ?_⟩; rotate_left 1
              · (intro wS hSw; (try dsimp only at hSw); go_simp; try with_reducible rfl)
              simp only [Act.put, List.setIfInBounds_toArray, List.set_cons_zero, List.set_cons_succ]
              refine anyX_take 4 (by kernel_rfl) (by kernel_rfl) (by kernel_rfl) (by kernel_rfl) (by kernel_rfl) hS0 ?_
              intro oi ho; simp only [List.getElem?_toArray, List.getElem?_cons_succ, List.getElem?_cons_zero, Option.some.injEq] at ho; subst ho
              refine ⟨?_, fun _ _ _ h => h, Or.inl ⟨by rfl, ?_⟩, ?_⟩; rotate_left 1
              · (intro wS hSw; (try dsimp only at hSw); go_simp; try with_reducible rfl)
              simp only [Act.put, List.setIfInBounds_toArray, List.set_cons_zero, List.set_cons_succ]
              refine anyX_take 5 (by kernel_rfl) (by kernel_rfl) (by kernel_rfl) (by kernel_rfl) (by kernel_rfl) hS0 ?_
              intro oi ho; simp only [List.getElem?_toArray, List.getElem?_cons_succ, List.getElem?_cons_zero, Option.some.injEq] at ho; subst ho
              refine ⟨?_, fun _ _ _ h => h, Or.inl ⟨by rfl, ?_⟩, ?_⟩; rotate_left 1
              · (intro wS hSw; (try dsimp only at hSw); go_simp; try with_reducible rfl)
              simp only [Act.put, List.setIfInBounds_toArray, List.set_cons_zero, List.set_cons_succ]
              refine anyX_take 6 (by kernel_rfl) (by kernel_rfl) (by kernel_rfl) (by kernel_rfl) (by kernel_rfl) hS0 ?_
              intro oi ho; simp only [List.getElem?_toArray, List.getElem?_cons_succ, List.getElem?_cons_zero, Option.some.injEq] at ho; subst ho
              refine ⟨?_, fun _ _ _ h => h, Or.inl ⟨by rfl, ?_⟩, ?_⟩; rotate_left 1
              · (intro wS hSw; (try dsimp only at hSw); go_simp; try with_reducible rfl)
              simp only [Act.put, List.setIfInBounds_toArray, List.set_cons_zero, List.set_cons_succ]
              refine anyX_take 7 (by kernel_rfl) (by kernel_rfl) (by kernel_rfl) (by kernel_rfl) (by kernel_rfl) hS0 ?_
              intro oi ho; simp only [List.getElem?_toArray, List.getElem?_cons_succ, List.getElem?_cons_zero, Option.some.injEq] at ho; subst ho
              refine ⟨?_, fun _ _ _ h => h, Or.inl ⟨by rfl, ?_⟩, ?_⟩; rotate_left 1
              · (intro wS hSw; (try dsimp only at hSw); go_simp; try with_reducible rfl)
              simp only [Act.put, List.setIfInBounds_toArray, List.set_cons_zero, List.set_cons_succ]
              refine anyX_take 8 (by kernel_rfl) (by kernel_rfl) (by kernel_rfl) (by kernel_rfl) (by kernel_rfl) hS0 ?_
              intro oi ho; simp only [List.getElem?_toArray, List.getElem?_cons_succ, List.getElem?_cons_zero, Option.some.injEq] at ho; subst ho
              refine ⟨?_, fun _ _ _ h => h, Or.inl ⟨by rfl, ?_⟩, ?_⟩; rotate_left 1
              · (intro wS hSw; (try dsimp only at hSw); go_simp; try with_reducible rfl)
              simp only [Act.put, List.setIfInBounds_toArray, List.set_cons_zero, List.set_cons_succ]
              refine anyX_take 9 (by kernel_rfl) (by kernel_rfl) (by kernel_rfl) (by kernel_rfl) (by kernel_rfl) hS0 ?_
              intro oi ho; simp only [List.getElem?_toArray, List.getElem?_cons_succ, List.getElem?_cons_zero, Option.some.injEq] at ho; subst ho
              refine ⟨?_, fun _ _ _ h => h, Or.inl ⟨by rfl, ?_⟩, ?_⟩; rotate_left 1
              · (intro wS hSw; (try dsimp only at hSw); go_simp; try with_reducible rfl)
              simp only [Act.put, List.setIfInBounds_toArray, List.set_cons_zero, List.set_cons_succ]
              refine anyX_take 10 (by kernel_rfl) (by kernel_rfl) (by kernel_rfl) (by kernel_rfl) (by kernel_rfl) hS0 ?_
              intro oi ho; simp only [List.getElem?_toArray, List.getElem?_cons_succ, List.getElem?_cons_zero, Option.some.injEq] at ho; subst ho
              refine ⟨?_, fun _ _ _ h => h, Or.inl ⟨by rfl, ?_⟩, ?_⟩; rotate_left 1
              · (intro wS hSw; (try dsimp only at hSw); go_simp; try with_reducible rfl)
              simp only [Act.put, List.setIfInBounds_toArray, List.set_cons_zero, List.set_cons_succ]
              refine anyX_take 11 (by kernel_rfl) (by kernel_rfl) (by kernel_rfl) (by kernel_rfl) (by kernel_rfl) hS0 ?_
              intro oi ho; simp only [List.getElem?_toArray, List.getElem?_cons_succ, List.getElem?_cons_zero, Option.some.injEq] at ho; subst ho
              refine ⟨?_, fun _ _ _ h => h, Or.inl ⟨by rfl, ?_⟩, ?_⟩; rotate_left 1
              · (intro wS hSw; (try dsimp only at hSw); go_simp; try with_reducible rfl)
              simp only [Act.put, List.setIfInBounds_toArray, List.set_cons_zero, List.set_cons_succ]
              refine anyX_take 12 (by kernel_rfl) (by kernel_rfl) (by kernel_rfl) (by kernel_rfl) (by kernel_rfl) hS0 ?_
              intro oi ho; simp only [List.getElem?_toArray, List.getElem?_cons_succ, List.getElem?_cons_zero, Option.some.injEq] at ho; subst ho
              refine ⟨?_, fun _ _ _ h => h, Or.inl ⟨by rfl, ?_⟩, ?_⟩; rotate_left 1
              · (intro wS hSw; (try dsimp only at hSw); go_simp; try with_reducible rfl)
              simp only [Act.put, List.setIfInBounds_toArray, List.set_cons_zero, List.set_cons_succ]
              refine anyX_take 13 (by kernel_rfl) (by kernel_rfl) (by kernel_rfl) (by kernel_rfl) (by kernel_rfl) hS0 ?_
              intro oi ho; simp only [List.getElem?_toArray, List.getElem?_cons_succ, List.getElem?_cons_zero, Option.some.injEq] at ho; subst ho
              refine ⟨?_, fun _ _ _ h => h, Or.inl ⟨by rfl, ?_⟩, ?_⟩; rotate_left 1
              · (intro wS hSw; (try dsimp only at hSw); go_simp; try with_reducible rfl)
              simp only [Act.put, List.setIfInBounds_toArray, List.set_cons_zero, List.set_cons_succ]
              refine anyX_take 14 (by kernel_rfl) (by kernel_rfl) (by kernel_rfl) (by kernel_rfl) (by kernel_rfl) hS0 ?_
              intro oi ho; simp only [List.getElem?_toArray, List.getElem?_cons_succ, List.getElem?_cons_zero, Option.some.injEq] at ho; subst ho
              refine ⟨?_, fun _ _ _ h => h, Or.inl ⟨by rfl, ?_⟩, ?_⟩; rotate_left 1
              · (intro wS hSw; (try dsimp only at hSw); go_simp; try with_reducible rfl)
              simp only [Act.put, List.setIfInBounds_toArray, List.set_cons_zero, List.set_cons_succ]
              refine anyX_one 15 (by kernel_rfl) ?_
              intro oi ho; simp only [List.getElem?_toArray, List.getElem?_cons_succ, List.getElem?_cons_zero, Option.some.injEq] at ho; subst ho; intro K hK
              (try simp only [Act.put, List.setIfInBounds_toArray, List.set_cons_zero, List.set_cons_succ])
              go_simp
              have kl : New WD (WD.alloc (.cells #[.int .u8 3, .string xn, .string ⟨#[]⟩, .slice none 0 0, .string ⟨#[]⟩, I 0, I 0, .string nF, I po, I 0, I 0] 45)) := (New.refl WD).alloc _
              have hlit : SlAt (WD.alloc (.cells #[.int .u8 3, .string xn, .string ⟨#[]⟩, .slice none 0 0, .string ⟨#[]⟩, I 0, I 0, .string nF, I po, I 0, I 0] 45)) (some ⟨WD.heap.size, 0, none⟩) (itCells (⟨3, xn, ⟨#[]⟩, none, 0, [], ⟨#[]⟩, 0, 0, nF, po, 0, 0⟩ : SIt)) := SlAt.lit WD _ _
              have kz := hdr.trans kl
              have hxo : OwnI (WD.alloc (.cells #[.int .u8 3, .string xn, .string ⟨#[]⟩, .slice none 0 0, .string ⟨#[]⟩, I 0, I 0, .string nF, I po, I 0, I 0] 45)) w.heap.size ((⟨3, xn, ⟨#[]⟩, none, 0, [], ⟨#[]⟩, 0, 0, nF, po, 0, 0⟩ : SIt)).a ((⟨3, xn, ⟨#[]⟩, none, 0, [], ⟨#[]⟩, 0, 0, nF, po, 0, 0⟩ : SIt)).c ((⟨3, xn, ⟨#[]⟩, none, 0, [], ⟨#[]⟩, 0, 0, nF, po, 0, 0⟩ : SIt)).xs := OwnI.nil _ _
              have hxd : ∀ k, blk ((⟨3, xn, ⟨#[]⟩, none, 0, [], ⟨#[]⟩, 0, 0, nF, po, 0, 0⟩ : SIt)).a k → w1.heap.size ≤ k := fun k hk => by obtain ⟨y, hy, _⟩ := hk; cases hy
              refine hK _ _ (fun _ => HSn _ kz) ?_
              clear hK K
              generalize (WD.alloc (.cells #[.int .u8 3, .string xn, .string ⟨#[]⟩, .slice none 0 0, .string ⟨#[]⟩, I 0, I 0, .string nF, I po, I 0, I 0] 45)) = VZ at kl hlit kz hxo ⊢
              generalize WD.heap.size = Z at hlit ⊢
              refine anyX_one 16 (by kernel_rfl) ?_
              intro oi ho; simp only [List.getElem?_toArray, List.getElem?_cons_succ, List.getElem?_cons_zero, Option.some.injEq] at ho; subst ho; intro K hK
              refine step_app rfl _ _ 33 rfl w.heap.size 45 it _ 11 136 Try.underlying33 hit hz0 hz1 hz2 rfl (by decide) s.ia s.items.length s.ic (s.items.flatMap itCells) rfl (HD.out.new kz).sk.own.io (some ⟨Z, 0, none⟩) 1 1 (itCells (⟨3, xn, ⟨#[]⟩, none, 0, [], ⟨#[]⟩, 0, 0, nF, po, 0, 0⟩ : SIt)) rfl rfl hlit (one_it _) (by unfold maxLen; omega) (by omega) (Nat.le_trans HD.out.nw.size kz.size) ?_
              intro ao' c' wc hown' hk' hmv
              obtain ⟨⟨hv0, hfz, hPl2⟩, hDn⟩ := HD.out.add (⟨3, xn, ⟨#[]⟩, none, 0, [], ⟨#[]⟩, 0, 0, nF, po, 0, 0⟩ : SIt) hxo hxd kz (HIT.out _ (by unfold inIt; simp only; rw [HNF.out]; rfl)) hown' hk'
              have HDn := Lib.hid hDn
              refine hK _ _ (fun hx => by cases hx) ?_
              clear hK K hDn hown' hk' hmv
              refine anyX_one 17 (by kernel_rfl) ?_
              intro oi ho; simp only [List.getElem?_toArray, List.getElem?_cons_succ, List.getElem?_cons_zero, Option.some.injEq] at ho; subst ho; intro K hK
              (try simp only [Act.put, List.setIfInBounds_toArray, List.set_cons_zero, List.set_cons_succ])
              go_simp
              refine hK _ _ (fun hx => by cases hx) ?_
              clear hK K
              refine anyX_one 18 (by kernel_rfl) ?_
              intro oi ho; simp only [List.getElem?_toArray, List.getElem?_cons_succ, List.getElem?_cons_zero, Option.some.injEq] at ho; subst ho; intro K hK
              (try simp only [Act.put, List.setIfInBounds_toArray, List.set_cons_zero, List.set_cons_succ])
              go_simp
              refine hK _ _ (fun hx => by cases hx) ?_
              clear hK K
              refine anyX_done (by kernel_rfl) ?_
              (try simp only [Act.put, List.setIfInBounds_toArray, List.set_cons_zero, List.set_cons_succ])
              clear hS0 HSn
              (try simp only [Exit.then])
              go_wp2_with fail
              go_roundw
              case rel => exact ⟨k + 1, _, by omega, by go_num, HDn⟩
              case measure => simp [intOf]; omega
            · have hke : k = g.ins.length := by omega
              have hkd : decide (k < g.ins.length) = false := decide_eq_false hk1
              rw [hke, List.take_length] at HD
              clear hke hk hk1
              go_wp2_with fail
              clear g0 g1 g2 g3 g4 hGl
              have HD0 : Hid (DrawAt w g P (((([] ++ g.acts.map actIt) ++ g.edges.map (edgeIt g)) ++ g.ins.map (inIt g)) ++ (g.outs.take 0).map (outIt g)) s wr) := Lib.hid (by simpa using HD.out)
              replace HD := HD0
              clear HD0
              go_loopw [16] (fun i wr => ∃ (k : Nat) (s : Sk), k ≤ g.outs.length ∧ i = .int .i64 k ∧ Hid (DrawAt w g P (((([] ++ g.acts.map actIt) ++ g.edges.map (edgeIt g)) ++ g.ins.map (inIt g)) ++ (g.outs.take k).map (outIt g)) s wr)) (fun i _ => g.outs.length - (intOf i).toNat)
              case atStart => exact ⟨0, _, by omega, rfl, HD⟩
              case round =>
                clear HD
                obtain ⟨k, s, hk, rfl, HD⟩ := hrel
                obtain ⟨g0, g1, g2, g3, g4, hGl⟩ := gr_cells HD.out.hg
                rw [HO.out] at g4
                by_cases hk1 : k < g.outs.length
                · have hkI : (k : Int) < (g.outs.length : Int) := by omega
                  have hkd : decide (k < g.outs.length) = true := decide_eq_true hk1
                  have hGr := HG.out.new HD.out.nw
                  obtain ⟨b, off, hab, q0, q1, q2⟩ := ports_at hGr.so hk1
                  have hbw : b < wr.heap.size := World.block_lt_of_cell? wr _ q0
                  have hil : s.items.length ≤ 160 := by
                    have h1 := bare_len HD.out.it
                    have h2 := HS.out.na
                    have h3 := HS.out.ne
                    have h4 := HS.out.ni
                    have h5 := HS.out.no
                    simp at h1
                    omega
                  have e : aO = some ⟨b, off, none⟩ := HO.out.symm.trans hab
                  subst e
                  have HIT : Hid (∀ y : SIt, y.bare = outIt g g.outs[k] → (s.items ++ [y]).map SIt.bare = ((([] ++ g.acts.map actIt) ++ g.edges.map (edgeIt g)) ++ g.ins.map (inIt g)) ++ (g.outs.take (k + 1)).map (outIt g)) := Lib.hid (fun y hy => bare_next HD.out.it hk1 hy)
                  clear hab hGr
                  obtain ⟨xp, hxp, ep, -⟩ := endE_zero (HS.out.out k hk1).2
                  generalize g.outs[k] = x at q0 q1 q2 HIT ep
                  obtain ⟨xn, x1, po⟩ := x
                  simp only at q0 q1 q2 ep
                  subst ep
                  go_wp2_with fail
                  have kb : New wr (wr.alloc (.cells #[.string xn, I xp, I po] 60)) := (New.refl wr).alloc _
                  have hby : (wr.alloc (.cells #[.string xn, I xp, I po] 60)).heap[wr.heap.size]? = some (.cells #[.string xn, I xp, I po] 60 (0, 0)) := heap_alloc_new wr _
                  generalize (wr.alloc (.cells #[.string xn, I xp, I po] 60)) = w1 at kb hby ⊢
                  generalize wr.heap.size = Y at hby ⊢
                  replace HD := Lib.hid (HD.out.new kb)
                  have HY := Lib.hid hby

                  clear hby kb hbw
                  clear q0 q1 q2 g0 g1 g2 g3 g4 hGl
                  obtain ⟨ba, oa, ea, n0, -, -⟩ := acts_at (HG.out.new HD.out.nw).sa hxp
                  have hab := HA.out.symm.trans ea
                  subst hab
                  have HNF := Lib.hid (nameAt_is g hxp)
                  generalize g.acts[xp].name = nF at n0 HNF
                  obtain ⟨g0, g1, g2, g3, g4, hGl⟩ := gr_cells HD.out.hg
                  rw [HA.out] at g1
                  have hxI : (xp : Int) < (g.acts.length : Int) := by omega
                  clear ea
                  go_wp2_with fail
                  obtain ⟨-, p1, -, -, hPl⟩ := sk_cells HD.out.sk.blkP
                  have hYl : Y < w1.heap.size := (Array.getElem?_eq_some_iff.1 HY.out).1
                  have hdr : New w1 w1.drew := (New.refl w1).drew
                  have HSn : ∀ V, New w1 V → (fun w' : World => w'.cell? ⟨P, 1, none⟩ = some (.slice s.ia s.items.length s.ic) ∧ P < w'.heap.size ∧ Y < w'.heap.size ∧ w'.cell? ⟨Y, 0, none⟩ = some (.string xn) ∧ w'.cell? ⟨Y, 1, none⟩ = some (I xp) ∧ w'.cell? ⟨Y, 2, none⟩ = some (I po) ∧ w'.cell? ⟨w.heap.size, 1, none⟩ = some (.slice (some ⟨ba, oa, none⟩) g.acts.length g.ac) ∧ w'.cell? ⟨ba, oa + xp * 3, none⟩ = some (.string nF)) V := fun V kv => ⟨kv.cell p1, Nat.lt_of_lt_of_le hPl kv.size, Nat.lt_of_lt_of_le hYl kv.size, by rw [cell_of_block (Keeps.heap kv HY.out (fun h => h)) 0]; rfl, by rw [cell_of_block (Keeps.heap kv HY.out (fun h => h)) 1]; rfl, by rw [cell_of_block (Keeps.heap kv HY.out (fun h => h)) 2]; rfl, kv.cell g1, kv.cell n0⟩
                  have hS0 := HSn _ hdr
                  clear p1 hPl hYl
                  refine wp_region_X (fun w' : World => w'.cell? ⟨P, 1, none⟩ = some (.slice s.ia s.items.length s.ic) ∧ P < w'.heap.size ∧ Y < w'.heap.size ∧ w'.cell? ⟨Y, 0, none⟩ = some (.string xn) ∧ w'.cell? ⟨Y, 1, none⟩ = some (I xp) ∧ w'.cell? ⟨Y, 2, none⟩ = some (I po) ∧ w'.cell? ⟨w.heap.size, 1, none⟩ = some (.slice (some ⟨ba, oa, none⟩) g.acts.length g.ac) ∧ w'.cell? ⟨ba, oa + xp * 3, none⟩ = some (.string nF)) [16, 17, 18] (by kernel_rfl) hS0 ?_
                  generalize w1.drew = WD at hS0 hdr ⊢
                  refine anyX_take 0 (by kernel_rfl) (by kernel_rfl) (by kernel_rfl) (by kernel_rfl) (by kernel_rfl) hS0 ?_
                  intro oi ho; simp only [List.getElem?_toArray, List.getElem?_cons_succ, List.getElem?_cons_zero, Option.some.injEq] at ho; subst ho
                  refine ⟨?_, fun _ _ _ h => h, Or.inl ⟨by rfl, ?_⟩, ?_⟩; rotate_left 1
                  · (intro wS hSw; (try dsimp only at hSw); go_simp; try with_reducible rfl)
                  simp only [Act.put, List.setIfInBounds_toArray, List.set_cons_zero, List.set_cons_succ]
                  refine anyX_take 1 (by kernel_rfl) (by kernel_rfl) (by kernel_rfl) (by kernel_rfl) (by kernel_rfl) hS0 ?_
                  intro oi ho; simp only [List.getElem?_toArray, List.getElem?_cons_succ, List.getElem?_cons_zero, Option.some.injEq] at ho; subst ho
                  refine ⟨?_, fun _ _ _ h => h, Or.inl ⟨by rfl, ?_⟩, ?_⟩; rotate_left 1
                  · (intro wS hSw; (try dsimp only at hSw); go_simp; try with_reducible rfl)
                  simp only [Act.put, List.setIfInBounds_toArray, List.set_cons_zero, List.set_cons_succ]
                  refine anyX_take 2 (by kernel_rfl) (by kernel_rfl) (by kernel_rfl) (by kernel_rfl) (by kernel_rfl) hS0 ?_
                  intro oi ho; simp only [List.getElem?_toArray, List.getElem?_cons_succ, List.getElem?_cons_zero, Option.some.injEq] at ho; subst ho
                  refine ⟨?_, fun _ _ _ h => h, Or.inl ⟨by rfl, ?_⟩, ?_⟩; rotate_left 1
                  · (intro wS hSw; (try dsimp only at hSw); go_simp; try with_reducible rfl)
                  simp only [Act.put, List.setIfInBounds_toArray, List.set_cons_zero, List.set_cons_succ]
                  refine anyX_take 3 (by kernel_rfl) (by kernel_rfl) (by kernel_rfl) (by kernel_rfl) (by kernel_rfl) hS0 ?_
                  intro oi ho; simp only [List.getElem?_toArray, List.getElem?_cons_succ, List.getElem?_cons_zero, Option.some.injEq] at ho; subst ho
                  refine ⟨?_, fun _ _ _ h => h, Or.inl ⟨by rfl, ?_⟩, ?_⟩; rotate_left 1
                  · (intro wS hSw; (try dsimp only at hSw); go_simp; try with_reducible rfl)
                  simp only [Act.put, List.setIfInBounds_toArray, List.set_cons_zero, List.set_cons_succ]
                  refine anyX_take 4 (by kernel_rfl) (by kernel_rfl) (by kernel_rfl) (by kernel_rfl) (by kernel_rfl) hS0 ?_
                  intro oi ho; simp only [List.getElem?_toArray, List.getElem?_cons_succ, List.getElem?_cons_zero, Option.some.injEq] at ho; subst ho
                  refine ⟨?_, fun _ _ _ h => h, Or.inl ⟨by rfl, ?_⟩, ?_⟩; rotate_left 1
                  · (intro wS hSw; (try dsimp only at hSw); go_simp; try with_reducible rfl)
                  simp only [Act.put, List.setIfInBounds_toArray, List.set_cons_zero, List.set_cons_succ]
                  refine anyX_take 5 (by kernel_rfl) (by kernel_rfl) (by kernel_rfl) (by kernel_rfl) (by kernel_rfl) hS0 ?_
                  intro oi ho; simp only [List.getElem?_toArray, List.getElem?_cons_succ, List.getElem?_cons_zero, Option.some.injEq] at ho; subst ho
                  refine ⟨?_, fun _ _ _ h => h, Or.inl ⟨by rfl, ?_⟩, ?_⟩; rotate_left 1
                  · (intro wS hSw; (try dsimp only at hSw); go_simp; try with_reducible rfl)
                  simp only [Act.put, List.setIfInBounds_toArray, List.set_cons_zero, List.set_cons_succ]
                  refine anyX_take 6 (by kernel_rfl) (by kernel_rfl) (by kernel_rfl) (by kernel_rfl) (by kernel_rfl) hS0 ?_
                  intro oi ho; simp only [List.getElem?_toArray, List.getElem?_cons_succ, List.getElem?_cons_zero, Option.some.injEq] at ho; subst ho
                  refine ⟨?_, fun _ _ _ h => h, Or.inl ⟨by rfl, ?_⟩, ?_⟩; rotate_left 1
                  · (intro wS hSw; (try dsimp only at hSw); go_simp; try with_reducible rfl)
                  simp only [Act.put, List.setIfInBounds_toArray, List.set_cons_zero, List.set_cons_succ]
                  refine anyX_take 7 (by kernel_rfl) (by kernel_rfl) (by kernel_rfl) (by kernel_rfl) (by kernel_rfl) hS0 ?_
                  intro oi ho; simp only [List.getElem?_toArray, List.getElem?_cons_succ, List.getElem?_cons_zero, Option.some.injEq] at ho; subst ho
                  refine ⟨?_, fun _ _ _ h => h, Or.inl ⟨by rfl, ?_⟩, ?_⟩; rotate_left 1
                  · (intro wS hSw; (try dsimp only at hSw); go_simp; try with_reducible rfl)
                  simp only [Act.put, List.setIfInBounds_toArray, List.set_cons_zero, List.set_cons_succ]
                  refine anyX_take 8 (by kernel_rfl) (by kernel_rfl) (by kernel_rfl) (by kernel_rfl) (by kernel_rfl) hS0 ?_
                  intro oi ho; simp only [List.getElem?_toArray, List.getElem?_cons_succ, List.getElem?_cons_zero, Option.some.injEq] at ho; subst ho
                  refine ⟨?_, fun _ _ _ h => h, Or.inl ⟨by rfl, ?_⟩, ?_⟩; rotate_left 1
                  · (intro wS hSw; (try dsimp only at hSw); go_simp; try with_reducible rfl)
                  simp only [Act.put, List.setIfInBounds_toArray, List.set_cons_zero, List.set_cons_succ]
                  refine anyX_take 9 (by kernel_rfl) (by kernel_rfl) (by kernel_rfl) (by kernel_rfl) (by kernel_rfl) hS0 ?_
                  intro oi ho; simp only [List.getElem?_toArray, List.getElem?_cons_succ, List.getElem?_cons_zero, Option.some.injEq] at ho; subst ho
                  refine ⟨?_, fun _ _ _ h => h, Or.inl ⟨by rfl, ?_⟩, ?_⟩; rotate_left 1
                  · (intro wS hSw; (try dsimp only at hSw); go_simp; try with_reducible rfl)
                  simp only [Act.put, List.setIfInBounds_toArray, List.set_cons_zero, List.set_cons_succ]
                  refine anyX_take 10 (by kernel_rfl) (by kernel_rfl) (by kernel_rfl) (by kernel_rfl) (by kernel_rfl) hS0 ?_
                  intro oi ho; simp only [List.getElem?_toArray, List.getElem?_cons_succ, List.getElem?_cons_zero, Option.some.injEq] at ho; subst ho
                  refine ⟨?_, fun _ _ _ h => h, Or.inl ⟨by rfl, ?_⟩, ?_⟩; rotate_left 1
                  · (intro wS hSw; (try dsimp only at hSw); go_simp; try with_reducible rfl)
                  simp only [Act.put, List.setIfInBounds_toArray, List.set_cons_zero, List.set_cons_succ]
                  refine anyX_take 11 (by kernel_rfl) (by kernel_rfl) (by kernel_rfl) (by kernel_rfl) (by kernel_rfl) hS0 ?_
                  intro oi ho; simp only [List.getElem?_toArray, List.getElem?_cons_succ, List.getElem?_cons_zero, Option.some.injEq] at ho; subst ho
                  refine ⟨?_, fun _ _ _ h => h, Or.inl ⟨by rfl, ?_⟩, ?_⟩; rotate_left 1
                  · (intro wS hSw; (try dsimp only at hSw); go_simp; try with_reducible rfl)
                  simp only [Act.put, List.setIfInBounds_toArray, List.set_cons_zero, List.set_cons_succ]
                  refine anyX_take 12 (by kernel_rfl) (by kernel_rfl) (by kernel_rfl) (by kernel_rfl) (by kernel_rfl) hS0 ?_
                  intro oi ho; simp only [List.getElem?_toArray, List.getElem?_cons_succ, List.getElem?_cons_zero, Option.some.injEq] at ho; subst ho
                  refine ⟨?_, fun _ _ _ h => h, Or.inl ⟨by rfl, ?_⟩, ?_⟩; rotate_left 1
                  · (intro wS hSw; (try dsimp only at hSw); go_simp; try with_reducible rfl)
                  simp only [Act.put, List.setIfInBounds_toArray, List.set_cons_zero, List.set_cons_succ]
                  refine anyX_take 13 (by kernel_rfl) (by kernel_rfl) (by kernel_rfl) (by kernel_rfl) (by kernel_rfl) hS0 ?_
                  intro oi ho; simp only [List.getElem?_toArray, List.getElem?_cons_succ, List.getElem?_cons_zero, Option.some.injEq] at ho; subst ho
                  refine ⟨?_, fun _ _ _ h => h, Or.inl ⟨by rfl, ?_⟩, ?_⟩; rotate_left 1
                  · (intro wS hSw; (try dsimp only at hSw); go_simp; try with_reducible rfl)
                  simp only [Act.put, List.setIfInBounds_toArray, List.set_cons_zero, List.set_cons_succ]
                  refine anyX_take 14 (by kernel_rfl) (by kernel_rfl) (by kernel_rfl) (by kernel_rfl) (by kernel_rfl) hS0 ?_
                  intro oi ho; simp only [List.getElem?_toArray, List.getElem?_cons_succ, List.getElem?_cons_zero, Option.some.injEq] at ho; subst ho
                  refine ⟨?_, fun _ _ _ h => h, Or.inl ⟨by rfl, ?_⟩, ?_⟩; rotate_left 1
                  · (intro wS hSw; (try dsimp only at hSw); go_simp; try with_reducible rfl)
                  simp only [Act.put, List.setIfInBounds_toArray, List.set_cons_zero, List.set_cons_succ]
                  refine anyX_one 15 (by kernel_rfl) ?_
                  intro oi ho; simp only [List.getElem?_toArray, List.getElem?_cons_succ, List.getElem?_cons_zero, Option.some.injEq] at ho; subst ho; intro K hK
                  (try simp only [Act.put, List.setIfInBounds_toArray, List.set_cons_zero, List.set_cons_succ])
                  go_simp
                  have kl : New WD (WD.alloc (.cells #[.int .u8 4, .string xn, .string ⟨#[]⟩, .slice none 0 0, .string nF, I po, I 0, .string ⟨#[]⟩, I 0, I 0, I 0] 45)) := (New.refl WD).alloc _
                  have hlit : SlAt (WD.alloc (.cells #[.int .u8 4, .string xn, .string ⟨#[]⟩, .slice none 0 0, .string nF, I po, I 0, .string ⟨#[]⟩, I 0, I 0, I 0] 45)) (some ⟨WD.heap.size, 0, none⟩) (itCells (⟨4, xn, ⟨#[]⟩, none, 0, [], nF, po, 0, ⟨#[]⟩, 0, 0, 0⟩ : SIt)) := SlAt.lit WD _ _
                  have kz := hdr.trans kl
                  have hxo : OwnI (WD.alloc (.cells #[.int .u8 4, .string xn, .string ⟨#[]⟩, .slice none 0 0, .string nF, I po, I 0, .string ⟨#[]⟩, I 0, I 0, I 0] 45)) w.heap.size ((⟨4, xn, ⟨#[]⟩, none, 0, [], nF, po, 0, ⟨#[]⟩, 0, 0, 0⟩ : SIt)).a ((⟨4, xn, ⟨#[]⟩, none, 0, [], nF, po, 0, ⟨#[]⟩, 0, 0, 0⟩ : SIt)).c ((⟨4, xn, ⟨#[]⟩, none, 0, [], nF, po, 0, ⟨#[]⟩, 0, 0, 0⟩ : SIt)).xs := OwnI.nil _ _
                  have hxd : ∀ k, blk ((⟨4, xn, ⟨#[]⟩, none, 0, [], nF, po, 0, ⟨#[]⟩, 0, 0, 0⟩ : SIt)).a k → w1.heap.size ≤ k := fun k hk => by obtain ⟨y, hy, _⟩ := hk; cases hy
                  refine hK _ _ (fun _ => HSn _ kz) ?_
                  clear hK K
                  generalize (WD.alloc (.cells #[.int .u8 4, .string xn, .string ⟨#[]⟩, .slice none 0 0, .string nF, I po, I 0, .string ⟨#[]⟩, I 0, I 0, I 0] 45)) = VZ at kl hlit kz hxo ⊢
                  generalize WD.heap.size = Z at hlit ⊢
                  refine anyX_one 16 (by kernel_rfl) ?_
                  intro oi ho; simp only [List.getElem?_toArray, List.getElem?_cons_succ, List.getElem?_cons_zero, Option.some.injEq] at ho; subst ho; intro K hK
                  refine step_app rfl _ _ 33 rfl w.heap.size 45 it _ 11 136 Try.underlying33 hit hz0 hz1 hz2 rfl (by decide) s.ia s.items.length s.ic (s.items.flatMap itCells) rfl (HD.out.new kz).sk.own.io (some ⟨Z, 0, none⟩) 1 1 (itCells (⟨4, xn, ⟨#[]⟩, none, 0, [], nF, po, 0, ⟨#[]⟩, 0, 0, 0⟩ : SIt)) rfl rfl hlit (one_it _) (by unfold maxLen; omega) (by omega) (Nat.le_trans HD.out.nw.size kz.size) ?_
                  intro ao' c' wc hown' hk' hmv
                  obtain ⟨⟨hv0, hfz, hPl2⟩, hDn⟩ := HD.out.add (⟨4, xn, ⟨#[]⟩, none, 0, [], nF, po, 0, ⟨#[]⟩, 0, 0, 0⟩ : SIt) hxo hxd kz (HIT.out _ (by unfold outIt; simp only; rw [HNF.out]; rfl)) hown' hk'
                  have HDn := Lib.hid hDn
                  refine hK _ _ (fun hx => by cases hx) ?_
                  clear hK K hDn hown' hk' hmv
                  refine anyX_one 17 (by kernel_rfl) ?_
                  intro oi ho; simp only [List.getElem?_toArray, List.getElem?_cons_succ, List.getElem?_cons_zero, Option.some.injEq] at ho; subst ho; intro K hK
                  (try simp only [Act.put, List.setIfInBounds_toArray, List.set_cons_zero, List.set_cons_succ])
                  go_simp
                  refine hK _ _ (fun hx => by cases hx) ?_
                  clear hK K
                  refine anyX_one 18 (by kernel_rfl) ?_
                  intro oi ho; simp only [List.getElem?_toArray, List.getElem?_cons_succ, List.getElem?_cons_zero, Option.some.injEq] at ho; subst ho; intro K hK
                  (try simp only [Act.put, List.setIfInBounds_toArray, List.set_cons_zero, List.set_cons_succ])
                  go_simp
                  refine hK _ _ (fun hx => by cases hx) ?_
                  clear hK K
                  refine anyX_done (by kernel_rfl) ?_
                  (try simp only [Act.put, List.setIfInBounds_toArray, List.set_cons_zero, List.set_cons_succ])
                  clear hS0 HSn
                  (try simp only [Exit.then])
                  go_wp2_with fail
                  go_roundw
                  case rel => exact ⟨k + 1, _, by omega, by go_num, HDn⟩
                  case measure => simp [intOf]; omega
                · have hke : k = g.outs.length := by omega
                  have hkd : decide (k < g.outs.length) = false := decide_eq_false hk1
                  rw [hke, List.take_length] at HD
                  clear hke hk hk1
                  obtain ⟨p0, p1, -, -, hPl⟩ := sk_cells HD.out.sk.blkP
                  obtain ⟨r0, r1, f0, f1, hBB⟩ := sk_cells HD.out.hr
                  have HFIN : Hid (∀ u v : Value, post (.returned (.tuple #[.agg #[.string s.name, .slice s.ia s.items.length s.ic], I 0])) ((wr.setCell ⟨w.heap.size + 1, 0, none⟩ u).setCell ⟨w.heap.size + 1, 1, none⟩ v)) := Lib.hid (fun u v => by
                    rw [← HP.out]
                    exact ⟨s, rfl, HD.out.sk.own.spot HD.out.hr u v, by unfold Sk.bare drawS drawI; rw [HD.out.nm, HD.out.it]; simp, (HD.out.nw.setCell (by simp) _).setCell (by simp) _⟩)
                  clear HD HP
                  go_wp2_with fail
                  exact bodyPost_ret (v := .tuple #[.agg #[.string s.name, .slice s.ia s.items.length s.ic], I 0]) (by simp [results, Try.results16, go_sem, r0, r1, f0, f1, hBB]) rfl (HFIN.out _ _)
theorem rdraw_any (w : World) (g : Gr) (hg : GrAt w g) (hl : GLen g) (hw : ∀ x ∈ g.acts, 0 ≤ x.tag ∧ x.tag ≤ 255) :
    Calls Try.prog 16 #[g.v] w (Drawn w g) := by
  by_cases h : (findG g).1 = 0
  · refine (rdraw_good w g hg hl hw h).mono fun e w' hh => ?_
    unfold Drawn; rw [if_neg (fun hn => hn h)]; exact hh
  · refine (rdraw_bad w g hg hl h).mono fun e w' hh => ?_
    unfold Drawn; rw [if_pos h]; exact hh
end Go.Proofs.Ytpljnapglbmdlaa
