/-
  Layer 8: the program's Draw.
-/
import Derived.Test.YtpljnapglbmdlaaGrT
namespace Go.Proofs.Ytpljnapglbmdlaa
open Go Go.RowKit Go.Joins
set_option linter.all false

theorem SkOwn.spot {w : World} {B R : Nat} {s : Sk} {cs : Array Value} (h : SkOwn w B s) (hb : w.heap[R]? = some (.cells cs 35 (0, 0))) (u v : Value) : SkOwn ((w.setCell ⟨R, 0, none⟩ u).setCell ⟨R, 1, none⟩ v) B s := by
  have k : Keeps (fun k => k = R) w ((w.setCell ⟨R, 0, none⟩ u).setCell ⟨R, 1, none⟩ v) := (Keeps.setCell (S := fun k => k = R) w _ _ rfl).trans (Keeps.setCell (S := fun k => k = R) _ _ _ rfl) (fun _ _ h => h)
  have hR : ∀ e : TypeId, 35 ≠ e → ∀ g, g = R → ∃ cur t fr, w.heap[g]? = some (.cells cur t fr) ∧ t ≠ e := fun e he g hg => ⟨_, _, _, hg ▸ hb, he⟩
  exact ⟨own_oth h.io k (hR _ (by decide)), fun x hx => own_oth (h.nx x hx) k (hR _ (by decide)), h.ap⟩
/-- What Draw answers. -/
def Drawn (w : World) (g : Gr) (e : Ending) (w' : World) : Prop :=
  if (findG g).1 ≠ 0 then e = .returned (.tuple #[.agg #[.string ⟨#[]⟩, .slice none 0 0], I (findG g).1]) ∧ New w w'
  else ∃ s : Sk, e = .returned (.tuple #[s.v, I 0]) ∧ SkOwn w' w.heap.size s ∧ s.bare = drawS g ∧ New w w'
theorem sk_cells {w : World} {C : Nat} {a0 a1 : Value} (h : w.heap[C]? = some (.cells #[a0, a1] 35 (0, 0))) :
    w.cell? ⟨C, 0, none⟩ = some a0 ∧ w.cell? ⟨C, 1, none⟩ = some a1 ∧ w.frozen? ⟨C, 0, none⟩ = false ∧ w.frozen? ⟨C, 1, none⟩ = false ∧ C < w.heap.size := by
  refine ⟨?_, ?_, unfrozen_of_block h 0, unfrozen_of_block h 1, (Array.getElem?_eq_some_iff.1 h).1⟩
  all_goals rw [cell_of_block h]; rfl
/-- How far Draw has come: the sketch at block w.heap.size + 2 (of those from w on) holds the items of D. -/
structure DrawAt (w : World) (g : Gr) (P : Nat) (D : List SIt) (s : Sk) (w' : World) : Prop where
  sk : SkB w' w.heap.size P s
  nm : s.name = g.name
  it : s.items.map SIt.bare = D
  nw : New w w'
  hg : w'.heap[w.heap.size]? = some (.cells g.cs 26 (0, 0))
  hr : w'.heap[w.heap.size + 1]? = some (.cells #[.string ⟨#[]⟩, .slice none 0 0] 35 (0, 0))
  hP : w.heap.size + 1 < P
theorem DrawAt.new {w w1 w2 : World} {g : Gr} {P : Nat} {D : List SIt} {s : Sk} (h : DrawAt w g P D s w1) (k : New w1 w2) : DrawAt w g P D s w2 :=
  ⟨h.sk.new k, h.nm, h.it, h.nw.trans k, Keeps.heap k h.hg (fun h => h), Keeps.heap k h.hr (fun h => h), h.hP⟩
theorem DrawAt.ne {w w' : World} {g : Gr} {P : Nat} {D : List SIt} {s : Sk} (h : DrawAt w g P D s w') {b : Nat} {cs : Array Value} {t : TypeId} (hb : w'.heap[b]? = some (.cells cs t (0, 0))) (ht : t ≠ 45) : ¬ blk s.ia b := fun hx => by
  obtain ⟨cur, hc⟩ := tab_tag h.sk.own.io (own_blk hx)
  rw [hb] at hc; simp at hc; exact ht hc.2
theorem DrawAt.add {w w1 w2 w3 : World} {g : Gr} {P : Nat} {D D' : List SIt} {s : Sk} (h : DrawAt w g P D s w1) (x : SIt) (hx : OwnI w2 w.heap.size x.a x.c x.xs) (hd : ∀ k, blk x.a k → w1.heap.size ≤ k) (k12 : New w1 w2) (hD : (s.items ++ [x]).map SIt.bare = D')
    {a' : Option Addr} {c' : Nat} (ho : w3.ownsRow w.heap.size 45 11 (.slice a' (s.items.length + 1) c') (s.items.length + 1) (s.items.flatMap itCells ++ itCells x)) (hk : Keeps (blk s.ia) w2 w3) :
    (w3.cell? ⟨P, 1, none⟩ = some (.slice s.ia s.items.length s.ic) ∧ w3.frozen? ⟨P, 1, none⟩ = false ∧ P < w3.heap.size) ∧
    DrawAt w g P D' { s with ia := a', ic := c', items := s.items ++ [x] } (w3.setCell ⟨P, 1, none⟩ (.slice a' (s.items.length + 1) c')) := by
  obtain ⟨hc, hs, hkk⟩ := h.sk.add x hx hd k12 ho hk
  have hP := h.hP
  have hb : ∀ {b : Nat} {cs : Array Value} {t : TypeId}, w1.heap[b]? = some (.cells cs t (0, 0)) → t ≠ 45 → b ≠ P → (w3.setCell ⟨P, 1, none⟩ (.slice a' (s.items.length + 1) c')).heap[b]? = some (.cells cs t (0, 0)) := fun hb ht hne =>
    hkk.heap hb (fun hx => by
      rcases hx with hx | hx
      · exact hne hx
      · exact h.ne hb ht hx)
  exact ⟨hc, hs, h.nm, hD, h.sk.news rfl (by omega) h.nw hkk, hb h.hg (by decide) (by omega), hb h.hr (by decide) (by omega), hP⟩
set_option maxRecDepth 100000 in
set_option maxHeartbeats 8000000 in
theorem cdraw_bad (w : World) (g : Gr) (hg : GrAt w g) (hl : GLen g) (h : (findG g).1 ≠ 0) :
    Calls Try.prog 15 #[g.v] w fun e w' => e = .returned (.tuple #[.agg #[.string ⟨#[]⟩, .slice none 0 0], I (findG g).1]) ∧ New w w' := by
  have HC : ∀ W, New w W → Calls Try.prog 12 #[g.v] W fun en w' => en = .returned (I (findG g).1) ∧ New W w' := fun W k => ccheck_any W g (hg.new k) hl
  generalize (findG g).1 = f at h HC ⊢
  have d0 : (f != 0) = true := by simp [h]
  clear hg hl h
  simp only [Gr.v, Gr.cs] at HC ⊢
  go_enter Try.func15, Try.ntmps15
  go_wp2_with fail
  have na : New w (w.alloc (.cells #[.string g.name, .slice g.aa g.acts.length g.ac, .slice g.ea g.edges.length g.ec, .slice g.ia g.ins.length g.ic, .slice g.oa g.outs.length g.oc] 26)) := (New.refl w).alloc _
  have ha : (w.alloc (.cells #[.string g.name, .slice g.aa g.acts.length g.ac, .slice g.ea g.edges.length g.ec, .slice g.ia g.ins.length g.ic, .slice g.oa g.outs.length g.oc] 26)).heap[w.heap.size]? = some (.cells #[.string g.name, .slice g.aa g.acts.length g.ac, .slice g.ea g.edges.length g.ec, .slice g.ia g.ins.length g.ic, .slice g.oa g.outs.length g.oc] 26 (0, 0)) := heap_alloc_new w _
  have sa : (w.alloc (.cells #[.string g.name, .slice g.aa g.acts.length g.ac, .slice g.ea g.edges.length g.ec, .slice g.ia g.ins.length g.ic, .slice g.oa g.outs.length g.oc] 26)).heap.size = w.heap.size + 1 := size_alloc _ _
  generalize (w.alloc (.cells #[.string g.name, .slice g.aa g.acts.length g.ac, .slice g.ea g.edges.length g.ec, .slice g.ia g.ins.length g.ic, .slice g.oa g.outs.length g.oc] 26)) = wa at na ha sa ⊢
  have nb : New wa (wa.alloc (.cells #[.string ⟨#[]⟩, .slice none 0 0] 35)) := (New.refl wa).alloc _
  have hb : (wa.alloc (.cells #[.string ⟨#[]⟩, .slice none 0 0] 35)).heap[wa.heap.size]? = some (.cells #[.string ⟨#[]⟩, .slice none 0 0] 35 (0, 0)) := heap_alloc_new wa _
  rw [sa] at hb
  have hs0 : (wa.alloc (.cells #[.string ⟨#[]⟩, .slice none 0 0] 35)).heap.size = w.heap.size + 1 + 1 := by rw [size_alloc, sa]
  generalize (wa.alloc (.cells #[.string ⟨#[]⟩, .slice none 0 0] 35)) = wb at nb hb hs0 ⊢
  have HX := Lib.hid (Keeps.heap nb ha (fun h => h))
  have HB := Lib.hid hb
  have hN : New w wb := na.trans nb
  clear na nb ha hb sa
  refine (HC wb hN).mono ?_
  rintro e W1 ⟨rfl, k1⟩
  replace HX := Lib.hid (Keeps.heap k1 HX.out (fun h => h))
  replace HB := Lib.hid (Keeps.heap k1 HB.out (fun h => h))
  replace hN := hN.trans k1
  have hsz : w.heap.size + 1 < W1.heap.size := (Array.getElem?_eq_some_iff.1 HB.out).1
  clear k1 hs0
  obtain ⟨r0, r1, f0, f1, hBB⟩ := sk_cells HB.out
  go_wp2_with fail
  exact bodyPost_ret (v := .tuple #[.agg #[.string ⟨#[]⟩, .slice none 0 0], I f]) (by simp [results, Try.results15, go_sem, r0, r1, f0, f1, hBB]) rfl ⟨rfl, (hN.setCell (by simp) _).setCell (by simp) _⟩
set_option maxRecDepth 100000 in
set_option maxHeartbeats 32000000 in
theorem cdraw_good (w : World) (g : Gr) (hg : GrAt w g) (hl : GLen g) (hw : ∀ x ∈ g.acts, 0 ≤ x.tag ∧ x.tag ≤ 255) (h : (findG g).1 = 0) :
    Calls Try.prog 15 #[g.v] w fun e w' => ∃ s : Sk, e = .returned (.tuple #[s.v, I 0]) ∧ SkOwn w' w.heap.size s ∧ s.bare = drawS g ∧ New w w' := by
  have HS := Lib.hid (sound_of h)
  have HC : ∀ W, New w W → Calls Try.prog 12 #[g.v] W fun en w' => en = .returned (I 0) ∧ New W w' := fun W k => by
    have := ccheck_any W g (hg.new k) hl; rwa [h] at this
  obtain ⟨it, hit, hz0, hz1, hz2⟩ := info_parts infoItem
  have HG := Lib.hid hg
  have HW := Lib.hid hw
  have hla := hl.a
  have hle := hl.e
  have hli := hl.i
  have hlo := hl.o
  clear hg hl h hw
  obtain ⟨post, hpost⟩ : ∃ post : Ending → World → Prop, (fun e w' => ∃ s : Sk, e = .returned (.tuple #[s.v, I 0]) ∧ SkOwn w' w.heap.size s ∧ s.bare = drawS g ∧ New w w') = post := ⟨_, rfl⟩
  rw [hpost]
  have HP := Lib.hid hpost
  clear hpost
  obtain ⟨aA, hA⟩ : ∃ a, g.aa = a := ⟨_, rfl⟩
  obtain ⟨aE, hE⟩ : ∃ a, g.ea = a := ⟨_, rfl⟩
  obtain ⟨aI, hI⟩ : ∃ a, g.ia = a := ⟨_, rfl⟩
  obtain ⟨aO, hO⟩ : ∃ a, g.oa = a := ⟨_, rfl⟩
  have HA := Lib.hid hA
  have HE := Lib.hid hE
  have HI := Lib.hid hI
  have HO := Lib.hid hO
  clear hA hE hI hO
  simp only [Gr.v, Gr.cs] at HC ⊢
  go_enter Try.func15, Try.ntmps15
  go_wp2_with fail
  have na : New w (w.alloc (.cells #[.string g.name, .slice g.aa g.acts.length g.ac, .slice g.ea g.edges.length g.ec, .slice g.ia g.ins.length g.ic, .slice g.oa g.outs.length g.oc] 26)) := (New.refl w).alloc _
  have ha : (w.alloc (.cells #[.string g.name, .slice g.aa g.acts.length g.ac, .slice g.ea g.edges.length g.ec, .slice g.ia g.ins.length g.ic, .slice g.oa g.outs.length g.oc] 26)).heap[w.heap.size]? = some (.cells #[.string g.name, .slice g.aa g.acts.length g.ac, .slice g.ea g.edges.length g.ec, .slice g.ia g.ins.length g.ic, .slice g.oa g.outs.length g.oc] 26 (0, 0)) := heap_alloc_new w _
  have sa : (w.alloc (.cells #[.string g.name, .slice g.aa g.acts.length g.ac, .slice g.ea g.edges.length g.ec, .slice g.ia g.ins.length g.ic, .slice g.oa g.outs.length g.oc] 26)).heap.size = w.heap.size + 1 := size_alloc _ _
  generalize (w.alloc (.cells #[.string g.name, .slice g.aa g.acts.length g.ac, .slice g.ea g.edges.length g.ec, .slice g.ia g.ins.length g.ic, .slice g.oa g.outs.length g.oc] 26)) = wa at na ha sa ⊢
  have nb : New wa (wa.alloc (.cells #[.string ⟨#[]⟩, .slice none 0 0] 35)) := (New.refl wa).alloc _
  have hb : (wa.alloc (.cells #[.string ⟨#[]⟩, .slice none 0 0] 35)).heap[wa.heap.size]? = some (.cells #[.string ⟨#[]⟩, .slice none 0 0] 35 (0, 0)) := heap_alloc_new wa _
  rw [sa] at hb
  have hs0 : (wa.alloc (.cells #[.string ⟨#[]⟩, .slice none 0 0] 35)).heap.size = w.heap.size + 1 + 1 := by rw [size_alloc, sa]
  generalize (wa.alloc (.cells #[.string ⟨#[]⟩, .slice none 0 0] 35)) = wb at nb hb hs0 ⊢
  have HX := Lib.hid (Keeps.heap nb ha (fun h => h))
  have HB := Lib.hid hb
  have hN : New w wb := na.trans nb
  clear na nb ha hb sa
  refine (HC wb hN).mono ?_
  rintro e W1 ⟨rfl, k1⟩
  replace HX := Lib.hid (Keeps.heap k1 HX.out (fun h => h))
  replace HB := Lib.hid (Keeps.heap k1 HB.out (fun h => h))
  replace hN := hN.trans k1
  have hsz : w.heap.size + 1 < W1.heap.size := (Array.getElem?_eq_some_iff.1 HB.out).1
  clear k1 hs0
  obtain ⟨g0, g1, g2, g3, g4, hGl⟩ := gr_cells HX.out
  rw [HA.out] at g1
  go_wp2_with fail
  have ks : New W1 (W1.alloc (.cells #[.string g.name, .slice none 0 0] 35)) := (New.refl W1).alloc _
  have hp : (W1.alloc (.cells #[.string g.name, .slice none 0 0] 35)).heap[W1.heap.size]? = some (.cells #[.string g.name, .slice none 0 0] 35 (0, 0)) := heap_alloc_new W1 _
  generalize (W1.alloc (.cells #[.string g.name, .slice none 0 0] 35)) = W2 at ks hp ⊢
  generalize W1.heap.size = P at hp hsz ⊢
  have hD : DrawAt w g P [] ⟨g.name, none, 0, []⟩ W2 := ⟨⟨hp, ⟨World.ownsRow_nil _ _ _ _, (fun x hx => by cases hx), List.Pairwise.nil⟩⟩, rfl, rfl, hN.trans ks, Keeps.heap ks HX.out (fun h => h), Keeps.heap ks HB.out (fun h => h), hsz⟩
  have HD : Hid (DrawAt w g P ([] ++ (g.acts.take 0).map actIt) ⟨g.name, none, 0, []⟩ W2) := Lib.hid (by simpa using hD)
  clear ks hp hD HX HB hN HC g0 g1 g2 g3 g4 hGl
  go_loopw [30] (fun i wr => ∃ (k : Nat) (s : Sk), k ≤ g.acts.length ∧ i = .int .i64 k ∧ Hid (DrawAt w g P ([] ++ (g.acts.take k).map (actIt)) s wr)) (fun i _ => g.acts.length - (intOf i).toNat)
  case atStart => exact ⟨0, _, by omega, rfl, HD⟩
  case round =>
    clear HD
    obtain ⟨k, s, hk, rfl, HD⟩ := hrel
    by_cases hk1 : k < g.acts.length
    · have hkI : (k : Int) < (g.acts.length : Int) := by omega
      have hkd : decide (k < g.acts.length) = true := decide_eq_true hk1
      have hGr := HG.out.new HD.out.nw
      obtain ⟨b, off, hab, q0, q1, q2⟩ := acts_at hGr.sa hk1
      have hbw : b < wr.heap.size := World.block_lt_of_cell? wr _ q0
      have hil : s.items.length ≤ 160 := by
        have h1 := bare_len HD.out.it
        have h2 := HS.out.na
        have h3 := HS.out.ne
        have h4 := HS.out.ni
        have h5 := HS.out.no
        simp at h1
        omega
      have e : aA = some ⟨b, off, none⟩ := HA.out.symm.trans hab
      subst e
      have HIT : Hid (∀ y : SIt, y.bare = actIt g.acts[k] → (s.items ++ [y]).map SIt.bare = [] ++ (g.acts.take (k + 1)).map (actIt)) := Lib.hid (fun y hy => bare_next HD.out.it hk1 hy)
      clear hab hGr
      have hxn := (shape_good (HS.out.act k hk1).2).2.2
      have hwt := HW.out _ (List.getElem_mem hk1)
      have HXS := fun W (n : New wr W) => ((HG.out.new HD.out.nw).ax _ (List.getElem_mem hk1)).new n
      generalize g.acts[k] = x at q0 q1 q2 hxn hwt HXS HIT
      generalize hwd : wordS x.tag = wd
      have HWD := Lib.hid hwd
      clear hwd
      go_wp2_with fail
      have kb : New wr (wr.alloc (.cells #[.string x.name, .int .u8 x.tag, .slice x.a x.xs.length x.c] 55)) := (New.refl wr).alloc _
      have hby : (wr.alloc (.cells #[.string x.name, .int .u8 x.tag, .slice x.a x.xs.length x.c] 55)).heap[wr.heap.size]? = some (.cells #[.string x.name, .int .u8 x.tag, .slice x.a x.xs.length x.c] 55 (0, 0)) := heap_alloc_new wr _
      generalize (wr.alloc (.cells #[.string x.name, .int .u8 x.tag, .slice x.a x.xs.length x.c] 55)) = w1 at kb hby ⊢
      generalize wr.heap.size = Y at hby ⊢
      replace HD := Lib.hid (HD.out.new kb)
      refine (shWord_any x.tag hwt.1 hwt.2 w1).mono ?_
      rintro e w2 ⟨rfl, k2⟩
      rw [HWD.out]
      have HY := Lib.hid (Keeps.heap k2 hby (fun h => h))
      replace HD := Lib.hid (HD.out.new k2)
      replace kb := kb.trans k2
      clear hby k2 hbw q0 q1 q2
      go_wp2_with fail
      obtain ⟨-, p1, -, -, hPl⟩ := sk_cells HD.out.sk.blkP
      have hYl : Y < w2.heap.size := (Array.getElem?_eq_some_iff.1 HY.out).1
      have hdr : New w2 w2.drew := (New.refl w2).drew
      have HSn : ∀ V, New w2 V → (fun w' : World => w'.cell? ⟨P, 1, none⟩ = some (.slice s.ia s.items.length s.ic) ∧ P < w'.heap.size ∧ Y < w'.heap.size ∧ w'.cell? ⟨Y, 0, none⟩ = some (.string x.name) ∧ w'.cell? ⟨Y, 2, none⟩ = some (.slice x.a x.xs.length x.c)) V := fun V kv => ⟨kv.cell p1, Nat.lt_of_lt_of_le hPl kv.size, Nat.lt_of_lt_of_le hYl kv.size, by rw [cell_of_block (Keeps.heap kv HY.out (fun h => h)) 0]; rfl, by rw [cell_of_block (Keeps.heap kv HY.out (fun h => h)) 2]; rfl⟩
      have hS0 := HSn _ hdr
      clear p1 hPl hYl
      refine wp_region_X (fun w' : World => w'.cell? ⟨P, 1, none⟩ = some (.slice s.ia s.items.length s.ic) ∧ P < w'.heap.size ∧ Y < w'.heap.size ∧ w'.cell? ⟨Y, 0, none⟩ = some (.string x.name) ∧ w'.cell? ⟨Y, 2, none⟩ = some (.slice x.a x.xs.length x.c)) [10, 11, 12] (by kernel_rfl) hS0 ?_
      refine anyX_take 0 (by kernel_rfl) (by kernel_rfl) (by kernel_rfl) (by kernel_rfl) (by kernel_rfl) hS0 ?_
      intro oi ho; simp only [List.getElem?_toArray, List.getElem?_cons_succ, List.getElem?_cons_zero, Option.some.injEq] at ho; subst ho
      refine ⟨?_, fun _ _ _ h => h, Or.inl ⟨by rfl, ?_⟩, ?_⟩; rotate_left 1
      · (intro wS hSw; (try dsimp only at hSw); go_simp; try with_reducible rfl)
      simp only [Act.put, List.setIfInBounds_toArray, List.set_cons_zero, List.set_cons_succ]
      refine anyX_take 1 (by kernel_rfl) (by kernel_rfl) (by kernel_rfl) (by kernel_rfl) (by kernel_rfl) hS0 ?_
      intro oi ho; simp only [List.getElem?_toArray, List.getElem?_cons_succ, List.getElem?_cons_zero, Option.some.injEq] at ho; subst ho
      refine ⟨?_, fun _ _ _ h => h, Or.inl ⟨by rfl, ?_⟩, ?_⟩; rotate_left 1
      · (intro wS hSw; (try dsimp only at hSw); go_simp; try with_reducible rfl)
      simp only [Act.put, List.setIfInBounds_toArray, List.set_cons_zero, List.set_cons_succ]
      refine anyX_take 2 (by kernel_rfl) (by kernel_rfl) (by kernel_rfl) (by kernel_rfl) (by kernel_rfl) hS0 ?_
      intro oi ho; simp only [List.getElem?_toArray, List.getElem?_cons_succ, List.getElem?_cons_zero, Option.some.injEq] at ho; subst ho
      refine ⟨?_, fun _ _ _ h => h, Or.inl ⟨by rfl, ?_⟩, ?_⟩; rotate_left 1
      · (intro wS hSw; (try dsimp only at hSw); go_simp; try with_reducible rfl)
      simp only [Act.put, List.setIfInBounds_toArray, List.set_cons_zero, List.set_cons_succ]
      refine anyX_take 3 (by kernel_rfl) (by kernel_rfl) (by kernel_rfl) (by kernel_rfl) (by kernel_rfl) hS0 ?_
      intro oi ho; simp only [List.getElem?_toArray, List.getElem?_cons_succ, List.getElem?_cons_zero, Option.some.injEq] at ho; subst ho
      refine ⟨?_, fun _ _ _ h => h, Or.inl ⟨by rfl, ?_⟩, ?_⟩; rotate_left 1
      · (intro wS hSw; (try dsimp only at hSw); go_simp; try with_reducible rfl)
      simp only [Act.put, List.setIfInBounds_toArray, List.set_cons_zero, List.set_cons_succ]
      refine anyX_take 4 (by kernel_rfl) (by kernel_rfl) (by kernel_rfl) (by kernel_rfl) (by kernel_rfl) hS0 ?_
      intro oi ho; simp only [List.getElem?_toArray, List.getElem?_cons_succ, List.getElem?_cons_zero, Option.some.injEq] at ho; subst ho
      refine ⟨?_, fun _ _ _ h => h, Or.inl ⟨by rfl, ?_⟩, ?_⟩; rotate_left 1
      · (intro wS hSw; (try dsimp only at hSw); go_simp; try with_reducible rfl)
      simp only [Act.put, List.setIfInBounds_toArray, List.set_cons_zero, List.set_cons_succ]
      refine anyX_take 5 (by kernel_rfl) (by kernel_rfl) (by kernel_rfl) (by kernel_rfl) (by kernel_rfl) hS0 ?_
      intro oi ho; simp only [List.getElem?_toArray, List.getElem?_cons_succ, List.getElem?_cons_zero, Option.some.injEq] at ho; subst ho
      refine ⟨?_, fun _ _ _ h => h, Or.inl ⟨by rfl, ?_⟩, ?_⟩; rotate_left 1
      · (intro wS hSw; (try dsimp only at hSw); go_simp; try with_reducible rfl)
      simp only [Act.put, List.setIfInBounds_toArray, List.set_cons_zero, List.set_cons_succ]
      refine anyX_take 6 (by kernel_rfl) (by kernel_rfl) (by kernel_rfl) (by kernel_rfl) (by kernel_rfl) hS0 ?_
      intro oi ho; simp only [List.getElem?_toArray, List.getElem?_cons_succ, List.getElem?_cons_zero, Option.some.injEq] at ho; subst ho
      refine ⟨?_, fun _ _ _ h => h, Or.inl ⟨by rfl, ?_⟩, ?_⟩; rotate_left 1
      · (intro wS hSw; (try dsimp only at hSw); go_simp; try with_reducible rfl)
      simp only [Act.put, List.setIfInBounds_toArray, List.set_cons_zero, List.set_cons_succ]
      refine anyX_one 7 (by kernel_rfl) ?_
      intro oi ho; simp only [List.getElem?_toArray, List.getElem?_cons_succ, List.getElem?_cons_zero, Option.some.injEq] at ho; subst ho; intro K hK
      (try simp only [Act.put, List.setIfInBounds_toArray, List.set_cons_zero, List.set_cons_succ])
      go_simp
      refine (numbers_any w2.drew x.a x.c x.xs (HXS _ (kb.trans hdr)) (by omega)).mono ?_
      rintro e V1 ⟨a9, c9, rfl, ho9, kc1⟩
      have kd1 := hdr.trans kc1
      have hS1 := HSn _ kd1
      refine hK _ _ (fun _ => hS1) ?_
      clear hK K
      refine anyX_take 8 (by kernel_rfl) (by kernel_rfl) (by kernel_rfl) (by kernel_rfl) (by kernel_rfl) hS1 ?_
      intro oi ho; simp only [List.getElem?_toArray, List.getElem?_cons_succ, List.getElem?_cons_zero, Option.some.injEq] at ho; subst ho
      refine ⟨?_, fun _ _ _ h => h, Or.inl ⟨by rfl, ?_⟩, ?_⟩; rotate_left 1
      · (intro wS hSw; (try dsimp only at hSw); go_simp; try with_reducible rfl)
      simp only [Act.put, List.setIfInBounds_toArray, List.set_cons_zero, List.set_cons_succ]
      refine anyX_one 9 (by kernel_rfl) ?_
      intro oi ho; simp only [List.getElem?_toArray, List.getElem?_cons_succ, List.getElem?_cons_zero, Option.some.injEq] at ho; subst ho; intro K hK
      (try simp only [Act.put, List.setIfInBounds_toArray, List.set_cons_zero, List.set_cons_succ])
      go_simp
      have kl : New V1 (V1.alloc (.cells #[.int .u8 1, .string x.name, .string wd.1, .slice a9 x.xs.length c9, .string ⟨#[]⟩, I 0, I 0, .string ⟨#[]⟩, I 0, I 0, I 0] 45)) := (New.refl V1).alloc _
      have hlit : SlAt (V1.alloc (.cells #[.int .u8 1, .string x.name, .string wd.1, .slice a9 x.xs.length c9, .string ⟨#[]⟩, I 0, I 0, .string ⟨#[]⟩, I 0, I 0, I 0] 45)) (some ⟨V1.heap.size, 0, none⟩) (itCells (⟨1, x.name, wd.1, a9, c9, x.xs, ⟨#[]⟩, 0, 0, ⟨#[]⟩, 0, 0, 0⟩ : SIt)) := SlAt.lit V1 _ _
      have kz := kd1.trans kl
      have hxo : OwnI (V1.alloc (.cells #[.int .u8 1, .string x.name, .string wd.1, .slice a9 x.xs.length c9, .string ⟨#[]⟩, I 0, I 0, .string ⟨#[]⟩, I 0, I 0, I 0] 45)) w.heap.size ((⟨1, x.name, wd.1, a9, c9, x.xs, ⟨#[]⟩, 0, 0, ⟨#[]⟩, 0, 0, 0⟩ : SIt)).a ((⟨1, x.name, wd.1, a9, c9, x.xs, ⟨#[]⟩, 0, 0, ⟨#[]⟩, 0, 0, 0⟩ : SIt)).c ((⟨1, x.name, wd.1, a9, c9, x.xs, ⟨#[]⟩, 0, 0, ⟨#[]⟩, 0, 0, 0⟩ : SIt)).xs := ownsRow_le (ho9.new kl) (Nat.le_trans HD.out.nw.size hdr.size)
      have hxd : ∀ k, blk ((⟨1, x.name, wd.1, a9, c9, x.xs, ⟨#[]⟩, 0, 0, ⟨#[]⟩, 0, 0, 0⟩ : SIt)).a k → w2.heap.size ≤ k := fun k hk => Nat.le_trans hdr.size (own_of_blk ho9 hk).1
      refine hK _ _ (fun _ => HSn _ kz) ?_
      clear hK K
      generalize (V1.alloc (.cells #[.int .u8 1, .string x.name, .string wd.1, .slice a9 x.xs.length c9, .string ⟨#[]⟩, I 0, I 0, .string ⟨#[]⟩, I 0, I 0, I 0] 45)) = VZ at kl hlit kz hxo ⊢
      generalize V1.heap.size = Z at hlit ⊢
      refine anyX_one 10 (by kernel_rfl) ?_
      intro oi ho; simp only [List.getElem?_toArray, List.getElem?_cons_succ, List.getElem?_cons_zero, Option.some.injEq] at ho; subst ho; intro K hK
      refine step_app rfl _ _ 33 rfl w.heap.size 45 it _ 11 136 Try.underlying33 hit hz0 hz1 hz2 rfl (by decide) s.ia s.items.length s.ic (s.items.flatMap itCells) rfl (HD.out.new kz).sk.own.io (some ⟨Z, 0, none⟩) 1 1 (itCells (⟨1, x.name, wd.1, a9, c9, x.xs, ⟨#[]⟩, 0, 0, ⟨#[]⟩, 0, 0, 0⟩ : SIt)) rfl rfl hlit (one_it _) (by unfold maxLen; omega) (by omega) (Nat.le_trans HD.out.nw.size kz.size) ?_
      intro ao' c' wc hown' hk' hmv
      obtain ⟨⟨hv0, hfz, hPl2⟩, hDn⟩ := HD.out.add (⟨1, x.name, wd.1, a9, c9, x.xs, ⟨#[]⟩, 0, 0, ⟨#[]⟩, 0, 0, 0⟩ : SIt) hxo hxd kz (HIT.out _ (by unfold actIt; rw [HWD.out]; rfl)) hown' hk'
      have HDn := Lib.hid hDn
      refine hK _ _ (fun hx => by cases hx) ?_
      clear hK K hDn hown' hk' hmv
      refine anyX_one 11 (by kernel_rfl) ?_
      intro oi ho; simp only [List.getElem?_toArray, List.getElem?_cons_succ, List.getElem?_cons_zero, Option.some.injEq] at ho; subst ho; intro K hK
      (try simp only [Act.put, List.setIfInBounds_toArray, List.set_cons_zero, List.set_cons_succ])
      go_simp
      refine hK _ _ (fun hx => by cases hx) ?_
      clear hK K
      refine anyX_one 12 (by kernel_rfl) ?_
      intro oi ho; simp only [List.getElem?_toArray, List.getElem?_cons_succ, List.getElem?_cons_zero, Option.some.injEq] at ho; subst ho; intro K hK
      (try simp only [Act.put, List.setIfInBounds_toArray, List.set_cons_zero, List.set_cons_succ])
      go_simp
      refine hK _ _ (fun hx => by cases hx) ?_
      clear hK K
      refine anyX_done (by kernel_rfl) ?_
      (try simp only [Act.put, List.setIfInBounds_toArray, List.set_cons_zero, List.set_cons_succ])
      clear hS0 HSn
      (try simp only [Exit.then])
      go_wp2_with fail
      go_roundw
      case rel => exact ⟨k + 1, _, by omega, by go_num, HDn⟩
      case measure => simp [intOf]; omega
    · have hke : k = g.acts.length := by omega
      have hkd : decide (k < g.acts.length) = false := decide_eq_false hk1
      rw [hke, List.take_length] at HD
      clear hke hk hk1
      obtain ⟨g0, g1, g2, g3, g4, hGl⟩ := gr_cells HD.out.hg
      rw [HE.out] at g2
      go_wp2_with fail
      clear g0 g1 g2 g3 g4 hGl
      have HD0 : Hid (DrawAt w g P (([] ++ g.acts.map actIt) ++ (g.edges.take 0).map (edgeIt g)) s wr) := Lib.hid (by simpa using HD.out)
      replace HD := HD0
      clear HD0
      go_loopw [56] (fun i wr => ∃ (k : Nat) (s : Sk), k ≤ g.edges.length ∧ i = .int .i64 k ∧ Hid (DrawAt w g P (([] ++ g.acts.map actIt) ++ (g.edges.take k).map (edgeIt g)) s wr)) (fun i _ => g.edges.length - (intOf i).toNat)
      case atStart => exact ⟨0, _, by omega, rfl, HD⟩
      case round =>
        clear HD
        obtain ⟨k, s, hk, rfl, HD⟩ := hrel
        by_cases hk1 : k < g.edges.length
        · have hkI : (k : Int) < (g.edges.length : Int) := by omega
          have hkd : decide (k < g.edges.length) = true := decide_eq_true hk1
          have hGr := HG.out.new HD.out.nw
          obtain ⟨b, off, hab, q0, q1, q2, q3, q4⟩ := gedges_at hGr.se hk1
          have hbw : b < wr.heap.size := World.block_lt_of_cell? wr _ q0
          have hil : s.items.length ≤ 160 := by
            have h1 := bare_len HD.out.it
            have h2 := HS.out.na
            have h3 := HS.out.ne
            have h4 := HS.out.ni
            have h5 := HS.out.no
            simp at h1
            omega
          have e : aE = some ⟨b, off, none⟩ := HE.out.symm.trans hab
          subst e
          have HIT : Hid (∀ y : SIt, y.bare = edgeIt g g.edges[k] → (s.items ++ [y]).map SIt.bare = ([] ++ g.acts.map actIt) ++ (g.edges.take (k + 1)).map (edgeIt g)) := Lib.hid (fun y hy => bare_next HD.out.it hk1 hy)
          clear hab hGr
          have hxn := (HS.out.edge k hk1).2.2
          have HXS := fun W (n : New wr W) => ((HG.out.new HD.out.nw).ex _ (List.getElem_mem hk1)).new n
          obtain ⟨xf, hxf, ef, -⟩ := endE_zero (HS.out.edge k hk1).1
          obtain ⟨xt, hxt, et, -⟩ := endE_zero (HS.out.edge k hk1).2.1
          generalize g.edges[k] = x at q0 q1 q2 q3 q4 hxn HXS HIT ef et
          obtain ⟨f1, fp, t1, tp, xa, xc, xs⟩ := x
          simp only at q0 q1 q2 q3 q4 hxn HXS ef et
          subst ef et
          go_wp2_with fail
          have kb : New wr (wr.alloc (.cells #[I xf, I fp, I xt, I tp, .slice xa xs.length xc] 58)) := (New.refl wr).alloc _
          have hby : (wr.alloc (.cells #[I xf, I fp, I xt, I tp, .slice xa xs.length xc] 58)).heap[wr.heap.size]? = some (.cells #[I xf, I fp, I xt, I tp, .slice xa xs.length xc] 58 (0, 0)) := heap_alloc_new wr _
          generalize (wr.alloc (.cells #[I xf, I fp, I xt, I tp, .slice xa xs.length xc] 58)) = w1 at kb hby ⊢
          generalize wr.heap.size = Y at hby ⊢
          replace HD := Lib.hid (HD.out.new kb)
          have HY := Lib.hid hby
          have kb0 := kb
          clear hby kb hbw
          have HCF : ∀ V (k : New w1 V), Calls Try.prog 29 #[I xf, I fp, .pointer (some ⟨w.heap.size, 0, none⟩)] V fun e w' => e = .returned (.agg #[.string g.acts[xf].name, I fp, I 0]) ∧ New V w' := fun V k => cend_any V w.heap.size g xf fp (Keeps.heap k HD.out.hg (fun h => h)) (HG.out.new (HD.out.nw.trans k)) hxf hla
          have HNF := Lib.hid (nameAt_is g hxf)
          generalize g.acts[xf].name = nF at HCF HNF
          have HCT : ∀ V (k : New w1 V), Calls Try.prog 29 #[I xt, I tp, .pointer (some ⟨w.heap.size, 0, none⟩)] V fun e w' => e = .returned (.agg #[.string g.acts[xt].name, I tp, I 0]) ∧ New V w' := fun V k => cend_any V w.heap.size g xt tp (Keeps.heap k HD.out.hg (fun h => h)) (HG.out.new (HD.out.nw.trans k)) hxt hla
          have HNT := Lib.hid (nameAt_is g hxt)
          generalize g.acts[xt].name = nT at HCT HNT
          have kb : Hid (∀ V, New w1 V → SlAt V xa (Is xs)) := Lib.hid (fun V n => HXS V (kb0.trans n))
          clear HXS kb0 q0 q1 q2 q3 q4
          go_wp2_with fail
          obtain ⟨-, p1, -, -, hPl⟩ := sk_cells HD.out.sk.blkP
          have hYl : Y < w1.heap.size := (Array.getElem?_eq_some_iff.1 HY.out).1
          have hdr : New w1 w1.drew := (New.refl w1).drew
          have HSn : ∀ V, New w1 V → (fun w' : World => w'.cell? ⟨P, 1, none⟩ = some (.slice s.ia s.items.length s.ic) ∧ P < w'.heap.size ∧ Y < w'.heap.size ∧ w'.cell? ⟨Y, 0, none⟩ = some (I xf) ∧ w'.cell? ⟨Y, 1, none⟩ = some (I fp) ∧ w'.cell? ⟨Y, 2, none⟩ = some (I xt) ∧ w'.cell? ⟨Y, 3, none⟩ = some (I tp) ∧ w'.cell? ⟨Y, 4, none⟩ = some (.slice xa xs.length xc)) V := fun V kv => ⟨kv.cell p1, Nat.lt_of_lt_of_le hPl kv.size, Nat.lt_of_lt_of_le hYl kv.size, by rw [cell_of_block (Keeps.heap kv HY.out (fun h => h)) 0]; rfl, by rw [cell_of_block (Keeps.heap kv HY.out (fun h => h)) 1]; rfl, by rw [cell_of_block (Keeps.heap kv HY.out (fun h => h)) 2]; rfl, by rw [cell_of_block (Keeps.heap kv HY.out (fun h => h)) 3]; rfl, by rw [cell_of_block (Keeps.heap kv HY.out (fun h => h)) 4]; rfl⟩
          have hS0 := HSn _ hdr
          clear p1 hPl hYl
          refine wp_region_X (fun w' : World => w'.cell? ⟨P, 1, none⟩ = some (.slice s.ia s.items.length s.ic) ∧ P < w'.heap.size ∧ Y < w'.heap.size ∧ w'.cell? ⟨Y, 0, none⟩ = some (I xf) ∧ w'.cell? ⟨Y, 1, none⟩ = some (I fp) ∧ w'.cell? ⟨Y, 2, none⟩ = some (I xt) ∧ w'.cell? ⟨Y, 3, none⟩ = some (I tp) ∧ w'.cell? ⟨Y, 4, none⟩ = some (.slice xa xs.length xc)) [19, 20, 21] (by kernel_rfl) hS0 ?_
          refine anyX_take 0 (by kernel_rfl) (by kernel_rfl) (by kernel_rfl) (by kernel_rfl) (by kernel_rfl) hS0 ?_
          intro oi ho; simp only [List.getElem?_toArray, List.getElem?_cons_succ, List.getElem?_cons_zero, Option.some.injEq] at ho; subst ho
          refine ⟨?_, fun _ _ _ h => h, Or.inl ⟨by rfl, ?_⟩, ?_⟩; rotate_left 1
          · (intro wS hSw; (try dsimp only at hSw); go_simp; try with_reducible rfl)
          simp only [Act.put, List.setIfInBounds_toArray, List.set_cons_zero, List.set_cons_succ]
          refine anyX_take 1 (by kernel_rfl) (by kernel_rfl) (by kernel_rfl) (by kernel_rfl) (by kernel_rfl) hS0 ?_
          intro oi ho; simp only [List.getElem?_toArray, List.getElem?_cons_succ, List.getElem?_cons_zero, Option.some.injEq] at ho; subst ho
          refine ⟨?_, fun _ _ _ h => h, Or.inl ⟨by rfl, ?_⟩, ?_⟩; rotate_left 1
          · (intro wS hSw; (try dsimp only at hSw); go_simp; try with_reducible rfl)
          simp only [Act.put, List.setIfInBounds_toArray, List.set_cons_zero, List.set_cons_succ]
          refine anyX_take 2 (by kernel_rfl) (by kernel_rfl) (by kernel_rfl) (by kernel_rfl) (by kernel_rfl) hS0 ?_
          intro oi ho; simp only [List.getElem?_toArray, List.getElem?_cons_succ, List.getElem?_cons_zero, Option.some.injEq] at ho; subst ho
          refine ⟨?_, fun _ _ _ h => h, Or.inl ⟨by rfl, ?_⟩, ?_⟩; rotate_left 1
          · (intro wS hSw; (try dsimp only at hSw); go_simp; try with_reducible rfl)
          simp only [Act.put, List.setIfInBounds_toArray, List.set_cons_zero, List.set_cons_succ]
          refine anyX_take 3 (by kernel_rfl) (by kernel_rfl) (by kernel_rfl) (by kernel_rfl) (by kernel_rfl) hS0 ?_
          intro oi ho; simp only [List.getElem?_toArray, List.getElem?_cons_succ, List.getElem?_cons_zero, Option.some.injEq] at ho; subst ho
          refine ⟨?_, fun _ _ _ h => h, Or.inl ⟨by rfl, ?_⟩, ?_⟩; rotate_left 1
          · (intro wS hSw; (try dsimp only at hSw); go_simp; try with_reducible rfl)
          simp only [Act.put, List.setIfInBounds_toArray, List.set_cons_zero, List.set_cons_succ]
          refine anyX_take 4 (by kernel_rfl) (by kernel_rfl) (by kernel_rfl) (by kernel_rfl) (by kernel_rfl) hS0 ?_
          intro oi ho; simp only [List.getElem?_toArray, List.getElem?_cons_succ, List.getElem?_cons_zero, Option.some.injEq] at ho; subst ho
          refine ⟨?_, fun _ _ _ h => h, Or.inl ⟨by rfl, ?_⟩, ?_⟩; rotate_left 1
          · (intro wS hSw; (try dsimp only at hSw); go_simp; try with_reducible rfl)
          simp only [Act.put, List.setIfInBounds_toArray, List.set_cons_zero, List.set_cons_succ]
          refine anyX_take 5 (by kernel_rfl) (by kernel_rfl) (by kernel_rfl) (by kernel_rfl) (by kernel_rfl) hS0 ?_
          intro oi ho; simp only [List.getElem?_toArray, List.getElem?_cons_succ, List.getElem?_cons_zero, Option.some.injEq] at ho; subst ho
          refine ⟨?_, fun _ _ _ h => h, Or.inl ⟨by rfl, ?_⟩, ?_⟩; rotate_left 1
          · (intro wS hSw; (try dsimp only at hSw); go_simp; try with_reducible rfl)
          simp only [Act.put, List.setIfInBounds_toArray, List.set_cons_zero, List.set_cons_succ]
          refine anyX_take 6 (by kernel_rfl) (by kernel_rfl) (by kernel_rfl) (by kernel_rfl) (by kernel_rfl) hS0 ?_
          intro oi ho; simp only [List.getElem?_toArray, List.getElem?_cons_succ, List.getElem?_cons_zero, Option.some.injEq] at ho; subst ho
          refine ⟨?_, fun _ _ _ h => h, Or.inl ⟨by rfl, ?_⟩, ?_⟩; rotate_left 1
          · (intro wS hSw; (try dsimp only at hSw); go_simp; try with_reducible rfl)
          simp only [Act.put, List.setIfInBounds_toArray, List.set_cons_zero, List.set_cons_succ]
          refine anyX_take 8 (by kernel_rfl) (by kernel_rfl) (by kernel_rfl) (by kernel_rfl) (by kernel_rfl) hS0 ?_
          intro oi ho; simp only [List.getElem?_toArray, List.getElem?_cons_succ, List.getElem?_cons_zero, Option.some.injEq] at ho; subst ho
          refine ⟨?_, fun _ _ _ h => h, Or.inl ⟨by rfl, ?_⟩, ?_⟩; rotate_left 1
          · (intro wS hSw; (try dsimp only at hSw); go_simp; try with_reducible rfl)
          simp only [Act.put, List.setIfInBounds_toArray, List.set_cons_zero, List.set_cons_succ]
          refine anyX_take 9 (by kernel_rfl) (by kernel_rfl) (by kernel_rfl) (by kernel_rfl) (by kernel_rfl) hS0 ?_
          intro oi ho; simp only [List.getElem?_toArray, List.getElem?_cons_succ, List.getElem?_cons_zero, Option.some.injEq] at ho; subst ho
          refine ⟨?_, fun _ _ _ h => h, Or.inl ⟨by rfl, ?_⟩, ?_⟩; rotate_left 1
          · (intro wS hSw; (try dsimp only at hSw); go_simp; try with_reducible rfl)
          simp only [Act.put, List.setIfInBounds_toArray, List.set_cons_zero, List.set_cons_succ]
          refine anyX_take 10 (by kernel_rfl) (by kernel_rfl) (by kernel_rfl) (by kernel_rfl) (by kernel_rfl) hS0 ?_
          intro oi ho; simp only [List.getElem?_toArray, List.getElem?_cons_succ, List.getElem?_cons_zero, Option.some.injEq] at ho; subst ho
          refine ⟨?_, fun _ _ _ h => h, Or.inl ⟨by rfl, ?_⟩, ?_⟩; rotate_left 1
          · (intro wS hSw; (try dsimp only at hSw); go_simp; try with_reducible rfl)
          simp only [Act.put, List.setIfInBounds_toArray, List.set_cons_zero, List.set_cons_succ]
          refine anyX_take 11 (by kernel_rfl) (by kernel_rfl) (by kernel_rfl) (by kernel_rfl) (by kernel_rfl) hS0 ?_
          intro oi ho; simp only [List.getElem?_toArray, List.getElem?_cons_succ, List.getElem?_cons_zero, Option.some.injEq] at ho; subst ho
          refine ⟨?_, fun _ _ _ h => h, Or.inl ⟨by rfl, ?_⟩, ?_⟩; rotate_left 1
          · (intro wS hSw; (try dsimp only at hSw); go_simp; try with_reducible rfl)
          simp only [Act.put, List.setIfInBounds_toArray, List.set_cons_zero, List.set_cons_succ]
          refine anyX_take 12 (by kernel_rfl) (by kernel_rfl) (by kernel_rfl) (by kernel_rfl) (by kernel_rfl) hS0 ?_
          intro oi ho; simp only [List.getElem?_toArray, List.getElem?_cons_succ, List.getElem?_cons_zero, Option.some.injEq] at ho; subst ho
          refine ⟨?_, fun _ _ _ h => h, Or.inl ⟨by rfl, ?_⟩, ?_⟩; rotate_left 1
          · (intro wS hSw; (try dsimp only at hSw); go_simp; try with_reducible rfl)
          simp only [Act.put, List.setIfInBounds_toArray, List.set_cons_zero, List.set_cons_succ]
          refine anyX_take 14 (by kernel_rfl) (by kernel_rfl) (by kernel_rfl) (by kernel_rfl) (by kernel_rfl) hS0 ?_
          intro oi ho; simp only [List.getElem?_toArray, List.getElem?_cons_succ, List.getElem?_cons_zero, Option.some.injEq] at ho; subst ho
          refine ⟨?_, fun _ _ _ h => h, Or.inl ⟨by rfl, ?_⟩, ?_⟩; rotate_left 1
          · (intro wS hSw; (try dsimp only at hSw); go_simp; try with_reducible rfl)
          simp only [Act.put, List.setIfInBounds_toArray, List.set_cons_zero, List.set_cons_succ]
          refine anyX_take 15 (by kernel_rfl) (by kernel_rfl) (by kernel_rfl) (by kernel_rfl) (by kernel_rfl) hS0 ?_
          intro oi ho; simp only [List.getElem?_toArray, List.getElem?_cons_succ, List.getElem?_cons_zero, Option.some.injEq] at ho; subst ho
          refine ⟨?_, fun _ _ _ h => h, Or.inl ⟨by rfl, ?_⟩, ?_⟩; rotate_left 1
          · (intro wS hSw; (try dsimp only at hSw); go_simp; try with_reducible rfl)
          simp only [Act.put, List.setIfInBounds_toArray, List.set_cons_zero, List.set_cons_succ]
          refine anyX_one 7 (by kernel_rfl) ?_
          intro oi ho; simp only [List.getElem?_toArray, List.getElem?_cons_succ, List.getElem?_cons_zero, Option.some.injEq] at ho; subst ho; intro K hK
          (try simp only [Act.put, List.setIfInBounds_toArray, List.set_cons_zero, List.set_cons_succ])
          go_simp
          refine (HCF w1.drew hdr).mono ?_
          rintro e V1 ⟨rfl, kc1⟩
          have kd1 := hdr.trans kc1
          have hS1 := HSn _ kd1
          refine hK _ _ (fun _ => hS1) ?_
          clear hK K
          refine anyX_one 13 (by kernel_rfl) ?_
          intro oi ho; simp only [List.getElem?_toArray, List.getElem?_cons_succ, List.getElem?_cons_zero, Option.some.injEq] at ho; subst ho; intro K hK
          (try simp only [Act.put, List.setIfInBounds_toArray, List.set_cons_zero, List.set_cons_succ])
          go_simp
          refine (HCT V1 kd1).mono ?_
          rintro e V2 ⟨rfl, kc2⟩
          have kd2 := kd1.trans kc2
          have hS2 := HSn _ kd2
          refine hK _ _ (fun _ => hS2) ?_
          clear hK K
          refine anyX_one 16 (by kernel_rfl) ?_
          intro oi ho; simp only [List.getElem?_toArray, List.getElem?_cons_succ, List.getElem?_cons_zero, Option.some.injEq] at ho; subst ho; intro K hK
          (try simp only [Act.put, List.setIfInBounds_toArray, List.set_cons_zero, List.set_cons_succ])
          go_simp
          refine (numbers_any V2 xa xc xs (kb.out _ kd2) (by omega)).mono ?_
          rintro e V3 ⟨a9, c9, rfl, ho9, kc3⟩
          have kd3 := kd2.trans kc3
          have hS3 := HSn _ kd3
          refine hK _ _ (fun _ => hS3) ?_
          clear hK K
          refine anyX_take 17 (by kernel_rfl) (by kernel_rfl) (by kernel_rfl) (by kernel_rfl) (by kernel_rfl) hS3 ?_
          intro oi ho; simp only [List.getElem?_toArray, List.getElem?_cons_succ, List.getElem?_cons_zero, Option.some.injEq] at ho; subst ho
          refine ⟨?_, fun _ _ _ h => h, Or.inl ⟨by rfl, ?_⟩, ?_⟩; rotate_left 1
          · (intro wS hSw; (try dsimp only at hSw); go_simp; try with_reducible rfl)
          simp only [Act.put, List.setIfInBounds_toArray, List.set_cons_zero, List.set_cons_succ]
          refine anyX_one 18 (by kernel_rfl) ?_
          intro oi ho; simp only [List.getElem?_toArray, List.getElem?_cons_succ, List.getElem?_cons_zero, Option.some.injEq] at ho; subst ho; intro K hK
          (try simp only [Act.put, List.setIfInBounds_toArray, List.set_cons_zero, List.set_cons_succ])
          go_simp
          have kl : New V3 (V3.alloc (.cells #[.int .u8 2, .string ⟨#[]⟩, .string ⟨#[]⟩, .slice a9 xs.length c9, .string nF, I fp, I 0, .string nT, I tp, I 0, I 0] 45)) := (New.refl V3).alloc _
          have hlit : SlAt (V3.alloc (.cells #[.int .u8 2, .string ⟨#[]⟩, .string ⟨#[]⟩, .slice a9 xs.length c9, .string nF, I fp, I 0, .string nT, I tp, I 0, I 0] 45)) (some ⟨V3.heap.size, 0, none⟩) (itCells (⟨2, ⟨#[]⟩, ⟨#[]⟩, a9, c9, xs, nF, fp, 0, nT, tp, 0, 0⟩ : SIt)) := SlAt.lit V3 _ _
          have kz := kd3.trans kl
          have hxo : OwnI (V3.alloc (.cells #[.int .u8 2, .string ⟨#[]⟩, .string ⟨#[]⟩, .slice a9 xs.length c9, .string nF, I fp, I 0, .string nT, I tp, I 0, I 0] 45)) w.heap.size ((⟨2, ⟨#[]⟩, ⟨#[]⟩, a9, c9, xs, nF, fp, 0, nT, tp, 0, 0⟩ : SIt)).a ((⟨2, ⟨#[]⟩, ⟨#[]⟩, a9, c9, xs, nF, fp, 0, nT, tp, 0, 0⟩ : SIt)).c ((⟨2, ⟨#[]⟩, ⟨#[]⟩, a9, c9, xs, nF, fp, 0, nT, tp, 0, 0⟩ : SIt)).xs := ownsRow_le (ho9.new kl) (Nat.le_trans HD.out.nw.size kd2.size)
          have hxd : ∀ k, blk ((⟨2, ⟨#[]⟩, ⟨#[]⟩, a9, c9, xs, nF, fp, 0, nT, tp, 0, 0⟩ : SIt)).a k → w1.heap.size ≤ k := fun k hk => Nat.le_trans kd2.size (own_of_blk ho9 hk).1
          refine hK _ _ (fun _ => HSn _ kz) ?_
          clear hK K
          generalize (V3.alloc (.cells #[.int .u8 2, .string ⟨#[]⟩, .string ⟨#[]⟩, .slice a9 xs.length c9, .string nF, I fp, I 0, .string nT, I tp, I 0, I 0] 45)) = VZ at kl hlit kz hxo ⊢
          generalize V3.heap.size = Z at hlit ⊢
          refine anyX_one 19 (by kernel_rfl) ?_
          intro oi ho; simp only [List.getElem?_toArray, List.getElem?_cons_succ, List.getElem?_cons_zero, Option.some.injEq] at ho; subst ho; intro K hK
          refine step_app rfl _ _ 33 rfl w.heap.size 45 it _ 11 136 Try.underlying33 hit hz0 hz1 hz2 rfl (by decide) s.ia s.items.length s.ic (s.items.flatMap itCells) rfl (HD.out.new kz).sk.own.io (some ⟨Z, 0, none⟩) 1 1 (itCells (⟨2, ⟨#[]⟩, ⟨#[]⟩, a9, c9, xs, nF, fp, 0, nT, tp, 0, 0⟩ : SIt)) rfl rfl hlit (one_it _) (by unfold maxLen; omega) (by omega) (Nat.le_trans HD.out.nw.size kz.size) ?_
          intro ao' c' wc hown' hk' hmv
          obtain ⟨⟨hv0, hfz, hPl2⟩, hDn⟩ := HD.out.add (⟨2, ⟨#[]⟩, ⟨#[]⟩, a9, c9, xs, nF, fp, 0, nT, tp, 0, 0⟩ : SIt) hxo hxd kz (HIT.out _ (by unfold edgeIt; simp only; rw [HNF.out, HNT.out]; rfl)) hown' hk'
          have HDn := Lib.hid hDn
          refine hK _ _ (fun hx => by cases hx) ?_
          clear hK K hDn hown' hk' hmv
          refine anyX_one 20 (by kernel_rfl) ?_
          intro oi ho; simp only [List.getElem?_toArray, List.getElem?_cons_succ, List.getElem?_cons_zero, Option.some.injEq] at ho; subst ho; intro K hK
          (try simp only [Act.put, List.setIfInBounds_toArray, List.set_cons_zero, List.set_cons_succ])
          go_simp
          refine hK _ _ (fun hx => by cases hx) ?_
          clear hK K
          refine anyX_one 21 (by kernel_rfl) ?_
          intro oi ho; simp only [List.getElem?_toArray, List.getElem?_cons_succ, List.getElem?_cons_zero, Option.some.injEq] at ho; subst ho; intro K hK
          (try simp only [Act.put, List.setIfInBounds_toArray, List.set_cons_zero, List.set_cons_succ])
          go_simp
          refine hK _ _ (fun hx => by cases hx) ?_
          clear hK K
          refine anyX_done (by kernel_rfl) ?_
          (try simp only [Act.put, List.setIfInBounds_toArray, List.set_cons_zero, List.set_cons_succ])
          clear hS0 HSn
          (try simp only [Exit.then])
          go_wp2_with fail
          go_roundw
          case rel => exact ⟨k + 1, _, by omega, by go_num, HDn⟩
          case measure => simp [intOf]; omega
        · have hke : k = g.edges.length := by omega
          have hkd : decide (k < g.edges.length) = false := decide_eq_false hk1
          rw [hke, List.take_length] at HD
          clear hke hk hk1
          obtain ⟨g0, g1, g2, g3, g4, hGl⟩ := gr_cells HD.out.hg
          rw [HI.out] at g3
          go_wp2_with fail
          clear g0 g1 g2 g3 g4 hGl
          have HD0 : Hid (DrawAt w g P ((([] ++ g.acts.map actIt) ++ g.edges.map (edgeIt g)) ++ (g.ins.take 0).map (inIt g)) s wr) := Lib.hid (by simpa using HD.out)
          replace HD := HD0
          clear HD0
          go_loopw [85] (fun i wr => ∃ (k : Nat) (s : Sk), k ≤ g.ins.length ∧ i = .int .i64 k ∧ Hid (DrawAt w g P ((([] ++ g.acts.map actIt) ++ g.edges.map (edgeIt g)) ++ (g.ins.take k).map (inIt g)) s wr)) (fun i _ => g.ins.length - (intOf i).toNat)
          case atStart => exact ⟨0, _, by omega, rfl, HD⟩
          case round =>
            clear HD
            obtain ⟨k, s, hk, rfl, HD⟩ := hrel
            by_cases hk1 : k < g.ins.length
            · have hkI : (k : Int) < (g.ins.length : Int) := by omega
              have hkd : decide (k < g.ins.length) = true := decide_eq_true hk1
              have hGr := HG.out.new HD.out.nw
              obtain ⟨b, off, hab, q0, q1, q2⟩ := ports_at hGr.si hk1
              have hbw : b < wr.heap.size := World.block_lt_of_cell? wr _ q0
              have hil : s.items.length ≤ 160 := by
                have h1 := bare_len HD.out.it
                have h2 := HS.out.na
                have h3 := HS.out.ne
                have h4 := HS.out.ni
                have h5 := HS.out.no
                simp at h1
                omega
              have e : aI = some ⟨b, off, none⟩ := HI.out.symm.trans hab
              subst e
              have HIT : Hid (∀ y : SIt, y.bare = inIt g g.ins[k] → (s.items ++ [y]).map SIt.bare = (([] ++ g.acts.map actIt) ++ g.edges.map (edgeIt g)) ++ (g.ins.take (k + 1)).map (inIt g)) := Lib.hid (fun y hy => bare_next HD.out.it hk1 hy)
              clear hab hGr
              obtain ⟨xp, hxp, ep, -⟩ := endE_zero (HS.out.inp k hk1).2
              generalize g.ins[k] = x at q0 q1 q2 HIT ep
              obtain ⟨xn, x1, po⟩ := x
              simp only at q0 q1 q2 ep
              subst ep
              go_wp2_with fail
              have kb : New wr (wr.alloc (.cells #[.string xn, I xp, I po] 60)) := (New.refl wr).alloc _
              have hby : (wr.alloc (.cells #[.string xn, I xp, I po] 60)).heap[wr.heap.size]? = some (.cells #[.string xn, I xp, I po] 60 (0, 0)) := heap_alloc_new wr _
              generalize (wr.alloc (.cells #[.string xn, I xp, I po] 60)) = w1 at kb hby ⊢
              generalize wr.heap.size = Y at hby ⊢
              replace HD := Lib.hid (HD.out.new kb)
              have HY := Lib.hid hby

              clear hby kb hbw
              have HCF : ∀ V (k : New w1 V), Calls Try.prog 29 #[I xp, I po, .pointer (some ⟨w.heap.size, 0, none⟩)] V fun e w' => e = .returned (.agg #[.string g.acts[xp].name, I po, I 0]) ∧ New V w' := fun V k => cend_any V w.heap.size g xp po (Keeps.heap k HD.out.hg (fun h => h)) (HG.out.new (HD.out.nw.trans k)) hxp hla
              have HNF := Lib.hid (nameAt_is g hxp)
              generalize g.acts[xp].name = nF at HCF HNF
              clear q0 q1 q2
              go_wp2_with fail
              obtain ⟨-, p1, -, -, hPl⟩ := sk_cells HD.out.sk.blkP
              have hYl : Y < w1.heap.size := (Array.getElem?_eq_some_iff.1 HY.out).1
              have hdr : New w1 w1.drew := (New.refl w1).drew
              have HSn : ∀ V, New w1 V → (fun w' : World => w'.cell? ⟨P, 1, none⟩ = some (.slice s.ia s.items.length s.ic) ∧ P < w'.heap.size ∧ Y < w'.heap.size ∧ w'.cell? ⟨Y, 0, none⟩ = some (.string xn) ∧ w'.cell? ⟨Y, 1, none⟩ = some (I xp) ∧ w'.cell? ⟨Y, 2, none⟩ = some (I po)) V := fun V kv => ⟨kv.cell p1, Nat.lt_of_lt_of_le hPl kv.size, Nat.lt_of_lt_of_le hYl kv.size, by rw [cell_of_block (Keeps.heap kv HY.out (fun h => h)) 0]; rfl, by rw [cell_of_block (Keeps.heap kv HY.out (fun h => h)) 1]; rfl, by rw [cell_of_block (Keeps.heap kv HY.out (fun h => h)) 2]; rfl⟩
              have hS0 := HSn _ hdr
              clear p1 hPl hYl
              refine wp_region_X (fun w' : World => w'.cell? ⟨P, 1, none⟩ = some (.slice s.ia s.items.length s.ic) ∧ P < w'.heap.size ∧ Y < w'.heap.size ∧ w'.cell? ⟨Y, 0, none⟩ = some (.string xn) ∧ w'.cell? ⟨Y, 1, none⟩ = some (I xp) ∧ w'.cell? ⟨Y, 2, none⟩ = some (I po)) [12, 13, 14] (by kernel_rfl) hS0 ?_
              refine anyX_take 0 (by kernel_rfl) (by kernel_rfl) (by kernel_rfl) (by kernel_rfl) (by kernel_rfl) hS0 ?_
              intro oi ho; simp only [List.getElem?_toArray, List.getElem?_cons_succ, List.getElem?_cons_zero, Option.some.injEq] at ho; subst ho
              refine ⟨?_, fun _ _ _ h => h, Or.inl ⟨by rfl, ?_⟩, ?_⟩; rotate_left 1
              · (intro wS hSw; (try dsimp only at hSw); go_simp; try with_reducible rfl)
              simp only [Act.put, List.setIfInBounds_toArray, List.set_cons_zero, List.set_cons_succ]
              refine anyX_take 1 (by kernel_rfl) (by kernel_rfl) (by kernel_rfl) (by kernel_rfl) (by kernel_rfl) hS0 ?_
              intro oi ho; simp only [List.getElem?_toArray, List.getElem?_cons_succ, List.getElem?_cons_zero, Option.some.injEq] at ho; subst ho
              refine ⟨?_, fun _ _ _ h => h, Or.inl ⟨by rfl, ?_⟩, ?_⟩; rotate_left 1
              · (intro wS hSw; (try dsimp only at hSw); go_simp; try with_reducible rfl)
              simp only [Act.put, List.setIfInBounds_toArray, List.set_cons_zero, List.set_cons_succ]
              refine anyX_take 2 (by kernel_rfl) (by kernel_rfl) (by kernel_rfl) (by kernel_rfl) (by kernel_rfl) hS0 ?_
              intro oi ho; simp only [List.getElem?_toArray, List.getElem?_cons_succ, List.getElem?_cons_zero, Option.some.injEq] at ho; subst ho
              refine ⟨?_, fun _ _ _ h => h, Or.inl ⟨by rfl, ?_⟩, ?_⟩; rotate_left 1
              · (intro wS hSw; (try dsimp only at hSw); go_simp; try with_reducible rfl)
              simp only [Act.put, List.setIfInBounds_toArray, List.set_cons_zero, List.set_cons_succ]
              refine anyX_take 3 (by kernel_rfl) (by kernel_rfl) (by kernel_rfl) (by kernel_rfl) (by kernel_rfl) hS0 ?_
              intro oi ho; simp only [List.getElem?_toArray, List.getElem?_cons_succ, List.getElem?_cons_zero, Option.some.injEq] at ho; subst ho
              refine ⟨?_, fun _ _ _ h => h, Or.inl ⟨by rfl, ?_⟩, ?_⟩; rotate_left 1
              · (intro wS hSw; (try dsimp only at hSw); go_simp; try with_reducible rfl)
              simp only [Act.put, List.setIfInBounds_toArray, List.set_cons_zero, List.set_cons_succ]
              refine anyX_take 4 (by kernel_rfl) (by kernel_rfl) (by kernel_rfl) (by kernel_rfl) (by kernel_rfl) hS0 ?_
              intro oi ho; simp only [List.getElem?_toArray, List.getElem?_cons_succ, List.getElem?_cons_zero, Option.some.injEq] at ho; subst ho
              refine ⟨?_, fun _ _ _ h => h, Or.inl ⟨by rfl, ?_⟩, ?_⟩; rotate_left 1
              · (intro wS hSw; (try dsimp only at hSw); go_simp; try with_reducible rfl)
              simp only [Act.put, List.setIfInBounds_toArray, List.set_cons_zero, List.set_cons_succ]
              refine anyX_take 5 (by kernel_rfl) (by kernel_rfl) (by kernel_rfl) (by kernel_rfl) (by kernel_rfl) hS0 ?_
              intro oi ho; simp only [List.getElem?_toArray, List.getElem?_cons_succ, List.getElem?_cons_zero, Option.some.injEq] at ho; subst ho
              refine ⟨?_, fun _ _ _ h => h, Or.inl ⟨by rfl, ?_⟩, ?_⟩; rotate_left 1
              · (intro wS hSw; (try dsimp only at hSw); go_simp; try with_reducible rfl)
              simp only [Act.put, List.setIfInBounds_toArray, List.set_cons_zero, List.set_cons_succ]
              refine anyX_take 6 (by kernel_rfl) (by kernel_rfl) (by kernel_rfl) (by kernel_rfl) (by kernel_rfl) hS0 ?_
              intro oi ho; simp only [List.getElem?_toArray, List.getElem?_cons_succ, List.getElem?_cons_zero, Option.some.injEq] at ho; subst ho
              refine ⟨?_, fun _ _ _ h => h, Or.inl ⟨by rfl, ?_⟩, ?_⟩; rotate_left 1
              · (intro wS hSw; (try dsimp only at hSw); go_simp; try with_reducible rfl)
              simp only [Act.put, List.setIfInBounds_toArray, List.set_cons_zero, List.set_cons_succ]
              refine anyX_take 7 (by kernel_rfl) (by kernel_rfl) (by kernel_rfl) (by kernel_rfl) (by kernel_rfl) hS0 ?_
              intro oi ho; simp only [List.getElem?_toArray, List.getElem?_cons_succ, List.getElem?_cons_zero, Option.some.injEq] at ho; subst ho
              refine ⟨?_, fun _ _ _ h => h, Or.inl ⟨by rfl, ?_⟩, ?_⟩; rotate_left 1
              · (intro wS hSw; (try dsimp only at hSw); go_simp; try with_reducible rfl)
              simp only [Act.put, List.setIfInBounds_toArray, List.set_cons_zero, List.set_cons_succ]
              refine anyX_take 8 (by kernel_rfl) (by kernel_rfl) (by kernel_rfl) (by kernel_rfl) (by kernel_rfl) hS0 ?_
              intro oi ho; simp only [List.getElem?_toArray, List.getElem?_cons_succ, List.getElem?_cons_zero, Option.some.injEq] at ho; subst ho
              refine ⟨?_, fun _ _ _ h => h, Or.inl ⟨by rfl, ?_⟩, ?_⟩; rotate_left 1
              · (intro wS hSw; (try dsimp only at hSw); go_simp; try with_reducible rfl)
              simp only [Act.put, List.setIfInBounds_toArray, List.set_cons_zero, List.set_cons_succ]
              refine anyX_one 9 (by kernel_rfl) ?_
              intro oi ho; simp only [List.getElem?_toArray, List.getElem?_cons_succ, List.getElem?_cons_zero, Option.some.injEq] at ho; subst ho; intro K hK
              (try simp only [Act.put, List.setIfInBounds_toArray, List.set_cons_zero, List.set_cons_succ])
              go_simp
              refine (HCF w1.drew hdr).mono ?_
              rintro e V1 ⟨rfl, kc1⟩
              have kd1 := hdr.trans kc1
              have hS1 := HSn _ kd1
              refine hK _ _ (fun _ => hS1) ?_
              clear hK K
              refine anyX_take 10 (by kernel_rfl) (by kernel_rfl) (by kernel_rfl) (by kernel_rfl) (by kernel_rfl) hS1 ?_
              intro oi ho; simp only [List.getElem?_toArray, List.getElem?_cons_succ, List.getElem?_cons_zero, Option.some.injEq] at ho; subst ho
              refine ⟨?_, fun _ _ _ h => h, Or.inl ⟨by rfl, ?_⟩, ?_⟩; rotate_left 1
              · (intro wS hSw; (try dsimp only at hSw); go_simp; try with_reducible rfl)
              simp only [Act.put, List.setIfInBounds_toArray, List.set_cons_zero, List.set_cons_succ]
              refine anyX_one 11 (by kernel_rfl) ?_
              intro oi ho; simp only [List.getElem?_toArray, List.getElem?_cons_succ, List.getElem?_cons_zero, Option.some.injEq] at ho; subst ho; intro K hK
              (try simp only [Act.put, List.setIfInBounds_toArray, List.set_cons_zero, List.set_cons_succ])
              go_simp
              have kl : New V1 (V1.alloc (.cells #[.int .u8 3, .string xn, .string ⟨#[]⟩, .slice none 0 0, .string ⟨#[]⟩, I 0, I 0, .string nF, I po, I 0, I 0] 45)) := (New.refl V1).alloc _
              have hlit : SlAt (V1.alloc (.cells #[.int .u8 3, .string xn, .string ⟨#[]⟩, .slice none 0 0, .string ⟨#[]⟩, I 0, I 0, .string nF, I po, I 0, I 0] 45)) (some ⟨V1.heap.size, 0, none⟩) (itCells (⟨3, xn, ⟨#[]⟩, none, 0, [], ⟨#[]⟩, 0, 0, nF, po, 0, 0⟩ : SIt)) := SlAt.lit V1 _ _
              have kz := kd1.trans kl
              have hxo : OwnI (V1.alloc (.cells #[.int .u8 3, .string xn, .string ⟨#[]⟩, .slice none 0 0, .string ⟨#[]⟩, I 0, I 0, .string nF, I po, I 0, I 0] 45)) w.heap.size ((⟨3, xn, ⟨#[]⟩, none, 0, [], ⟨#[]⟩, 0, 0, nF, po, 0, 0⟩ : SIt)).a ((⟨3, xn, ⟨#[]⟩, none, 0, [], ⟨#[]⟩, 0, 0, nF, po, 0, 0⟩ : SIt)).c ((⟨3, xn, ⟨#[]⟩, none, 0, [], ⟨#[]⟩, 0, 0, nF, po, 0, 0⟩ : SIt)).xs := OwnI.nil _ _
              have hxd : ∀ k, blk ((⟨3, xn, ⟨#[]⟩, none, 0, [], ⟨#[]⟩, 0, 0, nF, po, 0, 0⟩ : SIt)).a k → w1.heap.size ≤ k := fun k hk => by obtain ⟨y, hy, _⟩ := hk; cases hy
              refine hK _ _ (fun _ => HSn _ kz) ?_
              clear hK K
              generalize (V1.alloc (.cells #[.int .u8 3, .string xn, .string ⟨#[]⟩, .slice none 0 0, .string ⟨#[]⟩, I 0, I 0, .string nF, I po, I 0, I 0] 45)) = VZ at kl hlit kz hxo ⊢
              generalize V1.heap.size = Z at hlit ⊢
              refine anyX_one 12 (by kernel_rfl) ?_
              intro oi ho; simp only [List.getElem?_toArray, List.getElem?_cons_succ, List.getElem?_cons_zero, Option.some.injEq] at ho; subst ho; intro K hK
              refine step_app rfl _ _ 33 rfl w.heap.size 45 it _ 11 136 Try.underlying33 hit hz0 hz1 hz2 rfl (by decide) s.ia s.items.length s.ic (s.items.flatMap itCells) rfl (HD.out.new kz).sk.own.io (some ⟨Z, 0, none⟩) 1 1 (itCells (⟨3, xn, ⟨#[]⟩, none, 0, [], ⟨#[]⟩, 0, 0, nF, po, 0, 0⟩ : SIt)) rfl rfl hlit (one_it _) (by unfold maxLen; omega) (by omega) (Nat.le_trans HD.out.nw.size kz.size) ?_
              intro ao' c' wc hown' hk' hmv
              obtain ⟨⟨hv0, hfz, hPl2⟩, hDn⟩ := HD.out.add (⟨3, xn, ⟨#[]⟩, none, 0, [], ⟨#[]⟩, 0, 0, nF, po, 0, 0⟩ : SIt) hxo hxd kz (HIT.out _ (by unfold inIt; simp only; rw [HNF.out]; rfl)) hown' hk'
              have HDn := Lib.hid hDn
              refine hK _ _ (fun hx => by cases hx) ?_
              clear hK K hDn hown' hk' hmv
              refine anyX_one 13 (by kernel_rfl) ?_
              intro oi ho; simp only [List.getElem?_toArray, List.getElem?_cons_succ, List.getElem?_cons_zero, Option.some.injEq] at ho; subst ho; intro K hK
              (try simp only [Act.put, List.setIfInBounds_toArray, List.set_cons_zero, List.set_cons_succ])
              go_simp
              refine hK _ _ (fun hx => by cases hx) ?_
              clear hK K
              refine anyX_one 14 (by kernel_rfl) ?_
              intro oi ho; simp only [List.getElem?_toArray, List.getElem?_cons_succ, List.getElem?_cons_zero, Option.some.injEq] at ho; subst ho; intro K hK
              (try simp only [Act.put, List.setIfInBounds_toArray, List.set_cons_zero, List.set_cons_succ])
              go_simp
              refine hK _ _ (fun hx => by cases hx) ?_
              clear hK K
              refine anyX_done (by kernel_rfl) ?_
              (try simp only [Act.put, List.setIfInBounds_toArray, List.set_cons_zero, List.set_cons_succ])
              clear hS0 HSn
              (try simp only [Exit.then])
              go_wp2_with fail
              go_roundw
              case rel => exact ⟨k + 1, _, by omega, by go_num, HDn⟩
              case measure => simp [intOf]; omega
            · have hke : k = g.ins.length := by omega
              have hkd : decide (k < g.ins.length) = false := decide_eq_false hk1
              rw [hke, List.take_length] at HD
              clear hke hk hk1
              obtain ⟨g0, g1, g2, g3, g4, hGl⟩ := gr_cells HD.out.hg
              rw [HO.out] at g4
              go_wp2_with fail
              clear g0 g1 g2 g3 g4 hGl
              have HD0 : Hid (DrawAt w g P (((([] ++ g.acts.map actIt) ++ g.edges.map (edgeIt g)) ++ g.ins.map (inIt g)) ++ (g.outs.take 0).map (outIt g)) s wr) := Lib.hid (by simpa using HD.out)
              replace HD := HD0
              clear HD0
              go_loopw [107] (fun i wr => ∃ (k : Nat) (s : Sk), k ≤ g.outs.length ∧ i = .int .i64 k ∧ Hid (DrawAt w g P (((([] ++ g.acts.map actIt) ++ g.edges.map (edgeIt g)) ++ g.ins.map (inIt g)) ++ (g.outs.take k).map (outIt g)) s wr)) (fun i _ => g.outs.length - (intOf i).toNat)
              case atStart => exact ⟨0, _, by omega, rfl, HD⟩
              case round =>
                clear HD
                obtain ⟨k, s, hk, rfl, HD⟩ := hrel
                by_cases hk1 : k < g.outs.length
                · have hkI : (k : Int) < (g.outs.length : Int) := by omega
                  have hkd : decide (k < g.outs.length) = true := decide_eq_true hk1
                  have hGr := HG.out.new HD.out.nw
                  obtain ⟨b, off, hab, q0, q1, q2⟩ := ports_at hGr.so hk1
                  have hbw : b < wr.heap.size := World.block_lt_of_cell? wr _ q0
                  have hil : s.items.length ≤ 160 := by
                    have h1 := bare_len HD.out.it
                    have h2 := HS.out.na
                    have h3 := HS.out.ne
                    have h4 := HS.out.ni
                    have h5 := HS.out.no
                    simp at h1
                    omega
                  have e : aO = some ⟨b, off, none⟩ := HO.out.symm.trans hab
                  subst e
                  have HIT : Hid (∀ y : SIt, y.bare = outIt g g.outs[k] → (s.items ++ [y]).map SIt.bare = ((([] ++ g.acts.map actIt) ++ g.edges.map (edgeIt g)) ++ g.ins.map (inIt g)) ++ (g.outs.take (k + 1)).map (outIt g)) := Lib.hid (fun y hy => bare_next HD.out.it hk1 hy)
                  clear hab hGr
                  obtain ⟨xp, hxp, ep, -⟩ := endE_zero (HS.out.out k hk1).2
                  generalize g.outs[k] = x at q0 q1 q2 HIT ep
                  obtain ⟨xn, x1, po⟩ := x
                  simp only at q0 q1 q2 ep
                  subst ep
                  go_wp2_with fail
                  have kb : New wr (wr.alloc (.cells #[.string xn, I xp, I po] 60)) := (New.refl wr).alloc _
                  have hby : (wr.alloc (.cells #[.string xn, I xp, I po] 60)).heap[wr.heap.size]? = some (.cells #[.string xn, I xp, I po] 60 (0, 0)) := heap_alloc_new wr _
                  generalize (wr.alloc (.cells #[.string xn, I xp, I po] 60)) = w1 at kb hby ⊢
                  generalize wr.heap.size = Y at hby ⊢
                  replace HD := Lib.hid (HD.out.new kb)
                  have HY := Lib.hid hby

                  clear hby kb hbw
                  have HCF : ∀ V (k : New w1 V), Calls Try.prog 29 #[I xp, I po, .pointer (some ⟨w.heap.size, 0, none⟩)] V fun e w' => e = .returned (.agg #[.string g.acts[xp].name, I po, I 0]) ∧ New V w' := fun V k => cend_any V w.heap.size g xp po (Keeps.heap k HD.out.hg (fun h => h)) (HG.out.new (HD.out.nw.trans k)) hxp hla
                  have HNF := Lib.hid (nameAt_is g hxp)
                  generalize g.acts[xp].name = nF at HCF HNF
                  clear q0 q1 q2
                  go_wp2_with fail
                  obtain ⟨-, p1, -, -, hPl⟩ := sk_cells HD.out.sk.blkP
                  have hYl : Y < w1.heap.size := (Array.getElem?_eq_some_iff.1 HY.out).1
                  have hdr : New w1 w1.drew := (New.refl w1).drew
                  have HSn : ∀ V, New w1 V → (fun w' : World => w'.cell? ⟨P, 1, none⟩ = some (.slice s.ia s.items.length s.ic) ∧ P < w'.heap.size ∧ Y < w'.heap.size ∧ w'.cell? ⟨Y, 0, none⟩ = some (.string xn) ∧ w'.cell? ⟨Y, 1, none⟩ = some (I xp) ∧ w'.cell? ⟨Y, 2, none⟩ = some (I po)) V := fun V kv => ⟨kv.cell p1, Nat.lt_of_lt_of_le hPl kv.size, Nat.lt_of_lt_of_le hYl kv.size, by rw [cell_of_block (Keeps.heap kv HY.out (fun h => h)) 0]; rfl, by rw [cell_of_block (Keeps.heap kv HY.out (fun h => h)) 1]; rfl, by rw [cell_of_block (Keeps.heap kv HY.out (fun h => h)) 2]; rfl⟩
                  have hS0 := HSn _ hdr
                  clear p1 hPl hYl
                  refine wp_region_X (fun w' : World => w'.cell? ⟨P, 1, none⟩ = some (.slice s.ia s.items.length s.ic) ∧ P < w'.heap.size ∧ Y < w'.heap.size ∧ w'.cell? ⟨Y, 0, none⟩ = some (.string xn) ∧ w'.cell? ⟨Y, 1, none⟩ = some (I xp) ∧ w'.cell? ⟨Y, 2, none⟩ = some (I po)) [12, 13, 14] (by kernel_rfl) hS0 ?_
                  refine anyX_take 0 (by kernel_rfl) (by kernel_rfl) (by kernel_rfl) (by kernel_rfl) (by kernel_rfl) hS0 ?_
                  intro oi ho; simp only [List.getElem?_toArray, List.getElem?_cons_succ, List.getElem?_cons_zero, Option.some.injEq] at ho; subst ho
                  refine ⟨?_, fun _ _ _ h => h, Or.inl ⟨by rfl, ?_⟩, ?_⟩; rotate_left 1
                  · (intro wS hSw; (try dsimp only at hSw); go_simp; try with_reducible rfl)
                  simp only [Act.put, List.setIfInBounds_toArray, List.set_cons_zero, List.set_cons_succ]
                  refine anyX_take 1 (by kernel_rfl) (by kernel_rfl) (by kernel_rfl) (by kernel_rfl) (by kernel_rfl) hS0 ?_
                  intro oi ho; simp only [List.getElem?_toArray, List.getElem?_cons_succ, List.getElem?_cons_zero, Option.some.injEq] at ho; subst ho
                  refine ⟨?_, fun _ _ _ h => h, Or.inl ⟨by rfl, ?_⟩, ?_⟩; rotate_left 1
                  · (intro wS hSw; (try dsimp only at hSw); go_simp; try with_reducible rfl)
                  simp only [Act.put, List.setIfInBounds_toArray, List.set_cons_zero, List.set_cons_succ]
                  refine anyX_take 2 (by kernel_rfl) (by kernel_rfl) (by kernel_rfl) (by kernel_rfl) (by kernel_rfl) hS0 ?_
                  intro oi ho; simp only [List.getElem?_toArray, List.getElem?_cons_succ, List.getElem?_cons_zero, Option.some.injEq] at ho; subst ho
                  refine ⟨?_, fun _ _ _ h => h, Or.inl ⟨by rfl, ?_⟩, ?_⟩; rotate_left 1
                  · (intro wS hSw; (try dsimp only at hSw); go_simp; try with_reducible rfl)
                  simp only [Act.put, List.setIfInBounds_toArray, List.set_cons_zero, List.set_cons_succ]
                  refine anyX_take 3 (by kernel_rfl) (by kernel_rfl) (by kernel_rfl) (by kernel_rfl) (by kernel_rfl) hS0 ?_
                  intro oi ho; simp only [List.getElem?_toArray, List.getElem?_cons_succ, List.getElem?_cons_zero, Option.some.injEq] at ho; subst ho
                  refine ⟨?_, fun _ _ _ h => h, Or.inl ⟨by rfl, ?_⟩, ?_⟩; rotate_left 1
                  · (intro wS hSw; (try dsimp only at hSw); go_simp; try with_reducible rfl)
                  simp only [Act.put, List.setIfInBounds_toArray, List.set_cons_zero, List.set_cons_succ]
                  refine anyX_take 4 (by kernel_rfl) (by kernel_rfl) (by kernel_rfl) (by kernel_rfl) (by kernel_rfl) hS0 ?_
                  intro oi ho; simp only [List.getElem?_toArray, List.getElem?_cons_succ, List.getElem?_cons_zero, Option.some.injEq] at ho; subst ho
                  refine ⟨?_, fun _ _ _ h => h, Or.inl ⟨by rfl, ?_⟩, ?_⟩; rotate_left 1
                  · (intro wS hSw; (try dsimp only at hSw); go_simp; try with_reducible rfl)
                  simp only [Act.put, List.setIfInBounds_toArray, List.set_cons_zero, List.set_cons_succ]
                  refine anyX_take 5 (by kernel_rfl) (by kernel_rfl) (by kernel_rfl) (by kernel_rfl) (by kernel_rfl) hS0 ?_
                  intro oi ho; simp only [List.getElem?_toArray, List.getElem?_cons_succ, List.getElem?_cons_zero, Option.some.injEq] at ho; subst ho
                  refine ⟨?_, fun _ _ _ h => h, Or.inl ⟨by rfl, ?_⟩, ?_⟩; rotate_left 1
                  · (intro wS hSw; (try dsimp only at hSw); go_simp; try with_reducible rfl)
                  simp only [Act.put, List.setIfInBounds_toArray, List.set_cons_zero, List.set_cons_succ]
                  refine anyX_take 6 (by kernel_rfl) (by kernel_rfl) (by kernel_rfl) (by kernel_rfl) (by kernel_rfl) hS0 ?_
                  intro oi ho; simp only [List.getElem?_toArray, List.getElem?_cons_succ, List.getElem?_cons_zero, Option.some.injEq] at ho; subst ho
                  refine ⟨?_, fun _ _ _ h => h, Or.inl ⟨by rfl, ?_⟩, ?_⟩; rotate_left 1
                  · (intro wS hSw; (try dsimp only at hSw); go_simp; try with_reducible rfl)
                  simp only [Act.put, List.setIfInBounds_toArray, List.set_cons_zero, List.set_cons_succ]
                  refine anyX_take 7 (by kernel_rfl) (by kernel_rfl) (by kernel_rfl) (by kernel_rfl) (by kernel_rfl) hS0 ?_
                  intro oi ho; simp only [List.getElem?_toArray, List.getElem?_cons_succ, List.getElem?_cons_zero, Option.some.injEq] at ho; subst ho
                  refine ⟨?_, fun _ _ _ h => h, Or.inl ⟨by rfl, ?_⟩, ?_⟩; rotate_left 1
                  · (intro wS hSw; (try dsimp only at hSw); go_simp; try with_reducible rfl)
                  simp only [Act.put, List.setIfInBounds_toArray, List.set_cons_zero, List.set_cons_succ]
                  refine anyX_take 8 (by kernel_rfl) (by kernel_rfl) (by kernel_rfl) (by kernel_rfl) (by kernel_rfl) hS0 ?_
                  intro oi ho; simp only [List.getElem?_toArray, List.getElem?_cons_succ, List.getElem?_cons_zero, Option.some.injEq] at ho; subst ho
                  refine ⟨?_, fun _ _ _ h => h, Or.inl ⟨by rfl, ?_⟩, ?_⟩; rotate_left 1
                  · (intro wS hSw; (try dsimp only at hSw); go_simp; try with_reducible rfl)
                  simp only [Act.put, List.setIfInBounds_toArray, List.set_cons_zero, List.set_cons_succ]
                  refine anyX_one 9 (by kernel_rfl) ?_
                  intro oi ho; simp only [List.getElem?_toArray, List.getElem?_cons_succ, List.getElem?_cons_zero, Option.some.injEq] at ho; subst ho; intro K hK
                  (try simp only [Act.put, List.setIfInBounds_toArray, List.set_cons_zero, List.set_cons_succ])
                  go_simp
                  refine (HCF w1.drew hdr).mono ?_
                  rintro e V1 ⟨rfl, kc1⟩
                  have kd1 := hdr.trans kc1
                  have hS1 := HSn _ kd1
                  refine hK _ _ (fun _ => hS1) ?_
                  clear hK K
                  refine anyX_take 10 (by kernel_rfl) (by kernel_rfl) (by kernel_rfl) (by kernel_rfl) (by kernel_rfl) hS1 ?_
                  intro oi ho; simp only [List.getElem?_toArray, List.getElem?_cons_succ, List.getElem?_cons_zero, Option.some.injEq] at ho; subst ho
                  refine ⟨?_, fun _ _ _ h => h, Or.inl ⟨by rfl, ?_⟩, ?_⟩; rotate_left 1
                  · (intro wS hSw; (try dsimp only at hSw); go_simp; try with_reducible rfl)
                  simp only [Act.put, List.setIfInBounds_toArray, List.set_cons_zero, List.set_cons_succ]
                  refine anyX_one 11 (by kernel_rfl) ?_
                  intro oi ho; simp only [List.getElem?_toArray, List.getElem?_cons_succ, List.getElem?_cons_zero, Option.some.injEq] at ho; subst ho; intro K hK
                  (try simp only [Act.put, List.setIfInBounds_toArray, List.set_cons_zero, List.set_cons_succ])
                  go_simp
                  have kl : New V1 (V1.alloc (.cells #[.int .u8 4, .string xn, .string ⟨#[]⟩, .slice none 0 0, .string nF, I po, I 0, .string ⟨#[]⟩, I 0, I 0, I 0] 45)) := (New.refl V1).alloc _
                  have hlit : SlAt (V1.alloc (.cells #[.int .u8 4, .string xn, .string ⟨#[]⟩, .slice none 0 0, .string nF, I po, I 0, .string ⟨#[]⟩, I 0, I 0, I 0] 45)) (some ⟨V1.heap.size, 0, none⟩) (itCells (⟨4, xn, ⟨#[]⟩, none, 0, [], nF, po, 0, ⟨#[]⟩, 0, 0, 0⟩ : SIt)) := SlAt.lit V1 _ _
                  have kz := kd1.trans kl
                  have hxo : OwnI (V1.alloc (.cells #[.int .u8 4, .string xn, .string ⟨#[]⟩, .slice none 0 0, .string nF, I po, I 0, .string ⟨#[]⟩, I 0, I 0, I 0] 45)) w.heap.size ((⟨4, xn, ⟨#[]⟩, none, 0, [], nF, po, 0, ⟨#[]⟩, 0, 0, 0⟩ : SIt)).a ((⟨4, xn, ⟨#[]⟩, none, 0, [], nF, po, 0, ⟨#[]⟩, 0, 0, 0⟩ : SIt)).c ((⟨4, xn, ⟨#[]⟩, none, 0, [], nF, po, 0, ⟨#[]⟩, 0, 0, 0⟩ : SIt)).xs := OwnI.nil _ _
                  have hxd : ∀ k, blk ((⟨4, xn, ⟨#[]⟩, none, 0, [], nF, po, 0, ⟨#[]⟩, 0, 0, 0⟩ : SIt)).a k → w1.heap.size ≤ k := fun k hk => by obtain ⟨y, hy, _⟩ := hk; cases hy
                  refine hK _ _ (fun _ => HSn _ kz) ?_
                  clear hK K
                  generalize (V1.alloc (.cells #[.int .u8 4, .string xn, .string ⟨#[]⟩, .slice none 0 0, .string nF, I po, I 0, .string ⟨#[]⟩, I 0, I 0, I 0] 45)) = VZ at kl hlit kz hxo ⊢
                  generalize V1.heap.size = Z at hlit ⊢
                  refine anyX_one 12 (by kernel_rfl) ?_
                  intro oi ho; simp only [List.getElem?_toArray, List.getElem?_cons_succ, List.getElem?_cons_zero, Option.some.injEq] at ho; subst ho; intro K hK
                  refine step_app rfl _ _ 33 rfl w.heap.size 45 it _ 11 136 Try.underlying33 hit hz0 hz1 hz2 rfl (by decide) s.ia s.items.length s.ic (s.items.flatMap itCells) rfl (HD.out.new kz).sk.own.io (some ⟨Z, 0, none⟩) 1 1 (itCells (⟨4, xn, ⟨#[]⟩, none, 0, [], nF, po, 0, ⟨#[]⟩, 0, 0, 0⟩ : SIt)) rfl rfl hlit (one_it _) (by unfold maxLen; omega) (by omega) (Nat.le_trans HD.out.nw.size kz.size) ?_
                  intro ao' c' wc hown' hk' hmv
                  obtain ⟨⟨hv0, hfz, hPl2⟩, hDn⟩ := HD.out.add (⟨4, xn, ⟨#[]⟩, none, 0, [], nF, po, 0, ⟨#[]⟩, 0, 0, 0⟩ : SIt) hxo hxd kz (HIT.out _ (by unfold outIt; simp only; rw [HNF.out]; rfl)) hown' hk'
                  have HDn := Lib.hid hDn
                  refine hK _ _ (fun hx => by cases hx) ?_
                  clear hK K hDn hown' hk' hmv
                  refine anyX_one 13 (by kernel_rfl) ?_
                  intro oi ho; simp only [List.getElem?_toArray, List.getElem?_cons_succ, List.getElem?_cons_zero, Option.some.injEq] at ho; subst ho; intro K hK
                  (try simp only [Act.put, List.setIfInBounds_toArray, List.set_cons_zero, List.set_cons_succ])
                  go_simp
                  refine hK _ _ (fun hx => by cases hx) ?_
                  clear hK K
                  refine anyX_one 14 (by kernel_rfl) ?_
                  intro oi ho; simp only [List.getElem?_toArray, List.getElem?_cons_succ, List.getElem?_cons_zero, Option.some.injEq] at ho; subst ho; intro K hK
                  (try simp only [Act.put, List.setIfInBounds_toArray, List.set_cons_zero, List.set_cons_succ])
                  go_simp
                  refine hK _ _ (fun hx => by cases hx) ?_
                  clear hK K
                  refine anyX_done (by kernel_rfl) ?_
                  (try simp only [Act.put, List.setIfInBounds_toArray, List.set_cons_zero, List.set_cons_succ])
                  clear hS0 HSn
                  (try simp only [Exit.then])
                  go_wp2_with fail
                  go_roundw
                  case rel => exact ⟨k + 1, _, by omega, by go_num, HDn⟩
                  case measure => simp [intOf]; omega
                · have hke : k = g.outs.length := by omega
                  have hkd : decide (k < g.outs.length) = false := decide_eq_false hk1
                  rw [hke, List.take_length] at HD
                  clear hke hk hk1
                  obtain ⟨p0, p1, -, -, hPl⟩ := sk_cells HD.out.sk.blkP
                  obtain ⟨r0, r1, f0, f1, hBB⟩ := sk_cells HD.out.hr
                  have HFIN : Hid (∀ u v : Value, post (.returned (.tuple #[.agg #[.string s.name, .slice s.ia s.items.length s.ic], I 0])) ((wr.setCell ⟨w.heap.size + 1, 0, none⟩ u).setCell ⟨w.heap.size + 1, 1, none⟩ v)) := Lib.hid (fun u v => by
                    rw [← HP.out]
                    exact ⟨s, rfl, HD.out.sk.own.spot HD.out.hr u v, by unfold Sk.bare drawS drawI; rw [HD.out.nm, HD.out.it]; simp, (HD.out.nw.setCell (by simp) _).setCell (by simp) _⟩)
                  clear HD HP
                  go_wp2_with fail
                  exact bodyPost_ret (v := .tuple #[.agg #[.string s.name, .slice s.ia s.items.length s.ic], I 0]) (by simp [results, Try.results15, go_sem, r0, r1, f0, f1, hBB]) rfl (HFIN.out _ _)
theorem cdraw_any (w : World) (g : Gr) (hg : GrAt w g) (hl : GLen g) (hw : ∀ x ∈ g.acts, 0 ≤ x.tag ∧ x.tag ≤ 255) :
    Calls Try.prog 15 #[g.v] w (Drawn w g) := by
  by_cases h : (findG g).1 = 0
  · refine (cdraw_good w g hg hl hw h).mono fun e w' hh => ?_
    unfold Drawn; rw [if_neg (fun hn => hn h)]; exact hh
  · refine (cdraw_bad w g hg hl h).mono fun e w' hh => ?_
    unfold Drawn; rw [if_pos h]; exact hh
end Go.Proofs.Ytpljnapglbmdlaa
