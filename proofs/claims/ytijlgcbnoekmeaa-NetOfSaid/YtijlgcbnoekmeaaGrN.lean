/-
  Layer 8: the checker's edges.
-/
import Derived.Test.YtijlgcbnoekmeaaGrM
namespace Go.Proofs.Ytijlgcbnoekmeaa
open Go Go.RowKit Go.Joins
set_option linter.all false

theorem gridLen_side {g : Gr} {n : GAct → Nat} {T : Int → Int → Bool} {L : List (Nat × List Bool)} (h : L.map (·.2) = side g n T) (hal : g.acts.length ≤ 32) (hn : ∀ x, n x ≤ 16) : GridLen L := by
  refine ⟨by have := rows_len h; omega, fun r hr => ?_⟩
  have h1 : r.2 ∈ side g n T := by rw [← h]; exact List.mem_map_of_mem hr
  obtain ⟨i, hi, he⟩ := List.getElem_of_mem h1
  rw [side_len] at hi
  have h2 := side_get g n T hi
  rw [List.getElem?_eq_getElem (by rw [side_len]; exact hi), he] at h2
  simp only [Option.some.injEq] at h2
  rw [h2]
  simp only [List.length_map, List.length_range]
  have := hn g.acts[i]
  omega
theorem nIn_few (x : GAct) : nIn x ≤ 16 := (shape_few x.tag x.xs).1
theorem nOut_few (x : GAct) : nOut x ≤ 16 := (shape_few x.tag x.xs).2
theorem Chk.tookO {w w' : World} {B C M : Nat} {g : Gr} {ns : List ByteArray} {ia : Option Addr} {ic : Nat} {IL : List (Nat × List Bool)} {oa : Option Addr} {oc : Nat} {OL : List (Nat × List Bool)} {x p : Int} {e : Ending} (h : Chk w B C M g ns ia ic IL oa oc OL) (ht : Took w B oa oc OL x p e w') : Chk w' B C M g ns ia ic IL oa oc (takeL OL x p) := by
  obtain ⟨_, hG, _, hk⟩ := ht
  have hn : ∀ {i : Nat} {o : Obj}, w.heap[i]? = some o → (∀ cs fr, o ≠ .cells cs 4 fr) → ¬ (∃ r ∈ OL, r.1 = i) := by
    rintro i o hi ho ⟨r, hr, rfl⟩
    rw [h.go.row r hr] at hi
    cases hi
    exact ho _ _ rfl
  obtain ⟨es, clock, hM⟩ := h.nm.block
  refine ⟨?_, h.loC, h.loM, h.nm.keeps hk (hn hM (by intro cs fr e; cases e)), ?_, hG, h.ta, ?_⟩
  · have := hk.heap h.blk (hn h.blk (by intro cs fr e; simp at e))
    rw [takeL_len]; exact this
  · refine h.gi.other hk (fun i hi => ?_) (fun r hr => ?_)
    · obtain ⟨cur, hc⟩ := tab_tag h.gi.tab (own_blk hi)
      exact hn hc (by intro cs fr e; simp at e)
    · rintro ⟨r', hr', e⟩
      exact h.ro r hr r' hr' e.symm
  · intro r hr r' hr'
    have hm : r'.1 ∈ (takeL OL x p).map (·.1) := List.mem_map_of_mem hr'
    rw [takeL_fst] at hm
    obtain ⟨y, hy, hye⟩ := List.mem_map.1 hm
    rw [← hye]
    exact h.ro r hr y hy
theorem Chk.tookI {w w' : World} {B C M : Nat} {g : Gr} {ns : List ByteArray} {ia : Option Addr} {ic : Nat} {IL : List (Nat × List Bool)} {oa : Option Addr} {oc : Nat} {OL : List (Nat × List Bool)} {x p : Int} {e : Ending} (h : Chk w B C M g ns ia ic IL oa oc OL) (ht : Took w B ia ic IL x p e w') : Chk w' B C M g ns ia ic (takeL IL x p) oa oc OL := by
  obtain ⟨_, hG, _, hk⟩ := ht
  have hn : ∀ {i : Nat} {o : Obj}, w.heap[i]? = some o → (∀ cs fr, o ≠ .cells cs 4 fr) → ¬ (∃ r ∈ IL, r.1 = i) := by
    rintro i o hi ho ⟨r, hr, rfl⟩
    rw [h.gi.row r hr] at hi
    cases hi
    exact ho _ _ rfl
  obtain ⟨es, clock, hM⟩ := h.nm.block
  refine ⟨?_, h.loC, h.loM, h.nm.keeps hk (hn hM (by intro cs fr e; cases e)), hG, ?_, h.ta, ?_⟩
  · have := hk.heap h.blk (hn h.blk (by intro cs fr e; simp at e))
    rw [takeL_len]; exact this
  · refine h.go.other hk (fun i hi => ?_) (fun r hr => ?_)
    · obtain ⟨cur, hc⟩ := tab_tag h.go.tab (own_blk hi)
      exact hn hc (by intro cs fr e; simp at e)
    · rintro ⟨r', hr', e⟩
      exact h.ro r' hr' r hr e
  · intro r hr r' hr'
    have hm : r.1 ∈ (takeL IL x p).map (·.1) := List.mem_map_of_mem hr
    rw [takeL_fst] at hm
    obtain ⟨y, hy, hye⟩ := List.mem_map.1 hm
    rw [← hye]
    exact h.ro y hy r' hr'
theorem edge_cells {w : World} {C : Nat} {a0 a1 a2 a3 a4 : Value} (h : w.heap[C]? = some (.cells #[a0, a1, a2, a3, a4] 80 (0, 0))) :
    w.cell? ⟨C, 0, none⟩ = some a0 ∧ w.cell? ⟨C, 1, none⟩ = some a1 ∧ w.cell? ⟨C, 2, none⟩ = some a2 ∧ w.cell? ⟨C, 3, none⟩ = some a3 ∧ w.cell? ⟨C, 4, none⟩ = some a4 ∧ C < w.heap.size := by
  refine ⟨?_, ?_, ?_, ?_, ?_, (Array.getElem?_eq_some_iff.1 h).1⟩
  all_goals rw [cell_of_block h]; rfl
theorem side_took {g : Gr} {n : GAct → Nat} {T U : Int → Int → Bool} {L : List (Nat × List Bool)} {x p : Int} (h : L.map (·.2) = side g n T) (hE : takeE L x p = 0) (hU : ∀ a q, U a q = (T a q || decide (x = a ∧ p = q))) : (takeL L x p).map (·.2) = side g n U := by
  rw [takeL_side h hE]
  exact side_ext (fun a q => (hU a q).symm)

set_option maxRecDepth 100000 in
set_option maxHeartbeats 16000000 in
theorem cedges_any (w0 w : World) (B C M : Nat) (g : Gr) (ns : List ByteArray) (ia : Option Addr) (ic : Nat) (IL : List (Nat × List Bool)) (oa : Option Addr) (oc : Nat) (OL : List (Nat × List Bool)) (hg : GrAt w0 g) (hN : New w0 w) (hB : B = w0.heap.size) (hl : GLen g) (hal : g.acts.length ≤ 32)
    (h : Chk w B C M g ns ia ic IL oa oc OL) (hIL : IL.map (·.2) = side g nIn (fun _ _ => false)) (hOL : OL.map (·.2) = side g nOut (fun _ _ => false)) :
    Calls Try.prog 63 #[.pointer (some ⟨C, 0, none⟩)] w fun e w' => Stage (firstE (edgeE g) 0 g.edges) 2 (fun w' => ∃ IL OL, Chk w' B C M g ns ia ic IL oa oc OL ∧ IL.map (·.2) = side g nIn (inTk g g.edges.length 0) ∧ OL.map (·.2) = side g nOut (outTk g g.edges.length 0)) e w' ∧ KP B w w' := by
  obtain ⟨⟨c0, c1, c2, c3, c4, -, -, -⟩, -, hCl⟩ := chk_cells h.blk
  have HEX := Lib.hid hl.ex
  have hle := hl.e
  clear hl
  obtain ⟨ok, hok⟩ : ∃ ok : World → Prop, (fun w' => ∃ IL OL, Chk w' B C M g ns ia ic IL oa oc OL ∧ IL.map (·.2) = side g nIn (inTk g g.edges.length 0) ∧ OL.map (·.2) = side g nOut (outTk g g.edges.length 0)) = ok := ⟨_, rfl⟩
  rw [hok]
  have HOK := Lib.hid hok
  clear hok
  obtain ⟨ga, hga⟩ : ∃ ga, g.ea = ga := ⟨_, rfl⟩
  rw [hga] at c2
  have HGA := Lib.hid hga
  have HG := Lib.hid hg
  have HNw := Lib.hid hN
  have HBB := Lib.hid hB
  have hBw : B ≤ w.heap.size := by rw [hB]; exact hN.size
  have HI0 : Hid (IL.map (·.2) = side g nIn (inTk g 0 0)) := Lib.hid (by rw [hIL]; exact side_ext (fun a p => (inTk_zero g a p).symm))
  have HO0 : Hid (OL.map (·.2) = side g nOut (outTk g 0 0)) := Lib.hid (by rw [hOL]; exact side_ext (fun a p => (outTk_zero g a p).symm))
  clear hga hg hN hB hIL hOL
  go_enter Try.func63, Try.ntmps63
  go_wp2_with fail
  have k0 : New w (w.alloc (.cells #[.int .u8 0, I 0, I 0] 95)) := (New.refl w).alloc _
  have hbx : (w.alloc (.cells #[.int .u8 0, I 0, I 0] 95)).heap[w.heap.size]? = some (.cells #[.int .u8 0, I 0, I 0] 95 (0, 0)) := heap_alloc_new w _
  generalize (w.alloc (.cells #[.int .u8 0, I 0, I 0] 95)) = v0 at k0 hbx ⊢
  clear c0 c1 c2 c3 c4
  have hCh := h.new k0
  clear h hCl
  go_loopw [14] (fun i wr => ∃ (k : Nat) (IL OL : List (Nat × List Bool)), k ≤ g.edges.length ∧ i = .int .i64 k ∧
      Hid (Chk wr B C M g ns ia ic IL oa oc OL ∧ IL.map (·.2) = side g nIn (inTk g k 0) ∧ OL.map (·.2) = side g nOut (outTk g k 0) ∧
        (∀ j (hj : j < g.edges.length), j < k → (edgeE g j g.edges[j]).1 = 0) ∧ wr.heap[w.heap.size]? = some (.cells #[.int .u8 0, I 0, I 0] 95 (0, 0)) ∧ KP B w wr)) (fun i _ => g.edges.length - (intOf i).toNat)
  case atStart => exact ⟨0, IL, OL, by omega, rfl, Lib.hid ⟨hCh, HI0.out, HO0.out, fun j hj hjk => by omega, hbx, KX.of_new k0⟩⟩
  case round =>
    clear hCh hbx k0 HI0 HO0 IL OL
    obtain ⟨k, IL, OL, hk, rfl, HR⟩ := hrel
    obtain ⟨hC, hI, hO, hE, hb, hKB⟩ := HR.out
    have HI := Lib.hid hI
    have HO := Lib.hid hO
    have HE := Lib.hid hE
    have HB := Lib.hid hb
    clear hI hO hE hb HR
    by_cases hk1 : k < g.edges.length
    · have hkI : (k : Int) < (g.edges.length : Int) := by omega
      have hkd : decide (k < g.edges.length) = true := decide_eq_true hk1
      have hGr := HG.out.new (hKB.new HBB.out HNw.out)
      obtain ⟨b, off, hab, q0, q1, q2, q3, q4⟩ := gedges_at hGr.se hk1
      have hxn := HEX.out _ (List.getElem_mem hk1)
      have HF : Hid ((edgeE g k g.edges[k]).1 ≠ 0 → firstE (edgeE g) 0 g.edges = some (k, edgeE g k g.edges[k])) := Lib.hid (fun h => firstE_skip hk1 HE.out h)
      have HE2 : Hid ((edgeE g k g.edges[k]).1 = 0 → ∀ j (hj : j < g.edges.length), j < k + 1 → (edgeE g j g.edges[j]).1 = 0) := Lib.hid (fun h j hj hjk => by
        by_cases e : j = k
        · subst e; exact h
        · exact HE.out j hj (by omega))
      have HOn : Hid (∀ a q, outTk g (k + 1) 0 a q = (outTk g k 0 a q || decide (g.edges[k].f = a ∧ g.edges[k].fp = q))) := Lib.hid (outTk_edge g hk1)
      have HIn : Hid (∀ a q, inTk g (k + 1) 0 a q = (inTk g k 0 a q || decide (g.edges[k].t = a ∧ g.edges[k].tp = q))) := Lib.hid (inTk_edge g hk1)
      have e : ga = some ⟨b, off, none⟩ := HGA.out.symm.trans hab
      subst e
      clear hab hGr HE HEX
      have hAE : Hid (edgeE g k g.edges[k] = _) := Lib.hid (by unfold edgeE; exact rfl)
      generalize g.edges[k] = x at q0 q1 q2 q3 q4 hxn HOn HIn HF HE2 hAE
      rw [← takeE_side HO.out, ← takeE_side HI.out] at hAE
      have hgo := gridLen_side HO.out hal nOut_few
      have hgi := gridLen_side HI.out hal nIn_few
      have HO2 : Hid (takeE OL x.f x.fp = 0 → (takeL OL x.f x.fp).map (·.2) = side g nOut (outTk g (k + 1) 0)) := Lib.hid (fun h => side_took HO.out h HOn.out)
      have HI2 : Hid (takeE IL x.t x.tp = 0 → (takeL IL x.t x.tp).map (·.2) = side g nIn (inTk g (k + 1) 0)) := Lib.hid (fun h => side_took HI.out h HIn.out)
      clear HO HI HOn HIn
      go_wp2_with fail
      have kb : New wr (wr.alloc (.cells #[I x.f, I x.fp, I x.t, I x.tp, .slice x.a x.xs.length x.c] 80)) := (New.refl wr).alloc _
      have hby : (wr.alloc (.cells #[I x.f, I x.fp, I x.t, I x.tp, .slice x.a x.xs.length x.c] 80)).heap[wr.heap.size]? = some (.cells #[I x.f, I x.fp, I x.t, I x.tp, .slice x.a x.xs.length x.c] 80 (0, 0)) := heap_alloc_new wr _
      generalize (wr.alloc (.cells #[I x.f, I x.fp, I x.t, I x.tp, .slice x.a x.xs.length x.c] 80)) = w1 at kb hby ⊢
      generalize wr.heap.size = Y at hby ⊢
      replace HB := Lib.hid (Keeps.heap kb HB.out (fun h => h))
      replace hKB := hKB.trans (KX.of_new kb)
      have hC1 := hC.new kb
      have HY := Lib.hid hby
      clear hby kb q0 q1 q2 q3 q4 hC
      obtain ⟨⟨-, -, -, -, -, -, c6, c7⟩, -, hCl⟩ := chk_cells hC1.blk
      obtain ⟨y0, y1, y2, y3, -, hYl⟩ := edge_cells HY.out
      have hdr : New w1 w1.drew := (New.refl w1).drew
      have hS0 : (fun w' : World => w'.cell? ⟨C, 7, none⟩ = some (.slice oa OL.length oc) ∧ w'.cell? ⟨Y, 0, none⟩ = some (I x.f) ∧ w'.cell? ⟨Y, 1, none⟩ = some (I x.fp) ∧ C < w'.heap.size ∧ Y < w'.heap.size) w1.drew := ⟨hdr.cell c7, hdr.cell y0, hdr.cell y1, hCl, hYl⟩
      have hCd := hC1.new hdr
      clear c6 c7 y0 y1 y2 y3 hCl hYl hC1
      refine wp_region_X (fun w' : World => w'.cell? ⟨C, 7, none⟩ = some (.slice oa OL.length oc) ∧ w'.cell? ⟨Y, 0, none⟩ = some (I x.f) ∧ w'.cell? ⟨Y, 1, none⟩ = some (I x.fp) ∧ C < w'.heap.size ∧ Y < w'.heap.size) [8, 9] (by kernel_rfl) hS0 ?_
      refine anyX_take 0 (by kernel_rfl) (by kernel_rfl) (by kernel_rfl) (by kernel_rfl) (by kernel_rfl) hS0 ?_
      intro oi ho; simp only [List.getElem?_toArray, List.getElem?_cons_succ, List.getElem?_cons_zero, Option.some.injEq] at ho; subst ho
      refine ⟨?_, fun _ _ _ h => h, Or.inl ⟨by rfl, ?_⟩, ?_⟩; rotate_left 1
      · (intro wS hSw; (try dsimp only at hSw); go_simp; try with_reducible rfl)
      simp only [Act.put, List.setIfInBounds_toArray, List.set_cons_zero, List.set_cons_succ]
      refine anyX_take 1 (by kernel_rfl) (by kernel_rfl) (by kernel_rfl) (by kernel_rfl) (by kernel_rfl) hS0 ?_
      intro oi ho; simp only [List.getElem?_toArray, List.getElem?_cons_succ, List.getElem?_cons_zero, Option.some.injEq] at ho; subst ho
      refine ⟨?_, fun _ _ _ h => h, Or.inl ⟨by rfl, ?_⟩, ?_⟩; rotate_left 1
      · (intro wS hSw; (try dsimp only at hSw); go_simp; try with_reducible rfl)
      simp only [Act.put, List.setIfInBounds_toArray, List.set_cons_zero, List.set_cons_succ]
      refine anyX_take 2 (by kernel_rfl) (by kernel_rfl) (by kernel_rfl) (by kernel_rfl) (by kernel_rfl) hS0 ?_
      intro oi ho; simp only [List.getElem?_toArray, List.getElem?_cons_succ, List.getElem?_cons_zero, Option.some.injEq] at ho; subst ho
      refine ⟨?_, fun _ _ _ h => h, Or.inl ⟨by rfl, ?_⟩, ?_⟩; rotate_left 1
      · (intro wS hSw; (try dsimp only at hSw); go_simp; try with_reducible rfl)
      simp only [Act.put, List.setIfInBounds_toArray, List.set_cons_zero, List.set_cons_succ]
      refine anyX_take 3 (by kernel_rfl) (by kernel_rfl) (by kernel_rfl) (by kernel_rfl) (by kernel_rfl) hS0 ?_
      intro oi ho; simp only [List.getElem?_toArray, List.getElem?_cons_succ, List.getElem?_cons_zero, Option.some.injEq] at ho; subst ho
      refine ⟨?_, fun _ _ _ h => h, Or.inl ⟨by rfl, ?_⟩, ?_⟩; rotate_left 1
      · (intro wS hSw; (try dsimp only at hSw); go_simp; try with_reducible rfl)
      simp only [Act.put, List.setIfInBounds_toArray, List.set_cons_zero, List.set_cons_succ]
      refine anyX_take 4 (by kernel_rfl) (by kernel_rfl) (by kernel_rfl) (by kernel_rfl) (by kernel_rfl) hS0 ?_
      intro oi ho; simp only [List.getElem?_toArray, List.getElem?_cons_succ, List.getElem?_cons_zero, Option.some.injEq] at ho; subst ho
      refine ⟨?_, fun _ _ _ h => h, Or.inl ⟨by rfl, ?_⟩, ?_⟩; rotate_left 1
      · (intro wS hSw; (try dsimp only at hSw); go_simp; try with_reducible rfl)
      simp only [Act.put, List.setIfInBounds_toArray, List.set_cons_zero, List.set_cons_succ]
      refine anyX_take 5 (by kernel_rfl) (by kernel_rfl) (by kernel_rfl) (by kernel_rfl) (by kernel_rfl) hS0 ?_
      intro oi ho; simp only [List.getElem?_toArray, List.getElem?_cons_succ, List.getElem?_cons_zero, Option.some.injEq] at ho; subst ho
      refine ⟨?_, fun _ _ _ h => h, Or.inl ⟨by rfl, ?_⟩, ?_⟩; rotate_left 1
      · (intro wS hSw; (try dsimp only at hSw); go_simp; try with_reducible rfl)
      simp only [Act.put, List.setIfInBounds_toArray, List.set_cons_zero, List.set_cons_succ]
      refine anyX_take 6 (by kernel_rfl) (by kernel_rfl) (by kernel_rfl) (by kernel_rfl) (by kernel_rfl) hS0 ?_
      intro oi ho; simp only [List.getElem?_toArray, List.getElem?_cons_succ, List.getElem?_cons_zero, Option.some.injEq] at ho; subst ho
      refine ⟨?_, fun _ _ _ h => h, Or.inl ⟨by rfl, ?_⟩, ?_⟩; rotate_left 1
      · (intro wS hSw; (try dsimp only at hSw); go_simp; try with_reducible rfl)
      simp only [Act.put, List.setIfInBounds_toArray, List.set_cons_zero, List.set_cons_succ]
      refine anyX_take 7 (by kernel_rfl) (by kernel_rfl) (by kernel_rfl) (by kernel_rfl) (by kernel_rfl) hS0 ?_
      intro oi ho; simp only [List.getElem?_toArray, List.getElem?_cons_succ, List.getElem?_cons_zero, Option.some.injEq] at ho; subst ho
      refine ⟨?_, fun _ _ _ h => h, Or.inl ⟨by rfl, ?_⟩, ?_⟩; rotate_left 1
      · (intro wS hSw; (try dsimp only at hSw); go_simp; try with_reducible rfl)
      simp only [Act.put, List.setIfInBounds_toArray, List.set_cons_zero, List.set_cons_succ]
      refine anyX_one 8 (by kernel_rfl) ?_
      intro oi ho; simp only [List.getElem?_toArray, List.getElem?_cons_succ, List.getElem?_cons_zero, Option.some.injEq] at ho; subst ho; intro K hK
      (try simp only [Act.put, List.setIfInBounds_toArray, List.set_cons_zero, List.set_cons_succ])
      go_simp
      refine (take_any w1.drew B oa oc OL x.f x.fp hCd.go hgo).mono ?_
      rintro e w2 hT
      have hC2 := hCd.tookO hT
      obtain ⟨rfl, -, kT, -⟩ := hT
      refine hK _ _ (fun hx => by cases hx) ?_
      clear hK K
      replace kT := (KX.of_new hdr).trans kT
      replace HY := Lib.hid (kT.heap HY.out rfl)
      replace HB := Lib.hid (kT.heap HB.out rfl)
      replace hKB := hKB.trans kT
      clear kT hdr hS0 hCd
      refine anyX_one 9 (by kernel_rfl) ?_
      intro oi ho; simp only [List.getElem?_toArray, List.getElem?_cons_succ, List.getElem?_cons_zero, Option.some.injEq] at ho; subst ho; intro K hK
      (try simp only [Act.put, List.setIfInBounds_toArray, List.set_cons_zero, List.set_cons_succ])
      go_simp
      refine hK _ _ (fun hx => by cases hx) ?_
      clear hK K
      refine anyX_done (by kernel_rfl) ?_
      (try simp only [Act.put, List.setIfInBounds_toArray, List.set_cons_zero, List.set_cons_succ])
      (try simp only [Exit.then])
      by_cases h1 : takeE OL x.f x.fp = 0
      · have d1 : (takeE OL x.f x.fp != 0) = false := by simp [h1]
        have HO3 := Lib.hid (HO2.out h1)
        rw [if_neg (fun h => h h1)] at hAE
        generalize takeE OL x.f x.fp = t1 at d1
        generalize takeL OL x.f x.fp = OL1 at HO3 hC2
        clear HO2 h1 hgo
        go_wp2_with fail
        obtain ⟨⟨-, -, -, -, -, -, c6, c7⟩, -, hCl⟩ := chk_cells hC2.blk
        obtain ⟨y0, y1, y2, y3, -, hYl⟩ := edge_cells HY.out
        have hdr : New w2 w2.drew := (New.refl w2).drew
        have hS0 : (fun w' : World => w'.cell? ⟨C, 6, none⟩ = some (.slice ia IL.length ic) ∧ w'.cell? ⟨Y, 2, none⟩ = some (I x.t) ∧ w'.cell? ⟨Y, 3, none⟩ = some (I x.tp) ∧ C < w'.heap.size ∧ Y < w'.heap.size) w2.drew := ⟨hdr.cell c6, hdr.cell y2, hdr.cell y3, hCl, hYl⟩
        have hCd := hC2.new hdr
        clear c6 c7 y0 y1 y2 y3 hCl hYl hC2
        refine wp_region_X (fun w' : World => w'.cell? ⟨C, 6, none⟩ = some (.slice ia IL.length ic) ∧ w'.cell? ⟨Y, 2, none⟩ = some (I x.t) ∧ w'.cell? ⟨Y, 3, none⟩ = some (I x.tp) ∧ C < w'.heap.size ∧ Y < w'.heap.size) [8, 9] (by kernel_rfl) hS0 ?_
        refine anyX_take 0 (by kernel_rfl) (by kernel_rfl) (by kernel_rfl) (by kernel_rfl) (by kernel_rfl) hS0 ?_
        intro oi ho; simp only [List.getElem?_toArray, List.getElem?_cons_succ, List.getElem?_cons_zero, Option.some.injEq] at ho; subst ho
        refine ⟨?_, fun _ _ _ h => h, Or.inl ⟨by rfl, ?_⟩, ?_⟩; rotate_left 1
        · (intro wS hSw; (try dsimp only at hSw); go_simp; try with_reducible rfl)
        simp only [Act.put, List.setIfInBounds_toArray, List.set_cons_zero, List.set_cons_succ]
        refine anyX_take 1 (by kernel_rfl) (by kernel_rfl) (by kernel_rfl) (by kernel_rfl) (by kernel_rfl) hS0 ?_
        intro oi ho; simp only [List.getElem?_toArray, List.getElem?_cons_succ, List.getElem?_cons_zero, Option.some.injEq] at ho; subst ho
        refine ⟨?_, fun _ _ _ h => h, Or.inl ⟨by rfl, ?_⟩, ?_⟩; rotate_left 1
        · (intro wS hSw; (try dsimp only at hSw); go_simp; try with_reducible rfl)
        simp only [Act.put, List.setIfInBounds_toArray, List.set_cons_zero, List.set_cons_succ]
        refine anyX_take 2 (by kernel_rfl) (by kernel_rfl) (by kernel_rfl) (by kernel_rfl) (by kernel_rfl) hS0 ?_
        intro oi ho; simp only [List.getElem?_toArray, List.getElem?_cons_succ, List.getElem?_cons_zero, Option.some.injEq] at ho; subst ho
        refine ⟨?_, fun _ _ _ h => h, Or.inl ⟨by rfl, ?_⟩, ?_⟩; rotate_left 1
        · (intro wS hSw; (try dsimp only at hSw); go_simp; try with_reducible rfl)
        simp only [Act.put, List.setIfInBounds_toArray, List.set_cons_zero, List.set_cons_succ]
        refine anyX_take 3 (by kernel_rfl) (by kernel_rfl) (by kernel_rfl) (by kernel_rfl) (by kernel_rfl) hS0 ?_
        intro oi ho; simp only [List.getElem?_toArray, List.getElem?_cons_succ, List.getElem?_cons_zero, Option.some.injEq] at ho; subst ho
        refine ⟨?_, fun _ _ _ h => h, Or.inl ⟨by rfl, ?_⟩, ?_⟩; rotate_left 1
        · (intro wS hSw; (try dsimp only at hSw); go_simp; try with_reducible rfl)
        simp only [Act.put, List.setIfInBounds_toArray, List.set_cons_zero, List.set_cons_succ]
        refine anyX_take 4 (by kernel_rfl) (by kernel_rfl) (by kernel_rfl) (by kernel_rfl) (by kernel_rfl) hS0 ?_
        intro oi ho; simp only [List.getElem?_toArray, List.getElem?_cons_succ, List.getElem?_cons_zero, Option.some.injEq] at ho; subst ho
        refine ⟨?_, fun _ _ _ h => h, Or.inl ⟨by rfl, ?_⟩, ?_⟩; rotate_left 1
        · (intro wS hSw; (try dsimp only at hSw); go_simp; try with_reducible rfl)
        simp only [Act.put, List.setIfInBounds_toArray, List.set_cons_zero, List.set_cons_succ]
        refine anyX_take 5 (by kernel_rfl) (by kernel_rfl) (by kernel_rfl) (by kernel_rfl) (by kernel_rfl) hS0 ?_
        intro oi ho; simp only [List.getElem?_toArray, List.getElem?_cons_succ, List.getElem?_cons_zero, Option.some.injEq] at ho; subst ho
        refine ⟨?_, fun _ _ _ h => h, Or.inl ⟨by rfl, ?_⟩, ?_⟩; rotate_left 1
        · (intro wS hSw; (try dsimp only at hSw); go_simp; try with_reducible rfl)
        simp only [Act.put, List.setIfInBounds_toArray, List.set_cons_zero, List.set_cons_succ]
        refine anyX_take 6 (by kernel_rfl) (by kernel_rfl) (by kernel_rfl) (by kernel_rfl) (by kernel_rfl) hS0 ?_
        intro oi ho; simp only [List.getElem?_toArray, List.getElem?_cons_succ, List.getElem?_cons_zero, Option.some.injEq] at ho; subst ho
        refine ⟨?_, fun _ _ _ h => h, Or.inl ⟨by rfl, ?_⟩, ?_⟩; rotate_left 1
        · (intro wS hSw; (try dsimp only at hSw); go_simp; try with_reducible rfl)
        simp only [Act.put, List.setIfInBounds_toArray, List.set_cons_zero, List.set_cons_succ]
        refine anyX_take 7 (by kernel_rfl) (by kernel_rfl) (by kernel_rfl) (by kernel_rfl) (by kernel_rfl) hS0 ?_
        intro oi ho; simp only [List.getElem?_toArray, List.getElem?_cons_succ, List.getElem?_cons_zero, Option.some.injEq] at ho; subst ho
        refine ⟨?_, fun _ _ _ h => h, Or.inl ⟨by rfl, ?_⟩, ?_⟩; rotate_left 1
        · (intro wS hSw; (try dsimp only at hSw); go_simp; try with_reducible rfl)
        simp only [Act.put, List.setIfInBounds_toArray, List.set_cons_zero, List.set_cons_succ]
        refine anyX_one 8 (by kernel_rfl) ?_
        intro oi ho; simp only [List.getElem?_toArray, List.getElem?_cons_succ, List.getElem?_cons_zero, Option.some.injEq] at ho; subst ho; intro K hK
        (try simp only [Act.put, List.setIfInBounds_toArray, List.set_cons_zero, List.set_cons_succ])
        go_simp
        refine (take_any w2.drew B ia ic IL x.t x.tp hCd.gi hgi).mono ?_
        rintro e w3 hT
        have hC3 := hCd.tookI hT
        obtain ⟨rfl, -, kT, -⟩ := hT
        refine hK _ _ (fun hx => by cases hx) ?_
        clear hK K
        replace kT := (KX.of_new hdr).trans kT
        replace HY := Lib.hid (kT.heap HY.out rfl)
        replace HB := Lib.hid (kT.heap HB.out rfl)
        replace hKB := hKB.trans kT
        clear kT hdr hS0 hCd
        refine anyX_one 9 (by kernel_rfl) ?_
        intro oi ho; simp only [List.getElem?_toArray, List.getElem?_cons_succ, List.getElem?_cons_zero, Option.some.injEq] at ho; subst ho; intro K hK
        (try simp only [Act.put, List.setIfInBounds_toArray, List.set_cons_zero, List.set_cons_succ])
        go_simp
        refine hK _ _ (fun hx => by cases hx) ?_
        clear hK K
        refine anyX_done (by kernel_rfl) ?_
        (try simp only [Act.put, List.setIfInBounds_toArray, List.set_cons_zero, List.set_cons_succ])
        (try simp only [Exit.then])
        by_cases h2 : takeE IL x.t x.tp = 0
        · have d2 : (takeE IL x.t x.tp != 0) = false := by simp [h2]
          have HI3 := Lib.hid (HI2.out h2)
          rw [if_neg (fun h => h h2)] at hAE
          generalize takeE IL x.t x.tp = t2 at d2
          generalize takeL IL x.t x.tp = IL1 at HI3 hC3
          clear HI2 h2 hgi
          obtain ⟨-, -, -, -, y4, hYl⟩ := edge_cells HY.out
          by_cases h3 : 256 < x.xs.length
          · have d3 : decide ((256 : Int) < (x.xs.length : Int)) = true := decide_eq_true (by omega)
            rw [if_pos h3] at hAE
            have HF2 := Lib.hid (HF.out (by rw [hAE.out]; decide))
            clear h3 HE2 HF hC3
            obtain ⟨⟨r0, r1, r2⟩, ⟨f0, f1, f2⟩, hBB⟩ := spot_cells HB.out
            go_wp2_with fail
            exact bodyPost_ret (v := .tuple #[I 88, .agg #[.int .u8 2, I k, I 0]]) (by simp [results, Try.results63, go_sem, r0, r1, r2, f0, f1, f2, hBB]) rfl ⟨by unfold Stage; rw [HF2.out, hAE.out]; rfl, ((hKB.setCell (Nat.le_refl _) _).setCell (Nat.le_refl _) _).setCell (Nat.le_refl _) _⟩
          · have d3 : decide ((256 : Int) < (x.xs.length : Int)) = false := decide_eq_false (by omega)
            rw [if_neg h3] at hAE
            have HG2 := Lib.hid (HE2.out (by rw [hAE.out]))
            clear h3 HE2 HF hAE
            go_wp2_with fail
            go_roundw
            case rel => exact ⟨k + 1, _, _, by omega, by go_num, Lib.hid ⟨hC3, HI3.out, HO3.out, HG2.out, HB.out, hKB⟩⟩
            case measure => simp [intOf]; omega
        · have d2 : (takeE IL x.t x.tp != 0) = true := by simp [h2]
          rw [if_pos h2] at hAE
          have HF2 := Lib.hid (HF.out (by rw [hAE.out]; exact h2))
          generalize takeE IL x.t x.tp = t2 at d2 hAE
          clear h2 HE2 HF hC3 HI2
          obtain ⟨⟨r0, r1, r2⟩, ⟨f0, f1, f2⟩, hBB⟩ := spot_cells HB.out
          go_wp2_with fail
          exact bodyPost_ret (v := .tuple #[I t2, .agg #[.int .u8 2, I k, I 2]]) (by simp [results, Try.results63, go_sem, r0, r1, r2, f0, f1, f2, hBB]) rfl ⟨by unfold Stage; rw [HF2.out, hAE.out]; rfl, ((hKB.setCell (Nat.le_refl _) _).setCell (Nat.le_refl _) _).setCell (Nat.le_refl _) _⟩
      · have d1 : (takeE OL x.f x.fp != 0) = true := by simp [h1]
        rw [if_pos h1] at hAE
        have HF2 := Lib.hid (HF.out (by rw [hAE.out]; exact h1))
        generalize takeE OL x.f x.fp = t1 at d1 hAE
        clear h1 HE2 HF hC2 HO2
        obtain ⟨⟨r0, r1, r2⟩, ⟨f0, f1, f2⟩, hBB⟩ := spot_cells HB.out
        go_wp2_with fail
        exact bodyPost_ret (v := .tuple #[I t1, .agg #[.int .u8 2, I k, I 1]]) (by simp [results, Try.results63, go_sem, r0, r1, r2, f0, f1, f2, hBB]) rfl ⟨by unfold Stage; rw [HF2.out, hAE.out]; rfl, ((hKB.setCell (Nat.le_refl _) _).setCell (Nat.le_refl _) _).setCell (Nat.le_refl _) _⟩
    · have hke : k = g.edges.length := by omega
      have hkd : decide (k < g.edges.length) = false := decide_eq_false hk1
      rw [hke] at HE HI HO
      have HFN : Hid (firstE (edgeE g) 0 g.edges = none) := Lib.hid (firstE_all HE.out)
      have HOKK : Hid (∀ W, Chk W B C M g ns ia ic IL oa oc OL → ok W) := Lib.hid (fun W hW => by
        rw [← HOK.out]; exact ⟨IL, OL, hW, HI.out, HO.out⟩)
      clear HE HI HO hke hk hk1 HEX
      obtain ⟨⟨r0, r1, r2⟩, ⟨f0, f1, f2⟩, hBB⟩ := spot_cells HB.out
      have HCS := Lib.hid (fun u v x => hC.spot HB.out u v x)
      clear hC
      go_wp2_with fail
      exact bodyPost_ret (v := .tuple #[I 0, .agg #[.int .u8 0, I 0, I 0]]) (by simp [results, Try.results63, go_sem, r0, r1, r2, f0, f1, f2, hBB]) rfl ⟨by unfold Stage; rw [HFN.out]; exact ⟨rfl, HOKK.out _ (HCS.out _ _ _)⟩, ((hKB.setCell (Nat.le_refl _) _).setCell (Nat.le_refl _) _).setCell (Nat.le_refl _) _⟩
end Go.Proofs.Ytijlgcbnoekmeaa
