/-
  GrN, GrO, GrQ, GrR: what is wanted of them.
-/
import Derived.Test.YtnedmonlofbahaaGreatDoorGwB
namespace Go.Proofs.YtnedmonlofbahaaGreatDoor
open Go Go.RowKit Go.Joins
set_option linter.all false

theorem gridLen_side {g : Gr} {n : GAct → Nat} {T : Int → Int → Bool} {L : List (Nat × List Bool)} (h : L.map (·.2) = side g n T) (hal : g.acts.length ≤ 32) (hn : ∀ x, n x ≤ 16) : GridLen L := by
  refine ⟨by have := rows_len h; omega, fun r hr => ?_⟩
  have h1 : r.2 ∈ side g n T := by rw [← h]; exact List.mem_map_of_mem hr
  obtain ⟨i, hi, he⟩ := List.getElem_of_mem h1
  rw [side_len] at hi
  have h2 := side_get g n T hi
  rw [List.getElem?_eq_getElem (by rw [side_len]; exact hi), he] at h2
  simp only [Option.some.injEq] at h2
  rw [h2]
  simp only [List.length_map, List.length_range]
  have := hn g.acts[i]
  omega
theorem nIn_few (x : GAct) : nIn x ≤ 16 := (shape_few x.tag x.xs).1
theorem nOut_few (x : GAct) : nOut x ≤ 16 := (shape_few x.tag x.xs).2
theorem Chk.tookO {w w' : World} {B C M : Nat} {g : Gr} {ns : List ByteArray} {ia : Option Addr} {ic : Nat} {IL : List (Nat × List Bool)} {oa : Option Addr} {oc : Nat} {OL : List (Nat × List Bool)} {x p : Int} {e : Ending} (h : Chk w B C M g ns ia ic IL oa oc OL) (ht : Took w B oa oc OL x p e w') : Chk w' B C M g ns ia ic IL oa oc (takeL OL x p) := by
  obtain ⟨_, hG, _, hk⟩ := ht
  have hn : ∀ {i : Nat} {o : Obj}, w.heap[i]? = some o → (∀ cs fr, o ≠ .cells cs 4 fr) → ¬ (∃ r ∈ OL, r.1 = i) := by
    rintro i o hi ho ⟨r, hr, rfl⟩
    rw [h.go.row r hr] at hi
    cases hi
    exact ho _ _ rfl
  obtain ⟨es, clock, hM⟩ := h.nm.block
  refine ⟨?_, h.loC, h.loM, h.nm.keeps hk (hn hM (by intro cs fr e; cases e)), ?_, hG, h.ta, ?_⟩
  · have := hk.heap h.blk (hn h.blk (by intro cs fr e; simp at e))
    rw [takeL_len]; exact this
  · refine h.gi.other hk (fun i hi => ?_) (fun r hr => ?_)
    · obtain ⟨cur, hc⟩ := tab_tag h.gi.tab (own_blk hi)
      exact hn hc (by intro cs fr e; simp at e)
    · rintro ⟨r', hr', e⟩
      exact h.ro r hr r' hr' e.symm
  · intro r hr r' hr'
    have hm : r'.1 ∈ (takeL OL x p).map (·.1) := List.mem_map_of_mem hr'
    rw [takeL_fst] at hm
    obtain ⟨y, hy, hye⟩ := List.mem_map.1 hm
    rw [← hye]
    exact h.ro r hr y hy
theorem Chk.tookI {w w' : World} {B C M : Nat} {g : Gr} {ns : List ByteArray} {ia : Option Addr} {ic : Nat} {IL : List (Nat × List Bool)} {oa : Option Addr} {oc : Nat} {OL : List (Nat × List Bool)} {x p : Int} {e : Ending} (h : Chk w B C M g ns ia ic IL oa oc OL) (ht : Took w B ia ic IL x p e w') : Chk w' B C M g ns ia ic (takeL IL x p) oa oc OL := by
  obtain ⟨_, hG, _, hk⟩ := ht
  have hn : ∀ {i : Nat} {o : Obj}, w.heap[i]? = some o → (∀ cs fr, o ≠ .cells cs 4 fr) → ¬ (∃ r ∈ IL, r.1 = i) := by
    rintro i o hi ho ⟨r, hr, rfl⟩
    rw [h.gi.row r hr] at hi
    cases hi
    exact ho _ _ rfl
  obtain ⟨es, clock, hM⟩ := h.nm.block
  refine ⟨?_, h.loC, h.loM, h.nm.keeps hk (hn hM (by intro cs fr e; cases e)), hG, ?_, h.ta, ?_⟩
  · have := hk.heap h.blk (hn h.blk (by intro cs fr e; simp at e))
    rw [takeL_len]; exact this
  · refine h.go.other hk (fun i hi => ?_) (fun r hr => ?_)
    · obtain ⟨cur, hc⟩ := tab_tag h.go.tab (own_blk hi)
      exact hn hc (by intro cs fr e; simp at e)
    · rintro ⟨r', hr', e⟩
      exact h.ro r' hr' r hr e
  · intro r hr r' hr'
    have hm : r.1 ∈ (takeL IL x p).map (·.1) := List.mem_map_of_mem hr
    rw [takeL_fst] at hm
    obtain ⟨y, hy, hye⟩ := List.mem_map.1 hm
    rw [← hye]
    exact h.ro y hy r' hr'
theorem edge_cells {w : World} {C : Nat} {a0 a1 a2 a3 a4 : Value} (h : w.heap[C]? = some (.cells #[a0, a1, a2, a3, a4] 66 (0, 0))) :
    w.cell? ⟨C, 0, none⟩ = some a0 ∧ w.cell? ⟨C, 1, none⟩ = some a1 ∧ w.cell? ⟨C, 2, none⟩ = some a2 ∧ w.cell? ⟨C, 3, none⟩ = some a3 ∧ w.cell? ⟨C, 4, none⟩ = some a4 ∧ C < w.heap.size := by
  refine ⟨?_, ?_, ?_, ?_, ?_, (Array.getElem?_eq_some_iff.1 h).1⟩
  all_goals rw [cell_of_block h]; rfl
theorem side_took {g : Gr} {n : GAct → Nat} {T U : Int → Int → Bool} {L : List (Nat × List Bool)} {x p : Int} (h : L.map (·.2) = side g n T) (hE : takeEg L x p = 0) (hU : ∀ a q, U a q = (T a q || decide (x = a ∧ p = q))) : (takeL L x p).map (·.2) = side g n U := by
  rw [takeL_side h hE]
  exact side_ext (fun a q => (hU a q).symm)

set_option maxRecDepth 100000 in
set_option maxHeartbeats 16000000 in
theorem cedges_any (w0 w : World) (B C M : Nat) (g : Gr) (ns : List ByteArray) (ia : Option Addr) (ic : Nat) (IL : List (Nat × List Bool)) (oa : Option Addr) (oc : Nat) (OL : List (Nat × List Bool)) (hg : GrAt w0 g) (hN : New w0 w) (hB : B = w0.heap.size) (hl : GLen g) (hal : g.acts.length ≤ 32)
    (h : Chk w B C M g ns ia ic IL oa oc OL) (hIL : IL.map (·.2) = side g nIn (fun _ _ => false)) (hOL : OL.map (·.2) = side g nOut (fun _ _ => false)) :
    Calls Tryz.prog 85 #[.pointer (some ⟨C, 0, none⟩)] w fun e w' => Stage (firstE (edgeE g) 0 g.edges) 2 (fun w' => ∃ IL OL, Chk w' B C M g ns ia ic IL oa oc OL ∧ IL.map (·.2) = side g nIn (inTk g g.edges.length 0) ∧ OL.map (·.2) = side g nOut (outTk g g.edges.length 0)) e w' ∧ KP B w w' := by
  obtain ⟨⟨c0, c1, c2, c3, c4, -, -, -⟩, -, hCl⟩ := chk_cells h.blk
  have HEX := Lib.hid hl.ex
  have hle := hl.e
  clear hl
  obtain ⟨ok, hok⟩ : ∃ ok : World → Prop, (fun w' => ∃ IL OL, Chk w' B C M g ns ia ic IL oa oc OL ∧ IL.map (·.2) = side g nIn (inTk g g.edges.length 0) ∧ OL.map (·.2) = side g nOut (outTk g g.edges.length 0)) = ok := ⟨_, rfl⟩
  rw [hok]
  have HOK := Lib.hid hok
  clear hok
  obtain ⟨ga, hga⟩ : ∃ ga, g.ea = ga := ⟨_, rfl⟩
  rw [hga] at c2
  have HGA := Lib.hid hga
  have HG := Lib.hid hg
  have HNw := Lib.hid hN
  have HBB := Lib.hid hB
  have hBw : B ≤ w.heap.size := by rw [hB]; exact hN.size
  have HI0 : Hid (IL.map (·.2) = side g nIn (inTk g 0 0)) := Lib.hid (by rw [hIL]; exact side_ext (fun a p => (inTk_zero g a p).symm))
  have HO0 : Hid (OL.map (·.2) = side g nOut (outTk g 0 0)) := Lib.hid (by rw [hOL]; exact side_ext (fun a p => (outTk_zero g a p).symm))
  clear hga hg hN hB hIL hOL
  go_enter Tryz.func85, Tryz.ntmps85
  go_wp2_with fail
  have k0 : New w (w.alloc (.cells #[.int .u8 0, I 0, I 0] 85)) := (New.refl w).alloc _
  have hbx : (w.alloc (.cells #[.int .u8 0, I 0, I 0] 85)).heap[w.heap.size]? = some (.cells #[.int .u8 0, I 0, I 0] 85 (0, 0)) := heap_alloc_new w _
  generalize (w.alloc (.cells #[.int .u8 0, I 0, I 0] 85)) = v0 at k0 hbx ⊢
  clear c0 c1 c2 c3 c4
  have hCh := h.new k0
  clear h hCl
  go_loopw [14] (fun i wr => ∃ (k : Nat) (IL OL : List (Nat × List Bool)), k ≤ g.edges.length ∧ i = .int .i64 k ∧
      Hid (Chk wr B C M g ns ia ic IL oa oc OL ∧ IL.map (·.2) = side g nIn (inTk g k 0) ∧ OL.map (·.2) = side g nOut (outTk g k 0) ∧
        (∀ j (hj : j < g.edges.length), j < k → (edgeE g j g.edges[j]).1 = 0) ∧ wr.heap[w.heap.size]? = some (.cells #[.int .u8 0, I 0, I 0] 85 (0, 0)) ∧ KP B w wr)) (fun i _ => g.edges.length - (intOf i).toNat)
  case atStart => exact ⟨0, IL, OL, by omega, rfl, Lib.hid ⟨hCh, HI0.out, HO0.out, fun j hj hjk => by omega, hbx, KXg.of_new k0⟩⟩
  case round =>
    clear hCh hbx k0 HI0 HO0 IL OL
    obtain ⟨k, IL, OL, hk, rfl, HR⟩ := hrel
    obtain ⟨hC, hI, hO, hE, hb, hKB⟩ := HR.out
    have HI := Lib.hid hI
    have HO := Lib.hid hO
    have HE := Lib.hid hE
    have HB := Lib.hid hb
    clear hI hO hE hb HR
    by_cases hk1 : k < g.edges.length
    · have hkI : (k : Int) < (g.edges.length : Int) := by omega
      have hkd : decide (k < g.edges.length) = true := decide_eq_true hk1
      have hGr := HG.out.new (hKB.new HBB.out HNw.out)
      obtain ⟨b, off, hab, q0, q1, q2, q3, q4⟩ := gedges_at hGr.se hk1
      have hxn := HEX.out _ (List.getElem_mem hk1)
      have HF : Hid ((edgeE g k g.edges[k]).1 ≠ 0 → firstE (edgeE g) 0 g.edges = some (k, edgeE g k g.edges[k])) := Lib.hid (fun h => firstE_skip hk1 HE.out h)
      have HE2 : Hid ((edgeE g k g.edges[k]).1 = 0 → ∀ j (hj : j < g.edges.length), j < k + 1 → (edgeE g j g.edges[j]).1 = 0) := Lib.hid (fun h j hj hjk => by
        by_cases e : j = k
        · subst e; exact h
        · exact HE.out j hj (by omega))
      have HOn : Hid (∀ a q, outTk g (k + 1) 0 a q = (outTk g k 0 a q || decide (g.edges[k].f = a ∧ g.edges[k].fp = q))) := Lib.hid (outTk_edge g hk1)
      have HIn : Hid (∀ a q, inTk g (k + 1) 0 a q = (inTk g k 0 a q || decide (g.edges[k].t = a ∧ g.edges[k].tp = q))) := Lib.hid (inTk_edge g hk1)
      have e : ga = some ⟨b, off, none⟩ := HGA.out.symm.trans hab
      subst e
      clear hab hGr HE HEX
      have hAE : Hid (edgeE g k g.edges[k] = _) := Lib.hid (by unfold edgeE; exact rfl)
      generalize g.edges[k] = x at q0 q1 q2 q3 q4 hxn HOn HIn HF HE2 hAE
      rw [← takeE_side HO.out, ← takeE_side HI.out] at hAE
      have hgo := gridLen_side HO.out hal nOut_few
      have hgi := gridLen_side HI.out hal nIn_few
      have HO2 : Hid (takeEg OL x.f x.fp = 0 → (takeL OL x.f x.fp).map (·.2) = side g nOut (outTk g (k + 1) 0)) := Lib.hid (fun h => side_took HO.out h HOn.out)
      have HI2 : Hid (takeEg IL x.t x.tp = 0 → (takeL IL x.t x.tp).map (·.2) = side g nIn (inTk g (k + 1) 0)) := Lib.hid (fun h => side_took HI.out h HIn.out)
      clear HO HI HOn HIn
      go_wp2_with fail
      have kb : New wr (wr.alloc (.cells #[I x.f, I x.fp, I x.t, I x.tp, .slice x.a x.xs.length x.c] 66)) := (New.refl wr).alloc _
      have hby : (wr.alloc (.cells #[I x.f, I x.fp, I x.t, I x.tp, .slice x.a x.xs.length x.c] 66)).heap[wr.heap.size]? = some (.cells #[I x.f, I x.fp, I x.t, I x.tp, .slice x.a x.xs.length x.c] 66 (0, 0)) := heap_alloc_new wr _
      generalize (wr.alloc (.cells #[I x.f, I x.fp, I x.t, I x.tp, .slice x.a x.xs.length x.c] 66)) = w1 at kb hby ⊢
      generalize wr.heap.size = Y at hby ⊢
      replace HB := Lib.hid (Keeps.heap kb HB.out (fun h => h))
      replace hKB := hKB.trans (KXg.of_new kb)
      have hC1 := hC.new kb
      have HY := Lib.hid hby
      clear hby kb q0 q1 q2 q3 q4 hC
      obtain ⟨⟨-, -, -, -, -, -, c6, c7⟩, -, hCl⟩ := chk_cells hC1.blk
      obtain ⟨y0, y1, y2, y3, -, hYl⟩ := edge_cells HY.out
      have hdr : New w1 w1.drew := (New.refl w1).drew
      have hS0 : (fun w' : World => w'.cell? ⟨C, 7, none⟩ = some (.slice oa OL.length oc) ∧ w'.cell? ⟨Y, 0, none⟩ = some (I x.f) ∧ w'.cell? ⟨Y, 1, none⟩ = some (I x.fp) ∧ C < w'.heap.size ∧ Y < w'.heap.size) w1.drew := ⟨hdr.cell c7, hdr.cell y0, hdr.cell y1, hCl, hYl⟩
      have hCd := hC1.new hdr
      clear c6 c7 y0 y1 y2 y3 hCl hYl hC1
      refine wp_region_X (fun w' : World => w'.cell? ⟨C, 7, none⟩ = some (.slice oa OL.length oc) ∧ w'.cell? ⟨Y, 0, none⟩ = some (I x.f) ∧ w'.cell? ⟨Y, 1, none⟩ = some (I x.fp) ∧ C < w'.heap.size ∧ Y < w'.heap.size) [8, 9] (by kernel_rfl) hS0 ?_
      refine anyX_tk 0 hS0 ?_
      refine anyX_tk 1 hS0 ?_
      refine anyX_tk 2 hS0 ?_
      refine anyX_tk 3 hS0 ?_
      refine anyX_tk 4 hS0 ?_
      refine anyX_tk 5 hS0 ?_
      refine anyX_tk 6 hS0 ?_
      refine anyX_tk 7 hS0 ?_
      refine anyX_one 8 (by kernel_rfl) ?_
      intro oi ho; simp only [List.getElem?_toArray, List.getElem?_cons_succ, List.getElem?_cons_zero, Option.some.injEq] at ho; subst ho; intro K hK
      (try simp only [Act.put, List.setIfInBounds_toArray, List.set_cons_zero, List.set_cons_succ])
      go_simp
      refine (take_any w1.drew B oa oc OL x.f x.fp hCd.go hgo).mono ?_
      rintro e w2 hT
      have hC2 := hCd.tookO hT
      obtain ⟨rfl, -, kT, -⟩ := hT
      refine hK _ _ (fun hx => by cases hx) ?_
      clear hK K
      replace kT := (KXg.of_new hdr).trans kT
      replace HY := Lib.hid (kT.heap HY.out rfl)
      replace HB := Lib.hid (kT.heap HB.out rfl)
      replace hKB := hKB.trans kT
      clear kT hdr hS0 hCd
      refine anyX_one 9 (by kernel_rfl) ?_
      intro oi ho; simp only [List.getElem?_toArray, List.getElem?_cons_succ, List.getElem?_cons_zero, Option.some.injEq] at ho; subst ho; intro K hK
      (try simp only [Act.put, List.setIfInBounds_toArray, List.set_cons_zero, List.set_cons_succ])
      go_simp
      refine hK _ _ (fun hx => by cases hx) ?_
      clear hK K
      refine anyX_done (by kernel_rfl) ?_
      (try simp only [Act.put, List.setIfInBounds_toArray, List.set_cons_zero, List.set_cons_succ])
      (try simp only [Exit.then])
      by_cases h1 : takeEg OL x.f x.fp = 0
      · have d1 : (takeEg OL x.f x.fp != 0) = false := by simp [h1]
        have HO3 := Lib.hid (HO2.out h1)
        rw [if_neg (fun h => h h1)] at hAE
        generalize takeEg OL x.f x.fp = t1 at d1
        generalize takeL OL x.f x.fp = OL1 at HO3 hC2
        clear HO2 h1 hgo
        go_wp2_with fail
        obtain ⟨⟨-, -, -, -, -, -, c6, c7⟩, -, hCl⟩ := chk_cells hC2.blk
        obtain ⟨y0, y1, y2, y3, -, hYl⟩ := edge_cells HY.out
        have hdr : New w2 w2.drew := (New.refl w2).drew
        have hS0 : (fun w' : World => w'.cell? ⟨C, 6, none⟩ = some (.slice ia IL.length ic) ∧ w'.cell? ⟨Y, 2, none⟩ = some (I x.t) ∧ w'.cell? ⟨Y, 3, none⟩ = some (I x.tp) ∧ C < w'.heap.size ∧ Y < w'.heap.size) w2.drew := ⟨hdr.cell c6, hdr.cell y2, hdr.cell y3, hCl, hYl⟩
        have hCd := hC2.new hdr
        clear c6 c7 y0 y1 y2 y3 hCl hYl hC2
        refine wp_region_X (fun w' : World => w'.cell? ⟨C, 6, none⟩ = some (.slice ia IL.length ic) ∧ w'.cell? ⟨Y, 2, none⟩ = some (I x.t) ∧ w'.cell? ⟨Y, 3, none⟩ = some (I x.tp) ∧ C < w'.heap.size ∧ Y < w'.heap.size) [8, 9] (by kernel_rfl) hS0 ?_
        refine anyX_tk 0 hS0 ?_
        refine anyX_tk 1 hS0 ?_
        refine anyX_tk 2 hS0 ?_
        refine anyX_tk 3 hS0 ?_
        refine anyX_tk 4 hS0 ?_
        refine anyX_tk 5 hS0 ?_
        refine anyX_tk 6 hS0 ?_
        refine anyX_tk 7 hS0 ?_
        refine anyX_one 8 (by kernel_rfl) ?_
        intro oi ho; simp only [List.getElem?_toArray, List.getElem?_cons_succ, List.getElem?_cons_zero, Option.some.injEq] at ho; subst ho; intro K hK
        (try simp only [Act.put, List.setIfInBounds_toArray, List.set_cons_zero, List.set_cons_succ])
        go_simp
        refine (take_any w2.drew B ia ic IL x.t x.tp hCd.gi hgi).mono ?_
        rintro e w3 hT
        have hC3 := hCd.tookI hT
        obtain ⟨rfl, -, kT, -⟩ := hT
        refine hK _ _ (fun hx => by cases hx) ?_
        clear hK K
        replace kT := (KXg.of_new hdr).trans kT
        replace HY := Lib.hid (kT.heap HY.out rfl)
        replace HB := Lib.hid (kT.heap HB.out rfl)
        replace hKB := hKB.trans kT
        clear kT hdr hS0 hCd
        refine anyX_one 9 (by kernel_rfl) ?_
        intro oi ho; simp only [List.getElem?_toArray, List.getElem?_cons_succ, List.getElem?_cons_zero, Option.some.injEq] at ho; subst ho; intro K hK
        (try simp only [Act.put, List.setIfInBounds_toArray, List.set_cons_zero, List.set_cons_succ])
        go_simp
        refine hK _ _ (fun hx => by cases hx) ?_
        clear hK K
        refine anyX_done (by kernel_rfl) ?_
        (try simp only [Act.put, List.setIfInBounds_toArray, List.set_cons_zero, List.set_cons_succ])
        (try simp only [Exit.then])
        by_cases h2 : takeEg IL x.t x.tp = 0
        · have d2 : (takeEg IL x.t x.tp != 0) = false := by simp [h2]
          have HI3 := Lib.hid (HI2.out h2)
          rw [if_neg (fun h => h h2)] at hAE
          generalize takeEg IL x.t x.tp = t2 at d2
          generalize takeL IL x.t x.tp = IL1 at HI3 hC3
          clear HI2 h2 hgi
          obtain ⟨-, -, -, -, y4, hYl⟩ := edge_cells HY.out
          by_cases h3 : 256 < x.xs.length
          · have d3 : decide ((256 : Int) < (x.xs.length : Int)) = true := decide_eq_true (by omega)
            rw [if_pos h3] at hAE
            have HF2 := Lib.hid (HF.out (by rw [hAE.out]; decide))
            clear h3 HE2 HF hC3
            obtain ⟨⟨r0, r1, r2⟩, ⟨f0, f1, f2⟩, hBB⟩ := spot_cells HB.out
            go_wp2_with fail
            exact bodyPost_ret (v := .tuple #[I 88, .agg #[.int .u8 2, I k, I 0]]) (by simp [results, Tryz.results85, go_sem, r0, r1, r2, f0, f1, f2, hBB]) rfl ⟨by unfold Stage; rw [HF2.out, hAE.out]; rfl, ((hKB.setCell (Nat.le_refl _) _).setCell (Nat.le_refl _) _).setCell (Nat.le_refl _) _⟩
          · have d3 : decide ((256 : Int) < (x.xs.length : Int)) = false := decide_eq_false (by omega)
            rw [if_neg h3] at hAE
            have HG2 := Lib.hid (HE2.out (by rw [hAE.out]))
            clear h3 HE2 HF hAE
            go_wp2_with fail
            go_roundw
            case rel => exact ⟨k + 1, _, _, by omega, by go_num, Lib.hid ⟨hC3, HI3.out, HO3.out, HG2.out, HB.out, hKB⟩⟩
            case measure => simp [intOf]; omega
        · have d2 : (takeEg IL x.t x.tp != 0) = true := by simp [h2]
          rw [if_pos h2] at hAE
          have HF2 := Lib.hid (HF.out (by rw [hAE.out]; exact h2))
          generalize takeEg IL x.t x.tp = t2 at d2 hAE
          clear h2 HE2 HF hC3 HI2
          obtain ⟨⟨r0, r1, r2⟩, ⟨f0, f1, f2⟩, hBB⟩ := spot_cells HB.out
          go_wp2_with fail
          exact bodyPost_ret (v := .tuple #[I t2, .agg #[.int .u8 2, I k, I 2]]) (by simp [results, Tryz.results85, go_sem, r0, r1, r2, f0, f1, f2, hBB]) rfl ⟨by unfold Stage; rw [HF2.out, hAE.out]; rfl, ((hKB.setCell (Nat.le_refl _) _).setCell (Nat.le_refl _) _).setCell (Nat.le_refl _) _⟩
      · have d1 : (takeEg OL x.f x.fp != 0) = true := by simp [h1]
        rw [if_pos h1] at hAE
        have HF2 := Lib.hid (HF.out (by rw [hAE.out]; exact h1))
        generalize takeEg OL x.f x.fp = t1 at d1 hAE
        clear h1 HE2 HF hC2 HO2
        obtain ⟨⟨r0, r1, r2⟩, ⟨f0, f1, f2⟩, hBB⟩ := spot_cells HB.out
        go_wp2_with fail
        exact bodyPost_ret (v := .tuple #[I t1, .agg #[.int .u8 2, I k, I 1]]) (by simp [results, Tryz.results85, go_sem, r0, r1, r2, f0, f1, f2, hBB]) rfl ⟨by unfold Stage; rw [HF2.out, hAE.out]; rfl, ((hKB.setCell (Nat.le_refl _) _).setCell (Nat.le_refl _) _).setCell (Nat.le_refl _) _⟩
    · have hke : k = g.edges.length := by omega
      have hkd : decide (k < g.edges.length) = false := decide_eq_false hk1
      rw [hke] at HE HI HO
      have HFN : Hid (firstE (edgeE g) 0 g.edges = none) := Lib.hid (firstE_all HE.out)
      have HOKK : Hid (∀ W, Chk W B C M g ns ia ic IL oa oc OL → ok W) := Lib.hid (fun W hW => by
        rw [← HOK.out]; exact ⟨IL, OL, hW, HI.out, HO.out⟩)
      clear HE HI HO hke hk hk1 HEX
      obtain ⟨⟨r0, r1, r2⟩, ⟨f0, f1, f2⟩, hBB⟩ := spot_cells HB.out
      have HCS := Lib.hid (fun u v x => hC.spot HB.out u v x)
      clear hC
      go_wp2_with fail
      exact bodyPost_ret (v := .tuple #[I 0, .agg #[.int .u8 0, I 0, I 0]]) (by simp [results, Tryz.results85, go_sem, r0, r1, r2, f0, f1, f2, hBB]) rfl ⟨by unfold Stage; rw [HFN.out]; exact ⟨rfl, HOKK.out _ (HCS.out _ _ _)⟩, ((hKB.setCell (Nat.le_refl _) _).setCell (Nat.le_refl _) _).setCell (Nat.le_refl _) _⟩
theorem port_cells {w : World} {C : Nat} {a0 a1 a2 : Value} (h : w.heap[C]? = some (.cells #[a0, a1, a2] 82 (0, 0))) :
    w.cell? ⟨C, 0, none⟩ = some a0 ∧ w.cell? ⟨C, 1, none⟩ = some a1 ∧ w.cell? ⟨C, 2, none⟩ = some a2 ∧ C < w.heap.size := by
  refine ⟨?_, ?_, ?_, (Array.getElem?_eq_some_iff.1 h).1⟩
  all_goals rw [cell_of_block h]; rfl
set_option maxRecDepth 100000 in
set_option maxHeartbeats 16000000 in
theorem cportsI_any (w0 w : World) (B C M : Nat) (g : Gr) (ia : Option Addr) (ic : Nat) (IL : List (Nat × List Bool)) (oa : Option Addr) (oc : Nat) (OL : List (Nat × List Bool)) (hg : GrAt w0 g) (hN : New w0 w) (hB : B = w0.heap.size) (hl : GLen g) (hal : g.acts.length ≤ 32) (hpi : g.ins.length ≤ 16) (hpo : g.outs.length ≤ 16)
    (h : Chk w B C M g (namesOf g g.acts.length 0 0) ia ic IL oa oc OL) (hL : IL.map (·.2) = side g nIn (inTk g g.edges.length 0)) :
    Calls Tryz.prog 86 #[.pointer (some ⟨C, 0, none⟩), .slice g.ia g.ins.length g.ic, .slice ia g.acts.length ic, .int .u8 3, I 2] w fun e w' => Stage (firstE (inE g) 0 g.ins) 3 (fun w' => ∃ L, Chk w' B C M g (namesOf g g.acts.length g.ins.length 0) ia ic L oa oc OL ∧ L.map (·.2) = side g nIn (inTk g g.edges.length g.ins.length)) e w' ∧ KP B w w' := by
  have HEX := Lib.hid hl.ix
  have hle := hl.i
  clear hl
  obtain ⟨ok, hok⟩ : ∃ ok : World → Prop, (fun w' => ∃ L, Chk w' B C M g (namesOf g g.acts.length g.ins.length 0) ia ic L oa oc OL ∧ L.map (·.2) = side g nIn (inTk g g.edges.length g.ins.length)) = ok := ⟨_, rfl⟩
  rw [hok]
  have HOK := Lib.hid hok
  clear hok
  obtain ⟨ga, hga⟩ : ∃ ga, g.ia = ga := ⟨_, rfl⟩
  rw [hga]
  have HGA := Lib.hid hga
  have HG := Lib.hid hg
  have HNw := Lib.hid hN
  have HBB := Lib.hid hB
  have HL0 := Lib.hid hL
  have hBw : B ≤ w.heap.size := by rw [hB]; exact hN.size
  clear hga hg hN hB hL
  go_enter Tryz.func86, Tryz.ntmps86
  go_wp2_with fail
  have k0 : New w (w.alloc (.cells #[.int .u8 0, I 0, I 0] 85)) := (New.refl w).alloc _
  have hbx : (w.alloc (.cells #[.int .u8 0, I 0, I 0] 85)).heap[w.heap.size]? = some (.cells #[.int .u8 0, I 0, I 0] 85 (0, 0)) := heap_alloc_new w _
  generalize (w.alloc (.cells #[.int .u8 0, I 0, I 0] 85)) = v0 at k0 hbx ⊢
  have hCh := h.new k0
  clear h
  go_loopw [18] (fun i wr => ∃ (k : Nat) (L : List (Nat × List Bool)), k ≤ g.ins.length ∧ i = .int .i64 k ∧
      Hid (Chk wr B C M g (namesOf g g.acts.length k 0) ia ic L oa oc OL ∧ L.map (·.2) = side g nIn (inTk g g.edges.length k) ∧
        (∀ j (hj : j < g.ins.length), j < k → (inE g j g.ins[j]).1 = 0) ∧ wr.heap[w.heap.size]? = some (.cells #[.int .u8 0, I 0, I 0] 85 (0, 0)) ∧ KP B w wr)) (fun i _ => g.ins.length - (intOf i).toNat)
  case atStart => exact ⟨0, IL, by omega, rfl, Lib.hid ⟨hCh, HL0.out, fun j hj hjk => by omega, hbx, KXg.of_new k0⟩⟩
  case round =>
    clear hCh hbx k0 HL0 IL
    obtain ⟨k, IL, hk, rfl, HR⟩ := hrel
    obtain ⟨hC, hI, hE, hb, hKB⟩ := HR.out
    have HI := Lib.hid hI
    have HE := Lib.hid hE
    have HB := Lib.hid hb
    clear hI hE hb HR
    by_cases hk1 : k < g.ins.length
    · have hkI : (k : Int) < (g.ins.length : Int) := by omega
      have hkd : decide (k < g.ins.length) = true := decide_eq_true hk1
      have hGr := HG.out.new (hKB.new HBB.out HNw.out)
      obtain ⟨b, off, hab, q0, q1, q2⟩ := ports_at hGr.si hk1
      have hxs := HEX.out _ (List.getElem_mem hk1)
      have HF : Hid ((inE g k g.ins[k]).1 ≠ 0 → firstE (inE g) 0 g.ins = some (k, inE g k g.ins[k])) := Lib.hid (fun h => firstE_skip hk1 HE.out h)
      have HE2 : Hid ((inE g k g.ins[k]).1 = 0 → ∀ j (hj : j < g.ins.length), j < k + 1 → (inE g j g.ins[j]).1 = 0) := Lib.hid (fun h j hj hjk => by
        by_cases e : j = k
        · subst e; exact h
        · exact HE.out j hj (by omega))
      have HIn := Lib.hid (inTk_in g g.edges.length hk1)
      have hns := Lib.hid (names_in g g.acts.length hk1)
      have e : ga = some ⟨b, off, none⟩ := HGA.out.symm.trans hab
      subst e
      clear hab hGr HE HEX
      have hAE : Hid (inE g k g.ins[k] = _) := Lib.hid (by unfold inE; exact rfl)
      have hnl : (namesOf g g.acts.length k 0).length ≤ 1000 := by have := names_len g g.acts.length k 0; omega
      generalize g.ins[k] = x at q0 q1 q2 hxs HIn HF HE2 hAE hns
      rw [← takeE_side HI.out] at hAE
      have hgi := gridLen_side HI.out hal nIn_few
      have hLl := Lib.hid (rows_len HI.out)
      have HI2 : Hid (takeEg IL x.ac x.po = 0 → (takeL IL x.ac x.po).map (·.2) = side g nIn (inTk g g.edges.length (k + 1))) := Lib.hid (fun h => side_took HI.out h HIn.out)
      clear HI HIn
      generalize (namesOf g g.acts.length k 0) = ns at hC hAE hnl hns
      have hNmC := fun W (n : New wr W) => cnm_any W B C M g ns ia ic IL oa oc OL x.name (hC.new n) hxs hnl
      generalize nameE ns x.name = nm at hAE hNmC
      clear hC
      go_wp2_with fail
      have kb : New wr (wr.alloc (.cells #[.string x.name, I x.ac, I x.po] 82)) := (New.refl wr).alloc _
      have hby : (wr.alloc (.cells #[.string x.name, I x.ac, I x.po] 82)).heap[wr.heap.size]? = some (.cells #[.string x.name, I x.ac, I x.po] 82 (0, 0)) := heap_alloc_new wr _
      generalize (wr.alloc (.cells #[.string x.name, I x.ac, I x.po] 82)) = w1 at kb hby ⊢
      generalize wr.heap.size = Y at hby ⊢
      replace HB := Lib.hid (Keeps.heap kb HB.out (fun h => h))
      replace hKB := hKB.trans (KXg.of_new kb)
      refine (hNmC w1 kb).mono ?_
      rintro e w2 ⟨rfl, hC2, k2⟩
      have HY := Lib.hid (k2.heap hby rfl)
      replace HB := Lib.hid (k2.heap HB.out rfl)
      replace hKB := hKB.trans k2
      clear hby k2 kb q0 q1 q2 hNmC
      by_cases hnm : nm = 0
      · rw [if_pos hnm] at hC2
        rw [if_neg (fun h => h hnm)] at hAE
        subst hnm
        have hT : Calls Tryz.prog 126 #[.slice ia g.acts.length ic, I x.ac, I x.po] w2 (Took w2 B ia ic IL x.ac x.po) := by
          have := take_any w2 B ia ic IL x.ac x.po hC2.gi hgi
          rw [hLl.out] at this; exact this
        obtain ⟨y0, y1, y2, hYl⟩ := port_cells HY.out
        go_wp2_with fail
        refine hT.mono ?_
        rintro e w3 hT3
        have hC3 := hC2.tookI hT3
        obtain ⟨rfl, -, kT, -⟩ := hT3
        replace HY := Lib.hid (kT.heap HY.out rfl)
        replace HB := Lib.hid (kT.heap HB.out rfl)
        replace hKB := hKB.trans kT
        clear kT hT hC2 y0 y1 y2 hYl hgi
        by_cases h2 : takeEg IL x.ac x.po = 0
        · have d2 : (takeEg IL x.ac x.po != 0) = false := by simp [h2]
          have HI3 := Lib.hid (HI2.out h2)
          have HG2 := Lib.hid (HE2.out (by rw [hAE.out]; exact h2))
          rw [← hns.out] at hC3
          clear hAE HE2 HF h2 HI2 hLl
          generalize takeEg IL x.ac x.po = t2 at d2
          generalize takeL IL x.ac x.po = IL1 at HI3 hC3
          go_wp2_with fail
          go_roundw
          case rel => exact ⟨k + 1, _, by omega, by go_num, Lib.hid ⟨hC3, HI3.out, HG2.out, HB.out, hKB⟩⟩
          case measure => simp [intOf]; omega
        · have d2 : (takeEg IL x.ac x.po != 0) = true := by simp [h2]
          have HF2 := Lib.hid (HF.out (by rw [hAE.out]; exact h2))
          clear HE2 HF hC3 HI2 hLl
          generalize takeEg IL x.ac x.po = t2 at d2 hAE
          obtain ⟨⟨r0, r1, r2⟩, ⟨f0, f1, f2⟩, hBB⟩ := spot_cells HB.out
          go_wp2_with fail
          exact bodyPost_ret (v := .tuple #[I t2, .agg #[.int .u8 3, I k, I 2]]) (by simp [results, Tryz.results86, go_sem, r0, r1, r2, f0, f1, f2, hBB]) rfl ⟨by unfold Stage; rw [HF2.out, hAE.out]; rfl, ((hKB.setCell (Nat.le_refl _) _).setCell (Nat.le_refl _) _).setCell (Nat.le_refl _) _⟩
      · have e2 : (nm != 0) = true := by simp [hnm]
        rw [if_pos hnm] at hAE
        have HF2 := Lib.hid (HF.out (by rw [hAE.out]; exact hnm))
        clear hnm HE2 HF hC2 HI2 hLl hgi
        obtain ⟨⟨r0, r1, r2⟩, ⟨f0, f1, f2⟩, hBB⟩ := spot_cells HB.out
        go_wp2_with fail
        exact bodyPost_ret (v := .tuple #[I nm, .agg #[.int .u8 3, I k, I 0]]) (by simp [results, Tryz.results86, go_sem, r0, r1, r2, f0, f1, f2, hBB]) rfl ⟨by unfold Stage; rw [HF2.out, hAE.out]; rfl, ((hKB.setCell (Nat.le_refl _) _).setCell (Nat.le_refl _) _).setCell (Nat.le_refl _) _⟩
    · have hke : k = g.ins.length := by omega
      have hkd : decide (k < g.ins.length) = false := decide_eq_false hk1
      rw [hke] at hC HE HI
      have HFN : Hid (firstE (inE g) 0 g.ins = none) := Lib.hid (firstE_all HE.out)
      have HOKK : Hid (∀ W, Chk W B C M g (namesOf g g.acts.length g.ins.length 0) ia ic IL oa oc OL → ok W) := Lib.hid (fun W hW => by
        rw [← HOK.out]; exact ⟨IL, hW, HI.out⟩)
      clear HE HI hke hk hk1 HEX
      obtain ⟨⟨r0, r1, r2⟩, ⟨f0, f1, f2⟩, hBB⟩ := spot_cells HB.out
      have HCS := Lib.hid (fun u v x => hC.spot HB.out u v x)
      clear hC
      go_wp2_with fail
      exact bodyPost_ret (v := .tuple #[I 0, .agg #[.int .u8 0, I 0, I 0]]) (by simp [results, Tryz.results86, go_sem, r0, r1, r2, f0, f1, f2, hBB]) rfl ⟨by unfold Stage; rw [HFN.out]; exact ⟨rfl, HOKK.out _ (HCS.out _ _ _)⟩, ((hKB.setCell (Nat.le_refl _) _).setCell (Nat.le_refl _) _).setCell (Nat.le_refl _) _⟩
set_option maxRecDepth 100000 in
set_option maxHeartbeats 16000000 in
theorem cportsO_any (w0 w : World) (B C M : Nat) (g : Gr) (ia : Option Addr) (ic : Nat) (IL : List (Nat × List Bool)) (oa : Option Addr) (oc : Nat) (OL : List (Nat × List Bool)) (hg : GrAt w0 g) (hN : New w0 w) (hB : B = w0.heap.size) (hl : GLen g) (hal : g.acts.length ≤ 32) (hpi : g.ins.length ≤ 16) (hpo : g.outs.length ≤ 16)
    (h : Chk w B C M g (namesOf g g.acts.length g.ins.length 0) ia ic IL oa oc OL) (hL : OL.map (·.2) = side g nOut (outTk g g.edges.length 0)) :
    Calls Tryz.prog 86 #[.pointer (some ⟨C, 0, none⟩), .slice g.oa g.outs.length g.oc, .slice oa g.acts.length oc, .int .u8 4, I 1] w fun e w' => Stage (firstE (outE g) 0 g.outs) 4 (fun w' => ∃ L, Chk w' B C M g (namesOf g g.acts.length g.ins.length g.outs.length) ia ic IL oa oc L ∧ L.map (·.2) = side g nOut (outTk g g.edges.length g.outs.length)) e w' ∧ KP B w w' := by
  have HEX := Lib.hid hl.ox
  have hle := hl.o
  clear hl
  obtain ⟨ok, hok⟩ : ∃ ok : World → Prop, (fun w' => ∃ L, Chk w' B C M g (namesOf g g.acts.length g.ins.length g.outs.length) ia ic IL oa oc L ∧ L.map (·.2) = side g nOut (outTk g g.edges.length g.outs.length)) = ok := ⟨_, rfl⟩
  rw [hok]
  have HOK := Lib.hid hok
  clear hok
  obtain ⟨ga, hga⟩ : ∃ ga, g.oa = ga := ⟨_, rfl⟩
  rw [hga]
  have HGA := Lib.hid hga
  have HG := Lib.hid hg
  have HNw := Lib.hid hN
  have HBB := Lib.hid hB
  have HL0 := Lib.hid hL
  have hBw : B ≤ w.heap.size := by rw [hB]; exact hN.size
  clear hga hg hN hB hL
  go_enter Tryz.func86, Tryz.ntmps86
  go_wp2_with fail
  have k0 : New w (w.alloc (.cells #[.int .u8 0, I 0, I 0] 85)) := (New.refl w).alloc _
  have hbx : (w.alloc (.cells #[.int .u8 0, I 0, I 0] 85)).heap[w.heap.size]? = some (.cells #[.int .u8 0, I 0, I 0] 85 (0, 0)) := heap_alloc_new w _
  generalize (w.alloc (.cells #[.int .u8 0, I 0, I 0] 85)) = v0 at k0 hbx ⊢
  have hCh := h.new k0
  clear h
  go_loopw [18] (fun i wr => ∃ (k : Nat) (L : List (Nat × List Bool)), k ≤ g.outs.length ∧ i = .int .i64 k ∧
      Hid (Chk wr B C M g (namesOf g g.acts.length g.ins.length k) ia ic IL oa oc L ∧ L.map (·.2) = side g nOut (outTk g g.edges.length k) ∧
        (∀ j (hj : j < g.outs.length), j < k → (outE g j g.outs[j]).1 = 0) ∧ wr.heap[w.heap.size]? = some (.cells #[.int .u8 0, I 0, I 0] 85 (0, 0)) ∧ KP B w wr)) (fun i _ => g.outs.length - (intOf i).toNat)
  case atStart => exact ⟨0, OL, by omega, rfl, Lib.hid ⟨hCh, HL0.out, fun j hj hjk => by omega, hbx, KXg.of_new k0⟩⟩
  case round =>
    clear hCh hbx k0 HL0 OL
    obtain ⟨k, OL, hk, rfl, HR⟩ := hrel
    obtain ⟨hC, hI, hE, hb, hKB⟩ := HR.out
    have HI := Lib.hid hI
    have HE := Lib.hid hE
    have HB := Lib.hid hb
    clear hI hE hb HR
    by_cases hk1 : k < g.outs.length
    · have hkI : (k : Int) < (g.outs.length : Int) := by omega
      have hkd : decide (k < g.outs.length) = true := decide_eq_true hk1
      have hGr := HG.out.new (hKB.new HBB.out HNw.out)
      obtain ⟨b, off, hab, q0, q1, q2⟩ := ports_at hGr.so hk1
      have hxs := HEX.out _ (List.getElem_mem hk1)
      have HF : Hid ((outE g k g.outs[k]).1 ≠ 0 → firstE (outE g) 0 g.outs = some (k, outE g k g.outs[k])) := Lib.hid (fun h => firstE_skip hk1 HE.out h)
      have HE2 : Hid ((outE g k g.outs[k]).1 = 0 → ∀ j (hj : j < g.outs.length), j < k + 1 → (outE g j g.outs[j]).1 = 0) := Lib.hid (fun h j hj hjk => by
        by_cases e : j = k
        · subst e; exact h
        · exact HE.out j hj (by omega))
      have HIn := Lib.hid (outTk_out g g.edges.length hk1)
      have hns := Lib.hid (names_out g g.acts.length g.ins.length hk1)
      have e : ga = some ⟨b, off, none⟩ := HGA.out.symm.trans hab
      subst e
      clear hab hGr HE HEX
      have hAE : Hid (outE g k g.outs[k] = _) := Lib.hid (by unfold outE; exact rfl)
      have hnl : (namesOf g g.acts.length g.ins.length k).length ≤ 1000 := by have := names_len g g.acts.length g.ins.length k; omega
      generalize g.outs[k] = x at q0 q1 q2 hxs HIn HF HE2 hAE hns
      rw [← takeE_side HI.out] at hAE
      have hgi := gridLen_side HI.out hal nOut_few
      have hLl := Lib.hid (rows_len HI.out)
      have HI2 : Hid (takeEg OL x.ac x.po = 0 → (takeL OL x.ac x.po).map (·.2) = side g nOut (outTk g g.edges.length (k + 1))) := Lib.hid (fun h => side_took HI.out h HIn.out)
      clear HI HIn
      generalize (namesOf g g.acts.length g.ins.length k) = ns at hC hAE hnl hns
      have hNmC := fun W (n : New wr W) => cnm_any W B C M g ns ia ic IL oa oc OL x.name (hC.new n) hxs hnl
      generalize nameE ns x.name = nm at hAE hNmC
      clear hC
      go_wp2_with fail
      have kb : New wr (wr.alloc (.cells #[.string x.name, I x.ac, I x.po] 82)) := (New.refl wr).alloc _
      have hby : (wr.alloc (.cells #[.string x.name, I x.ac, I x.po] 82)).heap[wr.heap.size]? = some (.cells #[.string x.name, I x.ac, I x.po] 82 (0, 0)) := heap_alloc_new wr _
      generalize (wr.alloc (.cells #[.string x.name, I x.ac, I x.po] 82)) = w1 at kb hby ⊢
      generalize wr.heap.size = Y at hby ⊢
      replace HB := Lib.hid (Keeps.heap kb HB.out (fun h => h))
      replace hKB := hKB.trans (KXg.of_new kb)
      refine (hNmC w1 kb).mono ?_
      rintro e w2 ⟨rfl, hC2, k2⟩
      have HY := Lib.hid (k2.heap hby rfl)
      replace HB := Lib.hid (k2.heap HB.out rfl)
      replace hKB := hKB.trans k2
      clear hby k2 kb q0 q1 q2 hNmC
      by_cases hnm : nm = 0
      · rw [if_pos hnm] at hC2
        rw [if_neg (fun h => h hnm)] at hAE
        subst hnm
        have hT : Calls Tryz.prog 126 #[.slice oa g.acts.length oc, I x.ac, I x.po] w2 (Took w2 B oa oc OL x.ac x.po) := by
          have := take_any w2 B oa oc OL x.ac x.po hC2.go hgi
          rw [hLl.out] at this; exact this
        obtain ⟨y0, y1, y2, hYl⟩ := port_cells HY.out
        go_wp2_with fail
        refine hT.mono ?_
        rintro e w3 hT3
        have hC3 := hC2.tookO hT3
        obtain ⟨rfl, -, kT, -⟩ := hT3
        replace HY := Lib.hid (kT.heap HY.out rfl)
        replace HB := Lib.hid (kT.heap HB.out rfl)
        replace hKB := hKB.trans kT
        clear kT hT hC2 y0 y1 y2 hYl hgi
        by_cases h2 : takeEg OL x.ac x.po = 0
        · have d2 : (takeEg OL x.ac x.po != 0) = false := by simp [h2]
          have HI3 := Lib.hid (HI2.out h2)
          have HG2 := Lib.hid (HE2.out (by rw [hAE.out]; exact h2))
          rw [← hns.out] at hC3
          clear hAE HE2 HF h2 HI2 hLl
          generalize takeEg OL x.ac x.po = t2 at d2
          generalize takeL OL x.ac x.po = IL1 at HI3 hC3
          go_wp2_with fail
          go_roundw
          case rel => exact ⟨k + 1, _, by omega, by go_num, Lib.hid ⟨hC3, HI3.out, HG2.out, HB.out, hKB⟩⟩
          case measure => simp [intOf]; omega
        · have d2 : (takeEg OL x.ac x.po != 0) = true := by simp [h2]
          have HF2 := Lib.hid (HF.out (by rw [hAE.out]; exact h2))
          clear HE2 HF hC3 HI2 hLl
          generalize takeEg OL x.ac x.po = t2 at d2 hAE
          obtain ⟨⟨r0, r1, r2⟩, ⟨f0, f1, f2⟩, hBB⟩ := spot_cells HB.out
          go_wp2_with fail
          exact bodyPost_ret (v := .tuple #[I t2, .agg #[.int .u8 4, I k, I 1]]) (by simp [results, Tryz.results86, go_sem, r0, r1, r2, f0, f1, f2, hBB]) rfl ⟨by unfold Stage; rw [HF2.out, hAE.out]; rfl, ((hKB.setCell (Nat.le_refl _) _).setCell (Nat.le_refl _) _).setCell (Nat.le_refl _) _⟩
      · have e2 : (nm != 0) = true := by simp [hnm]
        rw [if_pos hnm] at hAE
        have HF2 := Lib.hid (HF.out (by rw [hAE.out]; exact hnm))
        clear hnm HE2 HF hC2 HI2 hLl hgi
        obtain ⟨⟨r0, r1, r2⟩, ⟨f0, f1, f2⟩, hBB⟩ := spot_cells HB.out
        go_wp2_with fail
        exact bodyPost_ret (v := .tuple #[I nm, .agg #[.int .u8 4, I k, I 0]]) (by simp [results, Tryz.results86, go_sem, r0, r1, r2, f0, f1, f2, hBB]) rfl ⟨by unfold Stage; rw [HF2.out, hAE.out]; rfl, ((hKB.setCell (Nat.le_refl _) _).setCell (Nat.le_refl _) _).setCell (Nat.le_refl _) _⟩
    · have hke : k = g.outs.length := by omega
      have hkd : decide (k < g.outs.length) = false := decide_eq_false hk1
      rw [hke] at hC HE HI
      have HFN : Hid (firstE (outE g) 0 g.outs = none) := Lib.hid (firstE_all HE.out)
      have HOKK : Hid (∀ W, Chk W B C M g (namesOf g g.acts.length g.ins.length g.outs.length) ia ic IL oa oc OL → ok W) := Lib.hid (fun W hW => by
        rw [← HOK.out]; exact ⟨OL, hW, HI.out⟩)
      clear HE HI hke hk hk1 HEX
      obtain ⟨⟨r0, r1, r2⟩, ⟨f0, f1, f2⟩, hBB⟩ := spot_cells HB.out
      have HCS := Lib.hid (fun u v x => hC.spot HB.out u v x)
      clear hC
      go_wp2_with fail
      exact bodyPost_ret (v := .tuple #[I 0, .agg #[.int .u8 0, I 0, I 0]]) (by simp [results, Tryz.results86, go_sem, r0, r1, r2, f0, f1, f2, hBB]) rfl ⟨by unfold Stage; rw [HFN.out]; exact ⟨rfl, HOKK.out _ (HCS.out _ _ _)⟩, ((hKB.setCell (Nat.le_refl _) _).setCell (Nat.le_refl _) _).setCell (Nat.le_refl _) _⟩
def badR (l : List Bool) : Bool := l.any (fun b => !b)
theorem badR_hit {l : List Bool} {j : Nat} (hj : j < l.length) (h : l[j] = false) : badR l = true := by
  unfold badR; exact List.any_eq_true.2 ⟨l[j], List.getElem_mem hj, by simp [h]⟩
theorem badR_none {l : List Bool} (h : ∀ j (hj : j < l.length), l[j] = true) : badR l = false := by
  unfold badR
  rw [List.any_eq_false]
  intro b hb
  obtain ⟨j, hj, rfl⟩ := List.getElem_of_mem hb
  simp [h j hj]
theorem badR_range (n : Nat) (T : Nat → Bool) : badR ((List.range n).map T) = (List.range n).any (fun k => !T k) := by
  unfold badR; rw [List.any_map]; rfl
def openF (g : Gr) (i : Nat) (x : GAct) : Int × Int := (if openE g i x then 87 else 0, 0)
theorem row_mem {g : Gr} {n : GAct → Nat} {T : Int → Int → Bool} {L : List (Nat × List Bool)} (h : L.map (·.2) = side g n T) {a : Nat} (ha : a < g.acts.length) (hl : a < L.length) : L[a].2 = (List.range (n g.acts[a])).map fun (p : Nat) => T a p := by
  have := rows_get h ha
  rwa [List.getD_eq_getElem?_getD, List.getElem?_eq_getElem hl] at this
set_option maxRecDepth 100000 in
set_option maxHeartbeats 16000000 in
theorem copen_any (w : World) (B C M : Nat) (g : Gr) (ns : List ByteArray) (ia : Option Addr) (ic : Nat) (IL : List (Nat × List Bool)) (oa : Option Addr) (oc : Nat) (OL : List (Nat × List Bool)) (hal : g.acts.length ≤ 32)
    (h : Chk w B C M g ns ia ic IL oa oc OL) (hIL : IL.map (·.2) = side g nIn (inTk g g.edges.length g.ins.length)) (hOL : OL.map (·.2) = side g nOut (outTk g g.edges.length g.outs.length)) :
    Calls Tryz.prog 87 #[.pointer (some ⟨C, 0, none⟩)] w fun e w' => Stage (firstE (openF g) 0 g.acts) 1 (fun _ => True) e w' ∧ KP B w w' := by
  obtain ⟨⟨c0, c1, c2, c3, c4, -, -, -⟩, -, hCl⟩ := chk_cells h.blk
  have HI := Lib.hid hIL
  have HO := Lib.hid hOL
  clear hIL hOL
  go_enter Tryz.func87, Tryz.ntmps87
  go_wp2_with fail
  have k0 : New w (w.alloc (.cells #[.int .u8 0, I 0, I 0] 85)) := (New.refl w).alloc _
  have hbx : (w.alloc (.cells #[.int .u8 0, I 0, I 0] 85)).heap[w.heap.size]? = some (.cells #[.int .u8 0, I 0, I 0] 85 (0, 0)) := heap_alloc_new w _
  generalize (w.alloc (.cells #[.int .u8 0, I 0, I 0] 85)) = v0 at k0 hbx ⊢
  clear c0 c1 c2 c3 c4
  have hCh := h.new k0
  clear h hCl
  go_loopw [15] (fun i wr => ∃ (k : Nat), k ≤ g.acts.length ∧ i = .int .i64 k ∧
      Hid ((∀ j (hj : j < g.acts.length), j < k → (openF g j g.acts[j]).1 = 0) ∧ wr.heap[w.heap.size]? = some (.cells #[.int .u8 0, I 0, I 0] 85 (0, 0)) ∧ New v0 wr)) (fun i _ => g.acts.length - (intOf i).toNat)
  case atStart => exact ⟨0, by omega, rfl, Lib.hid ⟨fun j hj hjk => by omega, hbx, New.refl _⟩⟩
  case round =>
    clear hbx
    obtain ⟨k, hk, rfl, HR⟩ := hrel
    obtain ⟨hE, hb, hNr⟩ := HR.out
    have HE := Lib.hid hE
    have HB := Lib.hid hb
    clear hE hb HR
    have hC := hCh.new hNr
    have hKB := (KXg.of_new (p := chkP) (B := B) k0).trans (KXg.of_new hNr)
    by_cases hk1 : k < g.acts.length
    · have hkI : (k : Int) < (g.acts.length : Int) := by omega
      have hkd : decide (k < g.acts.length) = true := decide_eq_true hk1
      have hli := rows_len HI.out
      have hlo := rows_len HO.out
      have hiI : (k : Int) < (IL.length : Int) := by omega
      have hoI : (k : Int) < (OL.length : Int) := by omega
      have hi1 : k < IL.length := by omega
      have ho1 : k < OL.length := by omega
      have HF : Hid ((openF g k g.acts[k]).1 ≠ 0 → firstE (openF g) 0 g.acts = some (k, openF g k g.acts[k])) := Lib.hid (fun h => firstE_skip hk1 HE.out h)
      have HE2 : Hid ((openF g k g.acts[k]).1 = 0 → ∀ j (hj : j < g.acts.length), j < k + 1 → (openF g j g.acts[j]).1 = 0) := Lib.hid (fun h j hj hjk => by
        by_cases e : j = k
        · subst e; exact h
        · exact HE.out j hj (by omega))
      have hOE : Hid (openF g k g.acts[k] = (if badR IL[k].2 || badR OL[k].2 then 87 else 0, 0)) := Lib.hid (by
        unfold openF openE; rw [row_mem HI.out hk1 hi1, row_mem HO.out hk1 ho1, badR_range, badR_range])
      have hgi := (gridLen_side HI.out hal nIn_few).2 _ (List.getElem_mem hi1)
      have hgo := (gridLen_side HO.out hal nOut_few).2 _ (List.getElem_mem ho1)
      obtain ⟨⟨-, -, -, -, -, -, c6, c7⟩, -, hCl⟩ := chk_cells hC.blk
      have hrI := Lib.hid (hC.gi.row _ (List.getElem_mem hi1))
      have hrO := Lib.hid (hC.go.row _ (List.getElem_mem ho1))
      obtain ⟨b1, o1, hia, t1⟩ := (SlAt.of_owns hC.gi.tab).at (i := k) (by simpa using hi1)
      obtain ⟨b2, o2, hoa, t2⟩ := (SlAt.of_owns hC.go.tab).at (i := k) (by simpa using ho1)
      simp only [List.getElem_map] at t1 t2
      have hb1 : b1 < wr.heap.size := World.block_lt_of_cell? wr _ t1
      have hb2 : b2 < wr.heap.size := World.block_lt_of_cell? wr _ t2
      rw [hia] at c6
      rw [hoa] at c7
      clear hC hli hlo hia hoa HE
      generalize openF g k g.acts[k] = oF at HF HE2 hOE
      generalize IL[k] = r1 at t1 hrI hgi hOE
      generalize OL[k] = r2 at t2 hrO hgo hOE
      go_wp2_with fail
      have hdr : New wr wr.drew := (New.refl wr).drew
      have hS0 : (fun w' : World => w'.cell? ⟨C, 6, none⟩ = some (.slice (some ⟨b1, o1, none⟩) IL.length ic) ∧ w'.cell? ⟨C, 7, none⟩ = some (.slice (some ⟨b2, o2, none⟩) OL.length oc) ∧ w'.cell? ⟨b1, o1 + k, none⟩ = some (rowV r1) ∧ w'.cell? ⟨b2, o2 + k, none⟩ = some (rowV r2) ∧ C < w'.heap.size ∧ b1 < w'.heap.size ∧ b2 < w'.heap.size) wr.drew := ⟨hdr.cell c6, hdr.cell c7, hdr.cell t1, hdr.cell t2, hCl, hb1, hb2⟩
      clear c6 c7 t1 t2 hCl hb1 hb2
      refine wp_region_X (fun w' : World => w'.cell? ⟨C, 6, none⟩ = some (.slice (some ⟨b1, o1, none⟩) IL.length ic) ∧ w'.cell? ⟨C, 7, none⟩ = some (.slice (some ⟨b2, o2, none⟩) OL.length oc) ∧ w'.cell? ⟨b1, o1 + k, none⟩ = some (rowV r1) ∧ w'.cell? ⟨b2, o2 + k, none⟩ = some (rowV r2) ∧ C < w'.heap.size ∧ b1 < w'.heap.size ∧ b2 < w'.heap.size) [] (by kernel_rfl) hS0 ?_
      refine anyX_tk 0 hS0 ?_
      refine anyX_tk 1 hS0 ?_
      refine anyX_tk 2 hS0 ?_
      refine anyX_tk 3 hS0 ?_
      refine anyX_tk 4 hS0 ?_
      refine anyX_tk 5 hS0 ?_
      refine anyX_tk 6 hS0 ?_
      refine anyX_tk 7 hS0 ?_
      refine anyX_tk 8 hS0 ?_
      refine anyX_tk 9 hS0 ?_
      refine anyX_tk 10 hS0 ?_
      refine anyX_tk 11 hS0 ?_
      refine anyX_tk 12 hS0 ?_
      refine anyX_tk 13 hS0 ?_
      refine anyX_tk 16 hS0 ?_
      refine anyX_one 14 (by kernel_rfl) ?_
      intro oi ho; simp only [List.getElem?_toArray, List.getElem?_cons_succ, List.getElem?_cons_zero, Option.some.injEq] at ho; subst ho; intro K hK
      (try simp only [Act.put, List.setIfInBounds_toArray, List.set_cons_zero, List.set_cons_succ])
      go_simp
      have kz1 : New wr.drew (wr.drew.alloc (.cells #[rowV r1, rowV r2] 200)) := (New.refl _).alloc _
      have hS1 : (fun w' : World => w'.cell? ⟨C, 6, none⟩ = some (.slice (some ⟨b1, o1, none⟩) IL.length ic) ∧ w'.cell? ⟨C, 7, none⟩ = some (.slice (some ⟨b2, o2, none⟩) OL.length oc) ∧ w'.cell? ⟨b1, o1 + k, none⟩ = some (rowV r1) ∧ w'.cell? ⟨b2, o2 + k, none⟩ = some (rowV r2) ∧ C < w'.heap.size ∧ b1 < w'.heap.size ∧ b2 < w'.heap.size) (wr.drew.alloc (.cells #[rowV r1, rowV r2] 200)) := by
        obtain ⟨s1, s2, s3, s4, s5, s6, s7⟩ := hS0
        have := kz1.size
        exact ⟨kz1.cell s1, kz1.cell s2, kz1.cell s3, kz1.cell s4, by omega, by omega, by omega⟩
      refine hK _ _ (fun _ => hS1) ?_
      clear hK K
      refine anyX_one 15 (by kernel_rfl) ?_
      intro oi ho; simp only [List.getElem?_toArray, List.getElem?_cons_succ, List.getElem?_cons_zero, Option.some.injEq] at ho; subst ho; intro K hK
      (try simp only [Act.put, List.setIfInBounds_toArray, List.set_cons_zero, List.set_cons_succ])
      go_simp
      refine hK _ _ (fun _ => hS1) ?_
      clear hK K hS1 kz1
      refine anyX_done (by kernel_rfl) ?_
      (try simp only [Act.put, List.setIfInBounds_toArray, List.set_cons_zero, List.set_cons_succ])
      (try simp only [Exit.then])
      have kz : New wr (wr.alloc (.cells #[rowV r1, rowV r2] 200)).drew := ((New.refl wr).alloc _).drew
      have hz : (wr.alloc (.cells #[rowV r1, rowV r2] 200)).drew.heap[wr.heap.size]? = some (.cells #[rowV r1, rowV r2] 200 (0, 0)) := heap_alloc_new wr _
      generalize (wr.alloc (.cells #[rowV r1, rowV r2] 200)).drew = v1 at kz hz ⊢
      generalize wr.heap.size = Z at hz ⊢
      replace hrI := Lib.hid (Keeps.heap kz hrI.out (fun h => h))
      replace hrO := Lib.hid (Keeps.heap kz hrO.out (fun h => h))
      replace HB := Lib.hid (Keeps.heap kz HB.out (fun h => h))
      replace hKB := hKB.trans (KXg.of_new kz)
      replace hNr := hNr.trans kz
      clear kz hdr hS0
      have HZ := Lib.hid hz
      clear hz
      go_wp2_with fail
      go_loop [34] (fun i => ∃ j : Nat, j ≤ 2 ∧ i = .int .i64 j ∧ Hid ((1 ≤ j → badR r1.2 = false) ∧ (2 ≤ j → badR r2.2 = false))) (fun i => 2 - (intOf i).toNat)
      case atStart => exact ⟨0, by omega, rfl, Lib.hid ⟨fun h => by omega, fun h => by omega⟩⟩
      case round =>
        obtain ⟨j, hj, rfl, HJ⟩ := hrel
        by_cases hj2 : j < 2
        · have hjI : (j : Int) < 2 := by omega
          have hjd : decide (j < 2) = true := decide_eq_true hj2
          have hrow : ∃ r : Nat × List Bool, v1.cell? ⟨Z, j, none⟩ = some (.slice (some ⟨r.1, 0, none⟩) r.2.length r.2.length) ∧ Hid (v1.heap[r.1]? = some (.cells (r.2.map Value.bool).toArray 4 (0, 0))) ∧ r.2.length ≤ 64 ∧ Hid (badR r.2 = true → oF = (87, 0)) ∧ Hid (badR r.2 = false → ((1 ≤ j + 1 → badR r1.2 = false) ∧ (2 ≤ j + 1 → badR r2.2 = false))) := by
            by_cases e0 : j = 0
            · subst e0
              exact ⟨r1, by rw [cell_of_block HZ.out 0]; rfl, hrI, hgi, Lib.hid (fun h => by rw [hOE.out, h]; rfl), Lib.hid (fun h => ⟨fun _ => h, fun h2 => by omega⟩)⟩
            · obtain rfl : j = 1 := by omega
              exact ⟨r2, by rw [cell_of_block HZ.out 1]; rfl, hrO, hgo, Lib.hid (fun h => by rw [hOE.out, h]; simp), Lib.hid (fun h => ⟨fun _ => HJ.out.1 (by omega), fun _ => h⟩)⟩
          obtain ⟨r, hrc, hrb, hrl, hbad, hgood⟩ := hrow
          have hZl : Z < v1.heap.size := World.block_lt_of_cell? v1 _ hrc
          clear HJ hrI hrO hgi hgo
          go_wp2_with fail
          go_loop [40] (fun i => ∃ m : Nat, m ≤ r.2.length ∧ i = .int .i64 m ∧ Hid (∀ q (hq : q < r.2.length), q < m → r.2[q] = true)) (fun i => r.2.length - (intOf i).toNat)
          case atStart => exact ⟨0, by omega, rfl, Lib.hid (fun q hq hq0 => by omega)⟩
          case round =>
            obtain ⟨m, hm, rfl, HM⟩ := hrel
            by_cases hm1 : m < r.2.length
            · have hmI : (m : Int) < (r.2.length : Int) := by omega
              have hmd : decide (m < r.2.length) = true := decide_eq_true hm1
              have hbit : v1.cell? ⟨r.1, m, none⟩ = some (.bool r.2[m]) := by
                rw [cell_of_block hrb.out m]; simp [hm1]
              have hrl2 : r.1 < v1.heap.size := World.block_lt_of_cell? v1 _ hbit
              cases hq : r.2[m] with
              | true =>
                rw [hq] at hbit
                have HM2 : Hid (∀ q (hq : q < r.2.length), q < m + 1 → r.2[q] = true) := Lib.hid (fun q hq2 hqm => by
                  by_cases e : q = m
                  · subst e; exact hq
                  · exact HM.out q hq2 (by omega))
                clear hq HM
                go_wp2_with fail
                go_round
                case rel => exact ⟨m + 1, by omega, by go_num, HM2⟩
                case measure => simp [intOf]; omega
              | false =>
                rw [hq] at hbit
                have hO := Lib.hid (hbad.out (badR_hit hm1 hq))
                have HF2 := Lib.hid (HF.out (by rw [hO.out]; decide))
                clear hq HM hbad hgood HE2 HF hOE
                obtain ⟨⟨r0, r1, r2⟩, ⟨f0, f1, f2⟩, hBB⟩ := spot_cells HB.out
                go_wp2_with fail
                exact bodyPost_ret (v := .tuple #[I 87, .agg #[.int .u8 1, I k, I 0]]) (by simp [results, Tryz.results87, go_sem, r0, r1, r2, f0, f1, f2, hBB]) rfl ⟨by unfold Stage; rw [HF2.out, hO.out]; rfl, ((hKB.setCell (Nat.le_refl _) _).setCell (Nat.le_refl _) _).setCell (Nat.le_refl _) _⟩
            · have hmd : decide (m < r.2.length) = false := decide_eq_false hm1
              have HJ2 := Lib.hid (hgood.out (badR_none (fun q hq => HM.out q hq (by omega))))
              clear HM hgood hbad hm hm1
              go_wp2_with fail
              go_round
              case rel => exact ⟨j + 1, by omega, by go_num, HJ2⟩
              case measure => simp [intOf]; omega
        · have hjd : decide (j < 2) = false := decide_eq_false hj2
          have hjI : (2 : Int) ≤ (j : Int) := by omega
          have hjI2 : decide ((j : Int) < 2) = false := decide_eq_false (by omega)
          have hO : Hid (oF = (0, 0)) := Lib.hid (by rw [hOE.out, HJ.out.1 (by omega), HJ.out.2 (by omega)]; rfl)
          have HG2 := Lib.hid (HE2.out (by rw [hO.out]))
          clear HJ hOE HE2 HF hj2 hj
          go_wp2_with fail
          go_roundw
          case rel => exact ⟨k + 1, by omega, by go_num, Lib.hid ⟨HG2.out, HB.out, hNr⟩⟩
          case measure => simp [intOf]; omega
    · have hke : k = g.acts.length := by omega
      have hkd : decide (k < g.acts.length) = false := decide_eq_false hk1
      rw [hke] at HE
      have HFN : Hid (firstE (openF g) 0 g.acts = none) := Lib.hid (firstE_all HE.out)
      clear HE hke hk hk1 hC
      obtain ⟨⟨r0, r1, r2⟩, ⟨f0, f1, f2⟩, hBB⟩ := spot_cells HB.out
      go_wp2_with fail
      exact bodyPost_ret (v := .tuple #[I 0, .agg #[.int .u8 0, I 0, I 0]]) (by simp [results, Tryz.results87, go_sem, r0, r1, r2, f0, f1, f2, hBB]) rfl ⟨by unfold Stage; rw [HFN.out]; exact ⟨rfl, trivial⟩, ((hKB.setCell (Nat.le_refl _) _).setCell (Nat.le_refl _) _).setCell (Nat.le_refl _) _⟩
end Go.Proofs.YtnedmonlofbahaaGreatDoor
namespace Go.Proofs.YtnedmonlofbahaaGreatDoor
open Go Go.RowKit Go.Joins
set_option linter.all false

theorem step_spot {w : World} {ops : Array Oper} {o : Oper} {a : Act} {K : Act → World → Prop} {Q : Exit → Act → World → Prop} {E : Prop} {dec : Decidable (Region.wanted o (yielded ops a.tmps) = true)} (hgd : o.guard = none) (ho : o.op = Op.alloc 85)
    (h : K (a.put o.dst (.pointer (some ⟨w.heap.size, 0, none⟩))) (w.alloc (.cells #[.int .u8 0, I 0, I 0] 85))) :
    @ite Prop (Region.wanted o (yielded ops a.tmps) = true) dec (Oper.wp Tryz.prog o a w K Q) E := by
  have hw : Region.wanted o (yielded ops a.tmps) = true := by simp [Region.wanted, hgd]
  rw [if_pos hw]
  have hr : (Instr.alloc 85 true (.tuple #[])).run Tryz.prog w = .ok (.pointer (some ⟨w.heap.size, 0, none⟩)) (w.alloc (.cells #[.int .u8 0, I 0, I 0] 85)) := by kernel_rfl
  unfold Oper.wp execOp
  simp only [ho, Sem.run_bind, Sem.run_pure, Result.andThen_ok, hr]
  exact h
def Res (s : Option (Nat × Int × Int)) (kd : Int) (ok : World → Prop) (x k i d : Int) (w' : World) : Prop := match s with
  | some (i', x', d') => x = x' ∧ k = kd ∧ i = i' ∧ d = d'
  | none => x = 0 ∧ k = 0 ∧ i = 0 ∧ d = 0 ∧ ok w'
theorem stage_res {s : Option (Nat × Int × Int)} {kd : Int} {ok : World → Prop} {e : Ending} {w' : World} (h : Stage s kd ok e w') : ∃ x k i d, e = .returned (.tuple #[I x, .agg #[.int .u8 k, I i, I d]]) ∧ Res s kd ok x k i d w' := by
  cases s with
  | some r => obtain ⟨i, x, d⟩ := r; exact ⟨x, kd, i, d, h, rfl, rfl, rfl, rfl⟩
  | none => exact ⟨0, 0, 0, 0, h.1, rfl, rfl, rfl, rfl, h.2⟩
theorem Res.to {s : Option (Nat × Int × Int)} {kd : Int} {ok : World → Prop} {x k i d : Int} {w w' : World} (h : Res s kd ok x k i d w) (hok : ok w → ok w') : Res s kd ok x k i d w' := by
  cases s with
  | some r => exact h
  | none => exact ⟨h.1, h.2.1, h.2.2.1, h.2.2.2.1, hok h.2.2.2.2⟩
theorem spot_stored {w : World} {P : Nat} {a b c : Value} (h : w.heap[P]? = some (.cells #[a, b, c] 85 (0, 0))) (u v x : Value) : (((w.setCell ⟨P, 0, none⟩ u).setCell ⟨P, 1, none⟩ v).setCell ⟨P, 2, none⟩ x).heap[P]? = some (.cells #[u, v, x] 85 (0, 0)) := by
  have := block_setCell (i := 2) (block_setCell (i := 1) (block_setCell (i := 0) h u) v) x
  simpa using this
theorem spot_keeps {w : World} {P : Nat} (u v x : Value) : Keeps (fun k => k = P) w (((w.setCell ⟨P, 0, none⟩ u).setCell ⟨P, 1, none⟩ v).setCell ⟨P, 2, none⟩ x) :=
  ((Keeps.setCell (S := fun k => k = P) w _ _ rfl).trans (Keeps.setCell (S := fun k => k = P) _ _ _ rfl) (fun _ _ h => h)).trans (Keeps.setCell (S := fun k => k = P) _ _ _ rfl) (fun _ _ h => h)
theorem firstE_some {α : Type} {E : Nat → α → Int × Int} : ∀ (l : List α) (i k : Nat) (ed : Int × Int), firstE E i l = some (k, ed) → ed.1 ≠ 0 ∧ ∃ x, ed = E k x := by
  intro l
  induction l with
  | nil => intro i k ed h; cases h
  | cons x r ih =>
    intro i k ed h
    unfold firstE at h
    split at h
    · cases h; exact ⟨‹_›, x, rfl⟩
    · exact ih _ _ _ h
def nextS (r : Option (Nat × Int × Int)) (kd : Int) (rest : Int × Int × Int × Int) : Int × Int × Int × Int := match r with
  | some (i, e, d) => (e, kd, i, d)
  | none => rest
def tailG (g : Gr) : Int × Int × Int × Int :=
  nextS (firstE (actE g) 0 g.acts) 1 (nextS (firstE (edgeE g) 0 g.edges) 2 (nextS (firstE (inE g) 0 g.ins) 3 (nextS (firstE (outE g) 0 g.outs) 4 (nextS (firstE (openF g) 0 g.acts) 1 (0, 0, 0, 0)))))
theorem chk_start {w : World} {B C M : Nat} {g : Gr} (hb : w.heap[C]? = some (.cells (chkC g M none 0 0 none 0 0) 149 (0, 0))) (hm : MapAt w M 0 (fun _ => 0)) (hC : B ≤ C) (hM : B ≤ M) : Chk w B C M g [] none 0 [] none 0 [] :=
  ⟨hb, hC, hM, hm.as (fun s => by simp [hasN]), ⟨World.ownsRow_nil _ _ _ _, (fun r hr => by cases hr), (fun r hr => by cases hr), List.Pairwise.nil⟩, ⟨World.ownsRow_nil _ _ _ _, (fun r hr => by cases hr), (fun r hr => by cases hr), List.Pairwise.nil⟩,
    (fun k hk => by obtain ⟨x, hx, _⟩ := hk; cases hx), (fun r hr => by cases hr)⟩
theorem findG_tail (g : Gr) : findG g = if (headG g).1 ≠ 0 then headG g else tailG g := by
  have ht : tailG g = (match firstE (actE g) 0 g.acts with
    | some (i, e, _) => (e, 1, (i : Int), (0 : Int))
    | none => match firstE (edgeE g) 0 g.edges with
      | some (i, e, d) => (e, 2, (i : Int), d)
      | none => match firstE (inE g) 0 g.ins with
        | some (i, e, d) => (e, 3, (i : Int), d)
        | none => match firstE (outE g) 0 g.outs with
          | some (i, e, d) => (e, 4, (i : Int), d)
          | none => match firstE (fun i x => (if openE g i x then 87 else 0, 0)) 0 g.acts with
            | some (i, e, _) => (e, 1, (i : Int), (0 : Int))
            | none => (0, 0, 0, 0)) := by
    unfold tailG nextS
    cases h1 : firstE (actE g) 0 g.acts with
    | some r =>
      obtain ⟨i, e, d⟩ := r
      obtain ⟨-, x, hx⟩ := firstE_some _ _ _ _ h1
      rw [actE_eq] at hx
      simp only [Prod.mk.injEq] at hx
      simp only [hx.2]
    | none =>
      cases h2 : firstE (edgeE g) 0 g.edges with
      | some r => rfl
      | none =>
        cases h3 : firstE (inE g) 0 g.ins with
        | some r => rfl
        | none =>
          cases h4 : firstE (outE g) 0 g.outs with
          | some r => rfl
          | none =>
            simp only
            have he : (fun i x => (if openE g i x then 87 else 0, 0)) = openF g := rfl
            rw [he]
            cases h5 : firstE (openF g) 0 g.acts with
            | some r =>
              obtain ⟨i, e, d⟩ := r
              obtain ⟨-, x, hx⟩ := firstE_some _ _ _ _ h5
              unfold openF at hx
              simp only [Prod.mk.injEq] at hx
              simp only [hx.2]
            | none => rfl
  rw [ht]
  unfold findG headG manyG
  by_cases h0 : nameB g.name = false
  · simp [h0]
  by_cases h1 : g.acts.length = 0
  · simp [h0, h1]
  by_cases h2 : 32 < g.acts.length
  · simp [h0, h1, h2]
  by_cases h3 : 96 < g.edges.length
  · simp [h0, h1, h2, h3]
  by_cases h4 : 16 < g.ins.length
  · simp [h0, h1, h2, h3, h4]
  by_cases h5 : 16 < g.outs.length
  · simp [h0, h1, h2, h3, h4, h5]
  simp only [h0, h1, h2, h3, h4, h5, if_false, ne_eq, not_true_eq_false]
  rfl
theorem headG_few {g : Gr} (h : ¬ (headG g).1 ≠ 0) : g.acts.length ≤ 32 ∧ g.ins.length ≤ 16 ∧ g.outs.length ≤ 16 := by
  unfold headG manyG at h
  by_cases h0 : nameB g.name = false
  · simp [h0] at h
  by_cases h1 : g.acts.length = 0
  · simp [h0, h1] at h
  by_cases h2 : 32 < g.acts.length
  · simp [h0, h1, h2] at h
  by_cases h3 : 96 < g.edges.length
  · simp [h0, h1, h2, h3] at h
  by_cases h4 : 16 < g.ins.length
  · simp [h0, h1, h2, h3, h4] at h
  by_cases h5 : 16 < g.outs.length
  · simp [h0, h1, h2, h3, h4, h5] at h
  omega
set_option maxRecDepth 100000 in
set_option maxHeartbeats 32000000 in
theorem cfind_any (w : World) (g : Gr) (hg : GrAt w g) (hl : GLen g) :
    Calls Tryz.prog 45 #[g.v] w fun en w' => en = .returned (spotOf (findG g)) ∧ New w w' := by
  rw [findG_tail]
  have hfew := Lib.hid (@headG_few g)
  have HL := Lib.hid hl
  have HG := Lib.hid hg
  have hH : ∀ W (h : Chk W w.heap.size (w.heap.size + 1 + 1 + 1) (w.heap.size + 1 + 1) g [] none 0 [] none 0 []), Calls Tryz.prog 83 #[.pointer (some ⟨w.heap.size + 1 + 1 + 1, 0, none⟩)] W fun e w' => e = .returned (spotOf (headG g)) ∧ New W w' := fun W h => chead_any W _ _ g _ _ _ _ _ _ h.blk hl
  obtain ⟨hd, hhd⟩ : ∃ hd, headG g = hd := ⟨_, rfl⟩
  rw [hhd] at hH hfew ⊢
  obtain ⟨⟨h0, h1, h2, h3⟩, rfl⟩ : ∃ x, x = hd := ⟨_, rfl⟩
  clear hg hl hhd
  obtain ⟨r, hr⟩ : ∃ r, (if ((h0, h1, h2, h3) : Int × Int × Int × Int).1 ≠ 0 then (h0, h1, h2, h3) else tailG g) = r := ⟨_, rfl⟩
  rw [hr]
  have HR := Lib.hid hr
  clear hr
  have hmm := @run_makeMap Tryz.prog
  simp only [spotOf, spotV] at hH
  simp only [Gr.v, Gr.cs]
  go_enter Tryz.func45, Tryz.ntmps45
  go_wp2_with fail
  clear hmm
  have na : New w (w.alloc (.cells g.cs 26)) := (New.refl w).alloc _
  have ha : (w.alloc (.cells g.cs 26)).heap[w.heap.size]? = some (.cells g.cs 26 (0, 0)) := heap_alloc_new w _
  have sa : (w.alloc (.cells g.cs 26)).heap.size = w.heap.size + 1 := size_alloc _ _
  simp only [Gr.cs] at na ha sa
  generalize (w.alloc (.cells #[.string g.name, .slice g.aa g.acts.length g.ac, .slice g.ea g.edges.length g.ec, .slice g.ia g.ins.length g.ic, .slice g.oa g.outs.length g.oc] 26)) = wa at na ha sa ⊢
  have nb : New wa (wa.alloc (.cells #[.int .u8 0, I 0, I 0] 85)) := (New.refl wa).alloc _
  have hb : (wa.alloc (.cells #[.int .u8 0, I 0, I 0] 85)).heap[wa.heap.size]? = some (.cells #[.int .u8 0, I 0, I 0] 85 (0, 0)) := heap_alloc_new wa _
  have sb : (wa.alloc (.cells #[.int .u8 0, I 0, I 0] 85)).heap.size = w.heap.size + 1 + 1 := by rw [size_alloc, sa]
  rw [sa] at hb
  generalize (wa.alloc (.cells #[.int .u8 0, I 0, I 0] 85)) = wb at nb hb sb ⊢
  have nc : New wb (wb.alloc (.map #[] 0)) := (New.refl wb).alloc _
  have hm : MapAt (wb.alloc (.map #[] 0)) wb.heap.size 0 (fun _ => 0) := MapAt.made wb
  have sc : (wb.alloc (.map #[] 0)).heap.size = w.heap.size + 1 + 1 + 1 := by rw [size_alloc, sb]
  rw [sb] at hm
  generalize (wb.alloc (.map #[] 0)) = wc at nc hm sc ⊢
  have nd : New wc (wc.alloc (.cells (chkC g (w.heap.size + 1 + 1) none 0 0 none 0 0) 149)) := (New.refl wc).alloc _
  have hd : (wc.alloc (.cells (chkC g (w.heap.size + 1 + 1) none 0 0 none 0 0) 149)).heap[wc.heap.size]? = some (.cells (chkC g (w.heap.size + 1 + 1) none 0 0 none 0 0) 149 (0, 0)) := heap_alloc_new wc _
  rw [sc] at hd
  simp only [chkC] at nd hd
  generalize (wc.alloc (.cells #[.string g.name, .slice g.aa g.acts.length g.ac, .slice g.ea g.edges.length g.ec, .slice g.ia g.ins.length g.ic, .slice g.oa g.outs.length g.oc, .map (some (w.heap.size + 1 + 1)), .slice none 0 0, .slice none 0 0] 149)) = W0 at nd hd ⊢
  have hC : Chk W0 w.heap.size (w.heap.size + 1 + 1 + 1) (w.heap.size + 1 + 1) g [] none 0 [] none 0 [] := chk_start hd (hm.new nd) (by omega) (by omega)
  have HX := Lib.hid (Keeps.heap nd (Keeps.heap nc (Keeps.heap nb ha (fun h => h)) (fun h => h)) (fun h => h))
  have HB := Lib.hid (Keeps.heap nd (Keeps.heap nc hb (fun h => h)) (fun h => h))
  have hN : New w W0 := ((na.trans nb).trans nc).trans nd
  clear na nb nc nd ha hb hm hd sa sb sc
  refine (hH W0 hC).mono ?_
  rintro e W1 ⟨rfl, k1⟩
  replace hC := hC.new k1
  replace HX := Lib.hid (Keeps.heap k1 HX.out (fun h => h))
  replace HB := Lib.hid (Keeps.heap k1 HB.out (fun h => h))
  replace hN := hN.trans k1
  clear k1 hH
  by_cases e0 : h0 = 0
  case neg =>
    have d0 : (h0 != 0) = true := by simp [e0]
    have HR2 := Lib.hid (show ((h0, h1, h2, h3) : Int × Int × Int × Int) = r by have := HR.out; rwa [if_pos e0] at this)
    clear HR e0
    go_wp2_with fail
    have ks : New W1 (W1.alloc (.cells #[.int .u8 h1, I h2, I h3] 85)) := (New.refl W1).alloc _
    have hp : (W1.alloc (.cells #[.int .u8 h1, I h2, I h3] 85)).heap[W1.heap.size]? = some (.cells #[.int .u8 h1, I h2, I h3] 85 (0, 0)) := heap_alloc_new W1 _
    have hPW : w.heap.size + 1 < W1.heap.size := (Array.getElem?_eq_some_iff.1 HB.out).1
    generalize (W1.alloc (.cells #[.int .u8 h1, I h2, I h3] 85)) = W2 at ks hp ⊢
    generalize W1.heap.size = P at hp hPW ⊢
    replace HX := Lib.hid (Keeps.heap ks HX.out (fun h => h))
    replace HB := Lib.hid (Keeps.heap ks HB.out (fun h => h))
    replace hN := hN.trans ks
    replace hC := hC.new ks
    have HP := Lib.hid hp
    clear ks hp
    obtain ⟨⟨p0, p1, p2⟩, -, hPl⟩ := spot_cells HP.out
    go_wp2_with fail
    have hdr : New W2 W2.drew := (New.refl W2).drew
    have hS0 : (fun w' : World => w'.cell? ⟨P, 0, none⟩ = some (.int .u8 h1) ∧ w'.cell? ⟨P, 1, none⟩ = some (I h2) ∧ w'.cell? ⟨P, 2, none⟩ = some (I h3) ∧ P < w'.heap.size) W2.drew := ⟨hdr.cell p0, hdr.cell p1, hdr.cell p2, hPl⟩
    obtain ⟨⟨r0, r1, r2⟩, ⟨f0, f1, f2⟩, hBB⟩ := spot_cells HB.out
    clear p0 p1 p2 hPl
    refine wp_region_X (fun w' : World => w'.cell? ⟨P, 0, none⟩ = some (.int .u8 h1) ∧ w'.cell? ⟨P, 1, none⟩ = some (I h2) ∧ w'.cell? ⟨P, 2, none⟩ = some (I h3) ∧ P < w'.heap.size) [3] (by kernel_rfl) hS0 ?_
    refine anyX_tk 0 hS0 ?_
    refine anyX_tk 1 hS0 ?_
    refine anyX_tk 2 hS0 ?_
    refine anyX_one 3 (by kernel_rfl) ?_
    intro oi ho; simp only [List.getElem?_toArray, List.getElem?_cons_succ, List.getElem?_cons_zero, Option.some.injEq] at ho; subst ho; intro K hK
    (try simp only [Act.put, List.setIfInBounds_toArray, List.set_cons_zero, List.set_cons_succ])
    go_simp
    refine hK _ _ (fun hx => by cases hx) ?_
    clear hK K
    refine anyX_done (by kernel_rfl) ?_
    (try simp only [Act.put, List.setIfInBounds_toArray, List.set_cons_zero, List.set_cons_succ])
    (try simp only [Exit.then])
    go_wp2_with fail
    exact bodyPost_ret (v := .tuple #[I h0, .agg #[.int .u8 h1, I h2, I h3]]) (by simp [results, Tryz.results45, go_sem, r0, r1, r2, f0, f1, f2, hBB]) rfl ⟨by rw [← HR2.out]; rfl, ((hN.drew.setCell (by simp) _).setCell (by simp) _).setCell (by simp) _⟩
  have d0 : (h0 != 0) = false := by simp [e0]
  obtain ⟨hal, hpi, hpo⟩ := hfew.out (fun h => h e0)
  have HT := Lib.hid (show tailG g = r by have := HR.out; rwa [if_neg (fun h => h e0)] at this)
  clear HR hfew e0
  unfold tailG at HT
  have HA : ∀ W (k : New w W) (h : Chk W w.heap.size (w.heap.size + 1 + 1 + 1) (w.heap.size + 1 + 1) g [] none 0 [] none 0 []), Calls Tryz.prog 84 #[.pointer (some ⟨w.heap.size + 1 + 1 + 1, 0, none⟩)] W fun e w' => Stage (firstE (actE g) 0 g.acts) 1 (fun w' => ∃ ia ic IL oa oc OL, Chk w' w.heap.size (w.heap.size + 1 + 1 + 1) (w.heap.size + 1 + 1) g (namesOf g g.acts.length 0 0) ia ic IL oa oc OL ∧ IL.map (·.2) = side g nIn (fun _ _ => false) ∧ OL.map (·.2) = side g nOut (fun _ _ => false)) e w' ∧ KB w.heap.size W w' := fun W k h => cactors_any w W _ _ _ g HG.out k rfl HL.out hal h
  have HE : ∀ (W : World) (ia : Option Addr) (ic : Nat) (IL : List (Nat × List Bool)) (oa : Option Addr) (oc : Nat) (OL : List (Nat × List Bool)) (k : New w W) (h : Chk W w.heap.size (w.heap.size + 1 + 1 + 1) (w.heap.size + 1 + 1) g (namesOf g g.acts.length 0 0) ia ic IL oa oc OL) (hi : Hid (IL.map (·.2) = side g nIn (fun _ _ => false))) (ho : Hid (OL.map (·.2) = side g nOut (fun _ _ => false))), Calls Tryz.prog 85 #[.pointer (some ⟨w.heap.size + 1 + 1 + 1, 0, none⟩)] W fun e w' => Stage (firstE (edgeE g) 0 g.edges) 2 (fun w' => ∃ IL OL, Chk w' w.heap.size (w.heap.size + 1 + 1 + 1) (w.heap.size + 1 + 1) g (namesOf g g.acts.length 0 0) ia ic IL oa oc OL ∧ IL.map (·.2) = side g nIn (inTk g g.edges.length 0) ∧ OL.map (·.2) = side g nOut (outTk g g.edges.length 0)) e w' ∧ KP w.heap.size W w' := fun W ia ic IL oa oc OL k h hi ho => cedges_any w W _ _ _ g _ _ _ _ _ _ _ HG.out k rfl HL.out hal h hi.out ho.out
  have HI : ∀ (W : World) (ia : Option Addr) (ic : Nat) (IL : List (Nat × List Bool)) (oa : Option Addr) (oc : Nat) (OL : List (Nat × List Bool)) (k : New w W) (h : Chk W w.heap.size (w.heap.size + 1 + 1 + 1) (w.heap.size + 1 + 1) g (namesOf g g.acts.length 0 0) ia ic IL oa oc OL) (hi : Hid (IL.map (·.2) = side g nIn (inTk g g.edges.length 0))), Calls Tryz.prog 86 #[.pointer (some ⟨w.heap.size + 1 + 1 + 1, 0, none⟩), .slice g.ia g.ins.length g.ic, .slice ia IL.length ic, .int .u8 3, I 2] W fun e w' => Stage (firstE (inE g) 0 g.ins) 3 (fun w' => ∃ L, Chk w' w.heap.size (w.heap.size + 1 + 1 + 1) (w.heap.size + 1 + 1) g (namesOf g g.acts.length g.ins.length 0) ia ic L oa oc OL ∧ L.map (·.2) = side g nIn (inTk g g.edges.length g.ins.length)) e w' ∧ KP w.heap.size W w' := fun W ia ic IL oa oc OL k h hi => by
    rw [rows_len hi.out]
    exact cportsI_any w W _ _ _ g ia ic IL oa oc OL HG.out k rfl HL.out hal hpi hpo h hi.out
  have HO : ∀ (W : World) (ia : Option Addr) (ic : Nat) (IL : List (Nat × List Bool)) (oa : Option Addr) (oc : Nat) (OL : List (Nat × List Bool)) (k : New w W) (h : Chk W w.heap.size (w.heap.size + 1 + 1 + 1) (w.heap.size + 1 + 1) g (namesOf g g.acts.length g.ins.length 0) ia ic IL oa oc OL) (ho : Hid (OL.map (·.2) = side g nOut (outTk g g.edges.length 0))), Calls Tryz.prog 86 #[.pointer (some ⟨w.heap.size + 1 + 1 + 1, 0, none⟩), .slice g.oa g.outs.length g.oc, .slice oa OL.length oc, .int .u8 4, I 1] W fun e w' => Stage (firstE (outE g) 0 g.outs) 4 (fun w' => ∃ L, Chk w' w.heap.size (w.heap.size + 1 + 1 + 1) (w.heap.size + 1 + 1) g (namesOf g g.acts.length g.ins.length g.outs.length) ia ic IL oa oc L ∧ L.map (·.2) = side g nOut (outTk g g.edges.length g.outs.length)) e w' ∧ KP w.heap.size W w' := fun W ia ic IL oa oc OL k h ho => by
    rw [rows_len ho.out]
    exact cportsO_any w W _ _ _ g ia ic IL oa oc OL HG.out k rfl HL.out hal hpi hpo h ho.out
  have HQ : ∀ (W : World) (ia : Option Addr) (ic : Nat) (IL : List (Nat × List Bool)) (oa : Option Addr) (oc : Nat) (OL : List (Nat × List Bool)) (k : New w W) (h : Chk W w.heap.size (w.heap.size + 1 + 1 + 1) (w.heap.size + 1 + 1) g (namesOf g g.acts.length g.ins.length g.outs.length) ia ic IL oa oc OL) (hi : Hid (IL.map (·.2) = side g nIn (inTk g g.edges.length g.ins.length))) (ho : Hid (OL.map (·.2) = side g nOut (outTk g g.edges.length g.outs.length))), Calls Tryz.prog 87 #[.pointer (some ⟨w.heap.size + 1 + 1 + 1, 0, none⟩)] W fun e w' => Stage (firstE (openF g) 0 g.acts) 1 (fun _ => True) e w' ∧ KP w.heap.size W w' := fun W ia ic IL oa oc OL k h hi ho => copen_any W _ _ _ g _ _ _ _ _ _ _ hal h hi.out ho.out
  have n1 : ∀ k ed, firstE (actE g) 0 g.acts = some (k, ed) → ed.1 ≠ 0 := fun k ed h => (firstE_some _ _ _ _ h).1
  have n2 : ∀ k ed, firstE (edgeE g) 0 g.edges = some (k, ed) → ed.1 ≠ 0 := fun k ed h => (firstE_some _ _ _ _ h).1
  have n3 : ∀ k ed, firstE (inE g) 0 g.ins = some (k, ed) → ed.1 ≠ 0 := fun k ed h => (firstE_some _ _ _ _ h).1
  have n4 : ∀ k ed, firstE (outE g) 0 g.outs = some (k, ed) → ed.1 ≠ 0 := fun k ed h => (firstE_some _ _ _ _ h).1
  have n5 : ∀ k ed, firstE (openF g) 0 g.acts = some (k, ed) → ed.1 ≠ 0 := fun k ed h => (firstE_some _ _ _ _ h).1
  generalize firstE (actE g) 0 g.acts = s1 at HT n1 HA
  generalize firstE (edgeE g) 0 g.edges = s2 at HT n2 HE
  generalize firstE (inE g) 0 g.ins = s3 at HT n3 HI
  generalize firstE (outE g) 0 g.outs = s4 at HT n4 HO
  generalize firstE (openF g) 0 g.acts = s5 at HT n5 HQ
  clear HG HL hal hpi hpo
  go_wp2_with fail
  have ks : New W1 (W1.alloc (.cells #[.int .u8 h1, I h2, I h3] 85)) := (New.refl W1).alloc _
  have hp : (W1.alloc (.cells #[.int .u8 h1, I h2, I h3] 85)).heap[W1.heap.size]? = some (.cells #[.int .u8 h1, I h2, I h3] 85 (0, 0)) := heap_alloc_new W1 _
  have hPW : w.heap.size + 1 < W1.heap.size := (Array.getElem?_eq_some_iff.1 HB.out).1
  generalize (W1.alloc (.cells #[.int .u8 h1, I h2, I h3] 85)) = W2 at ks hp ⊢
  generalize W1.heap.size = P at hp hPW ⊢
  replace HX := Lib.hid (Keeps.heap ks HX.out (fun h => h))
  replace HB := Lib.hid (Keeps.heap ks HB.out (fun h => h))
  replace hN := hN.trans ks
  replace hC := hC.new ks
  have HP := Lib.hid hp
  clear ks hp
  clear HP hPW
  go_wp2_with fail
  refine (HA W2 hN hC).mono ?_
  rintro e W3 ⟨hs, kb⟩
  replace HX := Lib.hid (kb.heap HX.out rfl)
  replace HB := Lib.hid (kb.heap HB.out rfl)
  replace hN := kb.new rfl hN
  clear kb
  cases s1 with
  | some sx =>
    obtain ⟨i, x, d⟩ := sx
    have hx : x ≠ 0 := n1 i (x, d) rfl
    have dx : (x != 0) = true := by simp [hx]
    have HR2 := Lib.hid (show ((x, 1, (i : Int), d) : Int × Int × Int × Int) = r from HT.out)
    simp only [Stage, spotV] at hs
    subst hs
    clear HT hx n1
    go_wp2_with fail
    have ks : New W3 (W3.alloc (.cells #[.int .u8 1, I i, I d] 85)) := (New.refl W3).alloc _
    have hp : (W3.alloc (.cells #[.int .u8 1, I i, I d] 85)).heap[W3.heap.size]? = some (.cells #[.int .u8 1, I i, I d] 85 (0, 0)) := heap_alloc_new W3 _
    have hPW : w.heap.size + 1 < W3.heap.size := (Array.getElem?_eq_some_iff.1 HB.out).1
    generalize (W3.alloc (.cells #[.int .u8 1, I i, I d] 85)) = W4 at ks hp ⊢
    generalize W3.heap.size = P at hp hPW ⊢
    replace HB := Lib.hid (Keeps.heap ks HB.out (fun h => h))
    replace hN := hN.trans ks
    have HP := Lib.hid hp
    clear ks hp
    obtain ⟨⟨p0, p1, p2⟩, -, hPl⟩ := spot_cells HP.out
    go_wp2_with fail
    have hdr : New W4 W4.drew := (New.refl W4).drew
    have hS0 : (fun w' : World => w'.cell? ⟨P, 0, none⟩ = some (.int .u8 1) ∧ w'.cell? ⟨P, 1, none⟩ = some (I i) ∧ w'.cell? ⟨P, 2, none⟩ = some (I d) ∧ P < w'.heap.size) W4.drew := ⟨hdr.cell p0, hdr.cell p1, hdr.cell p2, hPl⟩
    obtain ⟨⟨r0, r1, r2⟩, ⟨f0, f1, f2⟩, hBB⟩ := spot_cells HB.out
    clear p0 p1 p2 hPl
    refine wp_region_X (fun w' : World => w'.cell? ⟨P, 0, none⟩ = some (.int .u8 1) ∧ w'.cell? ⟨P, 1, none⟩ = some (I i) ∧ w'.cell? ⟨P, 2, none⟩ = some (I d) ∧ P < w'.heap.size) [3] (by kernel_rfl) hS0 ?_
    refine anyX_tk 0 hS0 ?_
    refine anyX_tk 1 hS0 ?_
    refine anyX_tk 2 hS0 ?_
    refine anyX_one 3 (by kernel_rfl) ?_
    intro oi ho; simp only [List.getElem?_toArray, List.getElem?_cons_succ, List.getElem?_cons_zero, Option.some.injEq] at ho; subst ho; intro K hK
    (try simp only [Act.put, List.setIfInBounds_toArray, List.set_cons_zero, List.set_cons_succ])
    go_simp
    refine hK _ _ (fun hx => by cases hx) ?_
    clear hK K
    refine anyX_done (by kernel_rfl) ?_
    (try simp only [Act.put, List.setIfInBounds_toArray, List.set_cons_zero, List.set_cons_succ])
    (try simp only [Exit.then])
    go_wp2_with fail
    exact bodyPost_ret (v := .tuple #[I x, .agg #[.int .u8 1, I i, I d]]) (by simp [results, Tryz.results45, go_sem, r0, r1, r2, f0, f1, f2, hBB]) rfl ⟨by rw [← HR2.out]; rfl, ((hN.drew.setCell (by simp) _).setCell (by simp) _).setCell (by simp) _⟩
  | none =>
    simp only [Stage, spotV] at hs
    obtain ⟨rfl, ia, ic, IL, oa, oc, OL, hC2, hi, ho⟩ := hs
    have HT2 := Lib.hid (show nextS s2 2 (nextS s3 3 (nextS s4 4 (nextS s5 1 (0, 0, 0, 0)))) = r from HT.out)
    have Hi := Lib.hid hi
    have Ho := Lib.hid ho
    replace hC := hC2
    clear HT n1 HA hi ho hC2
    go_wp2_with fail
    have ks : New W3 (W3.alloc (.cells #[.int .u8 0, I 0, I 0] 85)) := (New.refl W3).alloc _
    have hp : (W3.alloc (.cells #[.int .u8 0, I 0, I 0] 85)).heap[W3.heap.size]? = some (.cells #[.int .u8 0, I 0, I 0] 85 (0, 0)) := heap_alloc_new W3 _
    have hPW : w.heap.size + 1 < W3.heap.size := (Array.getElem?_eq_some_iff.1 HB.out).1
    generalize (W3.alloc (.cells #[.int .u8 0, I 0, I 0] 85)) = W4 at ks hp ⊢
    generalize W3.heap.size = P at hp hPW ⊢
    replace HX := Lib.hid (Keeps.heap ks HX.out (fun h => h))
    replace HB := Lib.hid (Keeps.heap ks HB.out (fun h => h))
    replace hN := hN.trans ks
    replace hC := hC.new ks
    have HP := Lib.hid hp
    clear ks hp
    clear HP hPW
    replace HT := HT2
    clear HT2
    go_wp2_with fail
    refine (HE W4 ia ic IL oa oc OL hN hC Hi Ho).mono ?_
    rintro e W5 ⟨hs, kb⟩
    replace HX := Lib.hid (kb.heap HX.out rfl)
    replace HB := Lib.hid (kb.heap HB.out rfl)
    replace hN := kb.new rfl hN
    clear kb
    cases s2 with
    | some sx =>
      obtain ⟨i, x, d⟩ := sx
      have hx : x ≠ 0 := n2 i (x, d) rfl
      have dx : (x != 0) = true := by simp [hx]
      have HR2 := Lib.hid (show ((x, 2, (i : Int), d) : Int × Int × Int × Int) = r from HT.out)
      simp only [Stage, spotV] at hs
      subst hs
      clear HT hx n2
      go_wp2_with fail
      have ks : New W5 (W5.alloc (.cells #[.int .u8 2, I i, I d] 85)) := (New.refl W5).alloc _
      have hp : (W5.alloc (.cells #[.int .u8 2, I i, I d] 85)).heap[W5.heap.size]? = some (.cells #[.int .u8 2, I i, I d] 85 (0, 0)) := heap_alloc_new W5 _
      have hPW : w.heap.size + 1 < W5.heap.size := (Array.getElem?_eq_some_iff.1 HB.out).1
      generalize (W5.alloc (.cells #[.int .u8 2, I i, I d] 85)) = W6 at ks hp ⊢
      generalize W5.heap.size = P at hp hPW ⊢
      replace HB := Lib.hid (Keeps.heap ks HB.out (fun h => h))
      replace hN := hN.trans ks
      have HP := Lib.hid hp
      clear ks hp
      obtain ⟨⟨p0, p1, p2⟩, -, hPl⟩ := spot_cells HP.out
      go_wp2_with fail
      have hdr : New W6 W6.drew := (New.refl W6).drew
      have hS0 : (fun w' : World => w'.cell? ⟨P, 0, none⟩ = some (.int .u8 2) ∧ w'.cell? ⟨P, 1, none⟩ = some (I i) ∧ w'.cell? ⟨P, 2, none⟩ = some (I d) ∧ P < w'.heap.size) W6.drew := ⟨hdr.cell p0, hdr.cell p1, hdr.cell p2, hPl⟩
      obtain ⟨⟨r0, r1, r2⟩, ⟨f0, f1, f2⟩, hBB⟩ := spot_cells HB.out
      clear p0 p1 p2 hPl
      refine wp_region_X (fun w' : World => w'.cell? ⟨P, 0, none⟩ = some (.int .u8 2) ∧ w'.cell? ⟨P, 1, none⟩ = some (I i) ∧ w'.cell? ⟨P, 2, none⟩ = some (I d) ∧ P < w'.heap.size) [3] (by kernel_rfl) hS0 ?_
      refine anyX_tk 0 hS0 ?_
      refine anyX_tk 1 hS0 ?_
      refine anyX_tk 2 hS0 ?_
      refine anyX_one 3 (by kernel_rfl) ?_
      intro oi ho; simp only [List.getElem?_toArray, List.getElem?_cons_succ, List.getElem?_cons_zero, Option.some.injEq] at ho; subst ho; intro K hK
      (try simp only [Act.put, List.setIfInBounds_toArray, List.set_cons_zero, List.set_cons_succ])
      go_simp
      refine hK _ _ (fun hx => by cases hx) ?_
      clear hK K
      refine anyX_done (by kernel_rfl) ?_
      (try simp only [Act.put, List.setIfInBounds_toArray, List.set_cons_zero, List.set_cons_succ])
      (try simp only [Exit.then])
      go_wp2_with fail
      exact bodyPost_ret (v := .tuple #[I x, .agg #[.int .u8 2, I i, I d]]) (by simp [results, Tryz.results45, go_sem, r0, r1, r2, f0, f1, f2, hBB]) rfl ⟨by rw [← HR2.out]; rfl, ((hN.drew.setCell (by simp) _).setCell (by simp) _).setCell (by simp) _⟩
    | none =>
      simp only [Stage, spotV] at hs
      obtain ⟨rfl, IL2, OL2, hC2, hi, ho⟩ := hs
      have HT2 := Lib.hid (show nextS s3 3 (nextS s4 4 (nextS s5 1 (0, 0, 0, 0))) = r from HT.out)
      replace Hi := Lib.hid hi
      replace Ho := Lib.hid ho
      replace hC := hC2
      clear HT n2 HE hi ho hC2
      go_wp2_with fail
      have ks : New W5 (W5.alloc (.cells #[.int .u8 0, I 0, I 0] 85)) := (New.refl W5).alloc _
      have hp : (W5.alloc (.cells #[.int .u8 0, I 0, I 0] 85)).heap[W5.heap.size]? = some (.cells #[.int .u8 0, I 0, I 0] 85 (0, 0)) := heap_alloc_new W5 _
      have hPW : w.heap.size + 1 < W5.heap.size := (Array.getElem?_eq_some_iff.1 HB.out).1
      generalize (W5.alloc (.cells #[.int .u8 0, I 0, I 0] 85)) = W6 at ks hp ⊢
      generalize W5.heap.size = P at hp hPW ⊢
      replace HX := Lib.hid (Keeps.heap ks HX.out (fun h => h))
      replace HB := Lib.hid (Keeps.heap ks HB.out (fun h => h))
      replace hN := hN.trans ks
      replace hC := hC.new ks
      have HP := Lib.hid hp
      clear ks hp
      clear HP hPW
      replace HT := HT2
      clear HT2
      go_wp2_with fail
      obtain ⟨ok, hok⟩ : ∃ ok, (fun w' => ∃ L, Chk w' w.heap.size (w.heap.size + 1 + 1 + 1) (w.heap.size + 1 + 1) g (namesOf g g.acts.length g.ins.length 0) ia ic L oa oc OL2 ∧ L.map (·.2) = side g nIn (inTk g g.edges.length g.ins.length)) = ok := ⟨_, rfl⟩
      have hc0 : ∀ W, New w W → Chk W w.heap.size (w.heap.size + 1 + 1 + 1) (w.heap.size + 1 + 1) g (namesOf g g.acts.length 0 0) ia ic IL2 oa oc OL2 → Calls Tryz.prog 86 #[.pointer (some ⟨w.heap.size + 1 + 1 + 1, 0, none⟩), .slice g.ia g.ins.length g.ic, .slice ia IL2.length ic, .int .u8 3, I 2] W fun e w' => Stage s3 3 ok e w' ∧ KP w.heap.size W w' := fun W k h => by
        rw [← hok]; exact HI W ia ic IL2 oa oc OL2 k h Hi
      have hokN : ∀ W W', New W W' → ok W → ok W' := fun W W' k h => by
        rw [← hok] at h ⊢; obtain ⟨L, h1, h2⟩ := h; exact ⟨L, h1.new k, h2⟩
      have hokS : ∀ (W : World) (P : Nat) (cs : Array Value) (u v x : Value), W.heap[P]? = some (.cells cs 85 (0, 0)) → ok W → ok (((W.setCell ⟨P, 0, none⟩ u).setCell ⟨P, 1, none⟩ v).setCell ⟨P, 2, none⟩ x) := fun W P cs u v x hp h => by
        rw [← hok] at h ⊢; obtain ⟨L, h1, h2⟩ := h; exact ⟨L, h1.spot hp u v x, h2⟩
      have Hok := Lib.hid hok
      clear hok HI
      go_cut [11, 12] (fun e p w' => ∃ (x k i d : Int) (P : Nat), e = I x ∧ p = .pointer (some ⟨P, 0, none⟩) ∧ Hid (Res s3 3 ok x k i d w' ∧ w'.heap[P]? = some (.cells #[.int .u8 k, I i, I d] 85 (0, 0)) ∧ w.heap.size + 1 < P ∧
        w'.heap[w.heap.size]? = some (.cells #[.string g.name, .slice g.aa g.acts.length g.ac, .slice g.ea g.edges.length g.ec, .slice g.ia g.ins.length g.ic, .slice g.oa g.outs.length g.oc] 26 (0, 0)) ∧ w'.heap[w.heap.size + 1]? = some (.cells #[.int .u8 0, I 0, I 0] 85 (0, 0)) ∧ New w w'))
      case first =>
        obtain ⟨⟨-, -, -, -, -, -, c6, c7⟩, -, hCl⟩ := chk_cells hC.blk
        have gI : W6.cell? ⟨w.heap.size, 3, none⟩ = some (.slice g.ia g.ins.length g.ic) := by rw [cell_of_block HX.out 3]; rfl
        have hXl : w.heap.size < W6.heap.size := (Array.getElem?_eq_some_iff.1 HX.out).1
        have hdr : New W6 W6.drew := (New.refl W6).drew
        have HCB := Lib.hid hC.blk
        have hS0 : (fun w' : World => w'.cell? ⟨w.heap.size + 1 + 1 + 1, 6, none⟩ = some (.slice ia IL2.length ic) ∧ w'.cell? ⟨w.heap.size, 3, none⟩ = some (.slice g.ia g.ins.length g.ic) ∧ w.heap.size + 1 + 1 + 1 < w'.heap.size ∧ w.heap.size < w'.heap.size) W6.drew := ⟨hdr.cell c6, hdr.cell gI, hCl, hXl⟩
        have HS : ∀ V, KP w.heap.size W6 V → (fun w' : World => w'.cell? ⟨w.heap.size + 1 + 1 + 1, 6, none⟩ = some (.slice ia IL2.length ic) ∧ w'.cell? ⟨w.heap.size, 3, none⟩ = some (.slice g.ia g.ins.length g.ic) ∧ w.heap.size + 1 + 1 + 1 < w'.heap.size ∧ w.heap.size < w'.heap.size) V := fun V k => ⟨by rw [cell_of_block (k.heap HCB.out rfl) 6]; rfl, by rw [cell_of_block (k.heap HX.out rfl) 3]; rfl, Nat.lt_of_lt_of_le hCl k.size, Nat.lt_of_lt_of_le hXl k.size⟩
        have hk0 : KP w.heap.size W6 W6.drew := KXg.of_new hdr
        clear c6 c7 gI hXl hCl
        refine wp_region_X (fun w' : World => w'.cell? ⟨w.heap.size + 1 + 1 + 1, 6, none⟩ = some (.slice ia IL2.length ic) ∧ w'.cell? ⟨w.heap.size, 3, none⟩ = some (.slice g.ia g.ins.length g.ic) ∧ w.heap.size + 1 + 1 + 1 < w'.heap.size ∧ w.heap.size < w'.heap.size) [13] (by kernel_rfl) hS0 ?_
        refine anyX_tk 0 hS0 ?_
        refine anyX_tk 1 hS0 ?_
        refine anyX_tk 2 hS0 ?_
        refine anyX_tk 3 hS0 ?_
        refine anyX_tk 4 hS0 ?_
        refine anyX_tk 5 hS0 ?_
        refine anyX_tk 6 hS0 ?_
        refine anyX_two 7 11 (by kernel_rfl) ?_ ?_
        · intro oi ho; simp only [List.getElem?_toArray, List.getElem?_cons_succ, List.getElem?_cons_zero, Option.some.injEq] at ho; subst ho; intro K hK
          (try simp only [Act.put, List.setIfInBounds_toArray, List.set_cons_zero, List.set_cons_succ])
          go_simp
          refine (hc0 W6.drew (hN.trans hdr) (hC.new hdr)).mono ?_
          rintro e VA ⟨hs, kb⟩
          obtain ⟨x, kk, i, d, rfl, hres⟩ := stage_res hs
          have kA := hk0.trans kb
          have HSA := HS VA kA
          refine hK _ _ (fun _ => HSA) ?_
          clear hK K hs kb hS0
          refine anyX_tk 8 HSA ?_
          refine anyX_tk 9 HSA ?_
          refine anyX_tk 10 HSA ?_
          refine anyX_one 11 (by kernel_rfl) ?_
          intro oi ho; simp only [List.getElem?_toArray, List.getElem?_cons_succ, List.getElem?_cons_zero, Option.some.injEq] at ho; subst ho; intro K hK
          refine step_spot ?_ ?_ ?_
          · rfl
          · rfl
          have ks : New VA (VA.alloc (.cells #[.int .u8 0, I 0, I 0] 85)) := (New.refl VA).alloc _
          have hp : (VA.alloc (.cells #[.int .u8 0, I 0, I 0] 85)).heap[VA.heap.size]? = some (.cells #[.int .u8 0, I 0, I 0] 85 (0, 0)) := heap_alloc_new VA _
          have hPW : w.heap.size + 1 < VA.heap.size := Nat.lt_of_lt_of_le (Array.getElem?_eq_some_iff.1 HB.out).1 kA.size
          generalize (VA.alloc (.cells #[.int .u8 0, I 0, I 0] 85)) = VB at ks hp hK ⊢
          generalize VA.heap.size = P at hp hPW ⊢
          have kB := kA.trans (KXg.of_new ks)
          have HSB := HS VB kB
          have HRB := Lib.hid (hres.to (hokN _ _ ks))
          have HPB := Lib.hid hp
          refine hK _ _ (fun _ => HSB) ?_
          clear hK K hres ks hp HSA kA
          refine anyX_tk 12 HSB ?_
          obtain ⟨⟨p0, p1, p2⟩, ⟨f0, f1, f2⟩, hPl⟩ := spot_cells HPB.out
          refine anyX_one 13 (by kernel_rfl) ?_
          intro oi ho; simp only [List.getElem?_toArray, List.getElem?_cons_succ, List.getElem?_cons_zero, Option.some.injEq] at ho; subst ho; intro K hK
          (try simp only [Act.put, List.setIfInBounds_toArray, List.set_cons_zero, List.set_cons_succ])
          go_simp
          refine hK _ _ (fun hx => by cases hx) ?_
          clear hK K
          refine anyX_done (by kernel_rfl) ?_
          (try simp only [Act.put, List.setIfInBounds_toArray, List.set_cons_zero, List.set_cons_succ])
          (try simp only [Exit.then])
          go_wp2
          go_meet
          case rel =>
            refine ⟨x, kk, i, d, P, rfl, rfl, Lib.hid ⟨HRB.out.to (hokS _ _ _ _ _ _ HPB.out), spot_stored HPB.out _ _ _, hPW, ?_, ?_, ?_⟩⟩
            · exact (spot_keeps _ _ _).heap (kB.heap HX.out rfl) (by omega)
            · exact (spot_keeps _ _ _).heap (kB.heap HB.out rfl) (by omega)
            · exact New.keeps (kB.new rfl hN) (spot_keeps _ _ _) (fun i hi => by omega)
        · intro oi ho; simp only [List.getElem?_toArray, List.getElem?_cons_succ, List.getElem?_cons_zero, Option.some.injEq] at ho; subst ho; intro K hK
          refine step_spot ?_ ?_ ?_
          · rfl
          · rfl
          have ks : New W6.drew (W6.drew.alloc (.cells #[.int .u8 0, I 0, I 0] 85)) := (New.refl _).alloc _
          have hp : (W6.drew.alloc (.cells #[.int .u8 0, I 0, I 0] 85)).heap[W6.drew.heap.size]? = some (.cells #[.int .u8 0, I 0, I 0] 85 (0, 0)) := heap_alloc_new W6.drew _
          have hPW : w.heap.size + 1 < W6.drew.heap.size := Nat.lt_of_lt_of_le (Array.getElem?_eq_some_iff.1 HB.out).1 hk0.size
          generalize (W6.drew.alloc (.cells #[.int .u8 0, I 0, I 0] 85)) = VA at ks hp hK ⊢
          generalize W6.drew.heap.size = P at hp hPW ⊢
          have kA := hk0.trans (KXg.of_new ks)
          have HSA := HS VA kA
          refine hK _ _ (fun _ => HSA) ?_
          clear hK K hS0
          refine anyX_one 7 (by kernel_rfl) ?_
          intro oi ho; simp only [List.getElem?_toArray, List.getElem?_cons_succ, List.getElem?_cons_zero, Option.some.injEq] at ho; subst ho; intro K hK
          (try simp only [Act.put, List.setIfInBounds_toArray, List.set_cons_zero, List.set_cons_succ])
          go_simp
          refine (hc0 VA (kA.new rfl hN) ((hC.new hdr).new ks)).mono ?_
          rintro e VB ⟨hs, kb⟩
          obtain ⟨x, kk, i, d, rfl, hres⟩ := stage_res hs
          have kB := kA.trans kb
          have HSB := HS VB kB
          have HRB := Lib.hid hres
          have HPB := Lib.hid (kb.heap hp rfl)
          refine hK _ _ (fun _ => HSB) ?_
          clear hK K hs kb hres ks hp HSA kA
          refine anyX_tk 8 HSB ?_
          refine anyX_tk 9 HSB ?_
          refine anyX_tk 10 HSB ?_
          refine anyX_tk 12 HSB ?_
          obtain ⟨⟨p0, p1, p2⟩, ⟨f0, f1, f2⟩, hPl⟩ := spot_cells HPB.out
          refine anyX_one 13 (by kernel_rfl) ?_
          intro oi ho; simp only [List.getElem?_toArray, List.getElem?_cons_succ, List.getElem?_cons_zero, Option.some.injEq] at ho; subst ho; intro K hK
          (try simp only [Act.put, List.setIfInBounds_toArray, List.set_cons_zero, List.set_cons_succ])
          go_simp
          refine hK _ _ (fun hx => by cases hx) ?_
          clear hK K
          refine anyX_done (by kernel_rfl) ?_
          (try simp only [Act.put, List.setIfInBounds_toArray, List.set_cons_zero, List.set_cons_succ])
          (try simp only [Exit.then])
          go_wp2
          go_meet
          case rel =>
            refine ⟨x, kk, i, d, P, rfl, rfl, Lib.hid ⟨HRB.out.to (hokS _ _ _ _ _ _ HPB.out), spot_stored HPB.out _ _ _, hPW, ?_, ?_, ?_⟩⟩
            · exact (spot_keeps _ _ _).heap (kB.heap HX.out rfl) (by omega)
            · exact (spot_keeps _ _ _).heap (kB.heap HB.out rfl) (by omega)
            · exact New.keeps (kB.new rfl hN) (spot_keeps _ _ _) (fun i hi => by omega)
      case rest =>
        obtain ⟨x, kk, i, d, P, rfl, rfl, HZ⟩ := hcut
        obtain ⟨W7, hW⟩ : ∃ W, W = wc := ⟨_, rfl⟩
        subst hW
        obtain ⟨hres, hp, hPW, hx0, hb0, hN0⟩ := HZ.out
        have HP := Lib.hid hp
        replace HX := Lib.hid hx0
        replace HB := Lib.hid hb0
        replace hN := hN0
        clear hp hx0 hb0 hN0 HZ hC
        cases s3 with
        | some sx =>
          obtain ⟨i', x', d'⟩ := sx
          obtain ⟨e1, e2, e3, e4⟩ := hres
          have hx : x ≠ 0 := by rw [e1]; exact n3 i' (x', d') rfl
          have dx : (x != 0) = true := by simp [hx]
          have HR2 := Lib.hid (show ((x, kk, i, d) : Int × Int × Int × Int) = r by rw [e1, e2, e3, e4]; exact HT.out)
          clear HT hx n3 e1 e2 e3 e4
          go_wp2_with fail
          obtain ⟨⟨p0, p1, p2⟩, -, hPl⟩ := spot_cells HP.out
          go_wp2_with fail
          have hdr : New W7 W7.drew := (New.refl W7).drew
          have hS0 : (fun w' : World => w'.cell? ⟨P, 0, none⟩ = some (.int .u8 kk) ∧ w'.cell? ⟨P, 1, none⟩ = some (I i) ∧ w'.cell? ⟨P, 2, none⟩ = some (I d) ∧ P < w'.heap.size) W7.drew := ⟨hdr.cell p0, hdr.cell p1, hdr.cell p2, hPl⟩
          obtain ⟨⟨r0, r1, r2⟩, ⟨f0, f1, f2⟩, hBB⟩ := spot_cells HB.out
          clear p0 p1 p2 hPl
          refine wp_region_X (fun w' : World => w'.cell? ⟨P, 0, none⟩ = some (.int .u8 kk) ∧ w'.cell? ⟨P, 1, none⟩ = some (I i) ∧ w'.cell? ⟨P, 2, none⟩ = some (I d) ∧ P < w'.heap.size) [3] (by kernel_rfl) hS0 ?_
          refine anyX_tk 0 hS0 ?_
          refine anyX_tk 1 hS0 ?_
          refine anyX_tk 2 hS0 ?_
          refine anyX_one 3 (by kernel_rfl) ?_
          intro oi ho; simp only [List.getElem?_toArray, List.getElem?_cons_succ, List.getElem?_cons_zero, Option.some.injEq] at ho; subst ho; intro K hK
          (try simp only [Act.put, List.setIfInBounds_toArray, List.set_cons_zero, List.set_cons_succ])
          go_simp
          refine hK _ _ (fun hx => by cases hx) ?_
          clear hK K
          refine anyX_done (by kernel_rfl) ?_
          (try simp only [Act.put, List.setIfInBounds_toArray, List.set_cons_zero, List.set_cons_succ])
          (try simp only [Exit.then])
          go_wp2_with fail
          exact bodyPost_ret (v := .tuple #[I x, .agg #[.int .u8 kk, I i, I d]]) (by simp [results, Tryz.results45, go_sem, r0, r1, r2, f0, f1, f2, hBB]) rfl ⟨by rw [← HR2.out]; rfl, ((hN.drew.setCell (by simp) _).setCell (by simp) _).setCell (by simp) _⟩
        | none =>
          obtain ⟨rfl, rfl, rfl, rfl, hk⟩ := hres
          rw [← Hok.out] at hk
          obtain ⟨IL3, hC, hi⟩ := hk
          have HIL3 := Lib.hid hi
          have HT2 := Lib.hid (show nextS s4 4 (nextS s5 1 (0, 0, 0, 0)) = r from HT.out)
          replace HT := HT2
          clear HT2 hi Hok hc0 hokN hokS HP hPW n3
          go_wp2_with fail
          obtain ⟨ok, hok⟩ : ∃ ok, (fun w' => ∃ L, Chk w' w.heap.size (w.heap.size + 1 + 1 + 1) (w.heap.size + 1 + 1) g (namesOf g g.acts.length g.ins.length g.outs.length) ia ic IL3 oa oc L ∧ L.map (·.2) = side g nOut (outTk g g.edges.length g.outs.length)) = ok := ⟨_, rfl⟩
          have hc0 : ∀ W, New w W → Chk W w.heap.size (w.heap.size + 1 + 1 + 1) (w.heap.size + 1 + 1) g (namesOf g g.acts.length g.ins.length 0) ia ic IL3 oa oc OL2 → Calls Tryz.prog 86 #[.pointer (some ⟨w.heap.size + 1 + 1 + 1, 0, none⟩), .slice g.oa g.outs.length g.oc, .slice oa OL2.length oc, .int .u8 4, I 1] W fun e w' => Stage s4 4 ok e w' ∧ KP w.heap.size W w' := fun W k h => by
            rw [← hok]; exact HO W ia ic IL3 oa oc OL2 k h Ho
          have hokN : ∀ W W', New W W' → ok W → ok W' := fun W W' k h => by
            rw [← hok] at h ⊢; obtain ⟨L, h1, h2⟩ := h; exact ⟨L, h1.new k, h2⟩
          have hokS : ∀ (W : World) (P : Nat) (cs : Array Value) (u v x : Value), W.heap[P]? = some (.cells cs 85 (0, 0)) → ok W → ok (((W.setCell ⟨P, 0, none⟩ u).setCell ⟨P, 1, none⟩ v).setCell ⟨P, 2, none⟩ x) := fun W P cs u v x hp h => by
            rw [← hok] at h ⊢; obtain ⟨L, h1, h2⟩ := h; exact ⟨L, h1.spot hp u v x, h2⟩
          have Hok := Lib.hid hok
          clear hok HO
          go_cut [13, 14] (fun e p w' => ∃ (x k i d : Int) (P : Nat), e = I x ∧ p = .pointer (some ⟨P, 0, none⟩) ∧ Hid (Res s4 4 ok x k i d w' ∧ w'.heap[P]? = some (.cells #[.int .u8 k, I i, I d] 85 (0, 0)) ∧ w.heap.size + 1 < P ∧
            w'.heap[w.heap.size]? = some (.cells #[.string g.name, .slice g.aa g.acts.length g.ac, .slice g.ea g.edges.length g.ec, .slice g.ia g.ins.length g.ic, .slice g.oa g.outs.length g.oc] 26 (0, 0)) ∧ w'.heap[w.heap.size + 1]? = some (.cells #[.int .u8 0, I 0, I 0] 85 (0, 0)) ∧ New w w'))
          case first =>
            obtain ⟨⟨-, -, -, -, -, -, c6, c7⟩, -, hCl⟩ := chk_cells hC.blk
            have gI : W7.cell? ⟨w.heap.size, 4, none⟩ = some (.slice g.oa g.outs.length g.oc) := by rw [cell_of_block HX.out 4]; rfl
            have hXl : w.heap.size < W7.heap.size := (Array.getElem?_eq_some_iff.1 HX.out).1
            have hdr : New W7 W7.drew := (New.refl W7).drew
            have HCB := Lib.hid hC.blk
            have hS0 : (fun w' : World => w'.cell? ⟨w.heap.size + 1 + 1 + 1, 7, none⟩ = some (.slice oa OL2.length oc) ∧ w'.cell? ⟨w.heap.size, 4, none⟩ = some (.slice g.oa g.outs.length g.oc) ∧ w.heap.size + 1 + 1 + 1 < w'.heap.size ∧ w.heap.size < w'.heap.size) W7.drew := ⟨hdr.cell c7, hdr.cell gI, hCl, hXl⟩
            have HS : ∀ V, KP w.heap.size W7 V → (fun w' : World => w'.cell? ⟨w.heap.size + 1 + 1 + 1, 7, none⟩ = some (.slice oa OL2.length oc) ∧ w'.cell? ⟨w.heap.size, 4, none⟩ = some (.slice g.oa g.outs.length g.oc) ∧ w.heap.size + 1 + 1 + 1 < w'.heap.size ∧ w.heap.size < w'.heap.size) V := fun V k => ⟨by rw [cell_of_block (k.heap HCB.out rfl) 7]; rfl, by rw [cell_of_block (k.heap HX.out rfl) 4]; rfl, Nat.lt_of_lt_of_le hCl k.size, Nat.lt_of_lt_of_le hXl k.size⟩
            have hk0 : KP w.heap.size W7 W7.drew := KXg.of_new hdr
            clear c6 c7 gI hXl hCl
            refine wp_region_X (fun w' : World => w'.cell? ⟨w.heap.size + 1 + 1 + 1, 7, none⟩ = some (.slice oa OL2.length oc) ∧ w'.cell? ⟨w.heap.size, 4, none⟩ = some (.slice g.oa g.outs.length g.oc) ∧ w.heap.size + 1 + 1 + 1 < w'.heap.size ∧ w.heap.size < w'.heap.size) [13] (by kernel_rfl) hS0 ?_
            refine anyX_tk 0 hS0 ?_
            refine anyX_tk 1 hS0 ?_
            refine anyX_tk 2 hS0 ?_
            refine anyX_tk 3 hS0 ?_
            refine anyX_tk 4 hS0 ?_
            refine anyX_tk 5 hS0 ?_
            refine anyX_tk 6 hS0 ?_
            refine anyX_two 7 11 (by kernel_rfl) ?_ ?_
            · intro oi ho; simp only [List.getElem?_toArray, List.getElem?_cons_succ, List.getElem?_cons_zero, Option.some.injEq] at ho; subst ho; intro K hK
              (try simp only [Act.put, List.setIfInBounds_toArray, List.set_cons_zero, List.set_cons_succ])
              go_simp
              refine (hc0 W7.drew (hN.trans hdr) (hC.new hdr)).mono ?_
              rintro e VA ⟨hs, kb⟩
              obtain ⟨x, kk, i, d, rfl, hres⟩ := stage_res hs
              have kA := hk0.trans kb
              have HSA := HS VA kA
              refine hK _ _ (fun _ => HSA) ?_
              clear hK K hs kb hS0
              refine anyX_tk 8 HSA ?_
              refine anyX_tk 9 HSA ?_
              refine anyX_tk 10 HSA ?_
              refine anyX_one 11 (by kernel_rfl) ?_
              intro oi ho; simp only [List.getElem?_toArray, List.getElem?_cons_succ, List.getElem?_cons_zero, Option.some.injEq] at ho; subst ho; intro K hK
              refine step_spot ?_ ?_ ?_
              · rfl
              · rfl
              have ks : New VA (VA.alloc (.cells #[.int .u8 0, I 0, I 0] 85)) := (New.refl VA).alloc _
              have hp : (VA.alloc (.cells #[.int .u8 0, I 0, I 0] 85)).heap[VA.heap.size]? = some (.cells #[.int .u8 0, I 0, I 0] 85 (0, 0)) := heap_alloc_new VA _
              have hPW : w.heap.size + 1 < VA.heap.size := Nat.lt_of_lt_of_le (Array.getElem?_eq_some_iff.1 HB.out).1 kA.size
              generalize (VA.alloc (.cells #[.int .u8 0, I 0, I 0] 85)) = VB at ks hp hK ⊢
              generalize VA.heap.size = P at hp hPW ⊢
              have kB := kA.trans (KXg.of_new ks)
              have HSB := HS VB kB
              have HRB := Lib.hid (hres.to (hokN _ _ ks))
              have HPB := Lib.hid hp
              refine hK _ _ (fun _ => HSB) ?_
              clear hK K hres ks hp HSA kA
              refine anyX_tk 12 HSB ?_
              obtain ⟨⟨p0, p1, p2⟩, ⟨f0, f1, f2⟩, hPl⟩ := spot_cells HPB.out
              refine anyX_one 13 (by kernel_rfl) ?_
              intro oi ho; simp only [List.getElem?_toArray, List.getElem?_cons_succ, List.getElem?_cons_zero, Option.some.injEq] at ho; subst ho; intro K hK
              (try simp only [Act.put, List.setIfInBounds_toArray, List.set_cons_zero, List.set_cons_succ])
              go_simp
              refine hK _ _ (fun hx => by cases hx) ?_
              clear hK K
              refine anyX_done (by kernel_rfl) ?_
              (try simp only [Act.put, List.setIfInBounds_toArray, List.set_cons_zero, List.set_cons_succ])
              (try simp only [Exit.then])
              go_wp2
              go_meet
              case rel =>
                refine ⟨x, kk, i, d, P, rfl, rfl, Lib.hid ⟨HRB.out.to (hokS _ _ _ _ _ _ HPB.out), spot_stored HPB.out _ _ _, hPW, ?_, ?_, ?_⟩⟩
                · exact (spot_keeps _ _ _).heap (kB.heap HX.out rfl) (by omega)
                · exact (spot_keeps _ _ _).heap (kB.heap HB.out rfl) (by omega)
                · exact New.keeps (kB.new rfl hN) (spot_keeps _ _ _) (fun i hi => by omega)
            · intro oi ho; simp only [List.getElem?_toArray, List.getElem?_cons_succ, List.getElem?_cons_zero, Option.some.injEq] at ho; subst ho; intro K hK
              refine step_spot ?_ ?_ ?_
              · rfl
              · rfl
              have ks : New W7.drew (W7.drew.alloc (.cells #[.int .u8 0, I 0, I 0] 85)) := (New.refl _).alloc _
              have hp : (W7.drew.alloc (.cells #[.int .u8 0, I 0, I 0] 85)).heap[W7.drew.heap.size]? = some (.cells #[.int .u8 0, I 0, I 0] 85 (0, 0)) := heap_alloc_new W7.drew _
              have hPW : w.heap.size + 1 < W7.drew.heap.size := Nat.lt_of_lt_of_le (Array.getElem?_eq_some_iff.1 HB.out).1 hk0.size
              generalize (W7.drew.alloc (.cells #[.int .u8 0, I 0, I 0] 85)) = VA at ks hp hK ⊢
              generalize W7.drew.heap.size = P at hp hPW ⊢
              have kA := hk0.trans (KXg.of_new ks)
              have HSA := HS VA kA
              refine hK _ _ (fun _ => HSA) ?_
              clear hK K hS0
              refine anyX_one 7 (by kernel_rfl) ?_
              intro oi ho; simp only [List.getElem?_toArray, List.getElem?_cons_succ, List.getElem?_cons_zero, Option.some.injEq] at ho; subst ho; intro K hK
              (try simp only [Act.put, List.setIfInBounds_toArray, List.set_cons_zero, List.set_cons_succ])
              go_simp
              refine (hc0 VA (kA.new rfl hN) ((hC.new hdr).new ks)).mono ?_
              rintro e VB ⟨hs, kb⟩
              obtain ⟨x, kk, i, d, rfl, hres⟩ := stage_res hs
              have kB := kA.trans kb
              have HSB := HS VB kB
              have HRB := Lib.hid hres
              have HPB := Lib.hid (kb.heap hp rfl)
              refine hK _ _ (fun _ => HSB) ?_
              clear hK K hs kb hres ks hp HSA kA
              refine anyX_tk 8 HSB ?_
              refine anyX_tk 9 HSB ?_
              refine anyX_tk 10 HSB ?_
              refine anyX_tk 12 HSB ?_
              obtain ⟨⟨p0, p1, p2⟩, ⟨f0, f1, f2⟩, hPl⟩ := spot_cells HPB.out
              refine anyX_one 13 (by kernel_rfl) ?_
              intro oi ho; simp only [List.getElem?_toArray, List.getElem?_cons_succ, List.getElem?_cons_zero, Option.some.injEq] at ho; subst ho; intro K hK
              (try simp only [Act.put, List.setIfInBounds_toArray, List.set_cons_zero, List.set_cons_succ])
              go_simp
              refine hK _ _ (fun hx => by cases hx) ?_
              clear hK K
              refine anyX_done (by kernel_rfl) ?_
              (try simp only [Act.put, List.setIfInBounds_toArray, List.set_cons_zero, List.set_cons_succ])
              (try simp only [Exit.then])
              go_wp2
              go_meet
              case rel =>
                refine ⟨x, kk, i, d, P, rfl, rfl, Lib.hid ⟨HRB.out.to (hokS _ _ _ _ _ _ HPB.out), spot_stored HPB.out _ _ _, hPW, ?_, ?_, ?_⟩⟩
                · exact (spot_keeps _ _ _).heap (kB.heap HX.out rfl) (by omega)
                · exact (spot_keeps _ _ _).heap (kB.heap HB.out rfl) (by omega)
                · exact New.keeps (kB.new rfl hN) (spot_keeps _ _ _) (fun i hi => by omega)
          case rest =>
            obtain ⟨x, kk, i, d, P, rfl, rfl, HZ⟩ := hcut
            obtain ⟨W8, hW⟩ : ∃ W, W = wc := ⟨_, rfl⟩
            subst hW
            obtain ⟨hres, hp, hPW, hx0, hb0, hN0⟩ := HZ.out
            have HP := Lib.hid hp
            replace HX := Lib.hid hx0
            replace HB := Lib.hid hb0
            replace hN := hN0
            clear hp hx0 hb0 hN0 HZ hC
            cases s4 with
            | some sx =>
              obtain ⟨i', x', d'⟩ := sx
              obtain ⟨e1, e2, e3, e4⟩ := hres
              have hx : x ≠ 0 := by rw [e1]; exact n4 i' (x', d') rfl
              have dx : (x != 0) = true := by simp [hx]
              have HR2 := Lib.hid (show ((x, kk, i, d) : Int × Int × Int × Int) = r by rw [e1, e2, e3, e4]; exact HT.out)
              clear HT hx n4 e1 e2 e3 e4
              go_wp2_with fail
              obtain ⟨⟨p0, p1, p2⟩, -, hPl⟩ := spot_cells HP.out
              go_wp2_with fail
              have hdr : New W8 W8.drew := (New.refl W8).drew
              have hS0 : (fun w' : World => w'.cell? ⟨P, 0, none⟩ = some (.int .u8 kk) ∧ w'.cell? ⟨P, 1, none⟩ = some (I i) ∧ w'.cell? ⟨P, 2, none⟩ = some (I d) ∧ P < w'.heap.size) W8.drew := ⟨hdr.cell p0, hdr.cell p1, hdr.cell p2, hPl⟩
              obtain ⟨⟨r0, r1, r2⟩, ⟨f0, f1, f2⟩, hBB⟩ := spot_cells HB.out
              clear p0 p1 p2 hPl
              refine wp_region_X (fun w' : World => w'.cell? ⟨P, 0, none⟩ = some (.int .u8 kk) ∧ w'.cell? ⟨P, 1, none⟩ = some (I i) ∧ w'.cell? ⟨P, 2, none⟩ = some (I d) ∧ P < w'.heap.size) [3] (by kernel_rfl) hS0 ?_
              refine anyX_tk 0 hS0 ?_
              refine anyX_tk 1 hS0 ?_
              refine anyX_tk 2 hS0 ?_
              refine anyX_one 3 (by kernel_rfl) ?_
              intro oi ho; simp only [List.getElem?_toArray, List.getElem?_cons_succ, List.getElem?_cons_zero, Option.some.injEq] at ho; subst ho; intro K hK
              (try simp only [Act.put, List.setIfInBounds_toArray, List.set_cons_zero, List.set_cons_succ])
              go_simp
              refine hK _ _ (fun hx => by cases hx) ?_
              clear hK K
              refine anyX_done (by kernel_rfl) ?_
              (try simp only [Act.put, List.setIfInBounds_toArray, List.set_cons_zero, List.set_cons_succ])
              (try simp only [Exit.then])
              go_wp2_with fail
              exact bodyPost_ret (v := .tuple #[I x, .agg #[.int .u8 kk, I i, I d]]) (by simp [results, Tryz.results45, go_sem, r0, r1, r2, f0, f1, f2, hBB]) rfl ⟨by rw [← HR2.out]; rfl, ((hN.drew.setCell (by simp) _).setCell (by simp) _).setCell (by simp) _⟩
            | none =>
              obtain ⟨rfl, rfl, rfl, rfl, hk⟩ := hres
              rw [← Hok.out] at hk
              obtain ⟨OL4, hC, hi⟩ := hk
              have HOL4 := Lib.hid hi
              have HT2 := Lib.hid (show nextS s5 1 (0, 0, 0, 0) = r from HT.out)
              replace HT := HT2
              clear HT2 hi Hok hc0 hokN hokS HP hPW n4
              go_wp2_with fail
              refine (HQ W8 ia ic IL3 oa oc OL4 hN hC HIL3 HOL4).mono ?_
              rintro e W9 ⟨hs, kb⟩
              replace HB := Lib.hid (kb.heap HB.out rfl)
              replace hN := kb.new rfl hN
              obtain ⟨x, kk, i, d, rfl, hres⟩ := stage_res hs
              have HR2 := Lib.hid (show ((x, kk, i, d) : Int × Int × Int × Int) = r by
                rw [← HT.out]
                cases s5 with
                | some sx => obtain ⟨i', x', d'⟩ := sx; obtain ⟨e1, e2, e3, e4⟩ := hres; rw [e1, e2, e3, e4]; rfl
                | none => obtain ⟨e1, e2, e3, e4, -⟩ := hres; rw [e1, e2, e3, e4]; rfl)
              obtain ⟨⟨r0, r1, r2⟩, ⟨f0, f1, f2⟩, hBB⟩ := spot_cells HB.out
              clear hs kb hres HT HQ n5
              go_wp2_with fail
              exact bodyPost_ret (v := .tuple #[I x, .agg #[.int .u8 kk, I i, I d]]) (by simp [results, Tryz.results45, go_sem, r0, r1, r2, f0, f1, f2, hBB]) rfl ⟨by rw [← HR2.out]; rfl, ((hN.setCell (by simp) _).setCell (by simp) _).setCell (by simp) _⟩
set_option maxRecDepth 100000 in
theorem ccheck_any (w : World) (g : Gr) (hg : GrAt w g) (hl : GLen g) :
    Calls Tryz.prog 22 #[g.v] w fun en w' => en = .returned (I (findG g).1) ∧ New w w' := by
  have HF : ∀ W, New w W → Calls Tryz.prog 45 #[g.v] W fun en w' => en = .returned (spotOf (findG g)) ∧ New W w' := fun W k => cfind_any W g (hg.new k) hl
  generalize findG g = fg at HF ⊢
  clear hg hl
  obtain ⟨f0, f1, f2, f3⟩ := fg
  simp only [Gr.v, Gr.cs, spotOf, spotV] at HF ⊢
  go_enter Tryz.func22, Tryz.ntmps22
  go_wp2_with fail
  refine (HF _ ((New.refl w).alloc _)).mono ?_
  rintro e w1 ⟨rfl, k1⟩
  go_wp2_with fail
  go_ret
  exact ⟨rfl, (((New.refl w).alloc _).trans k1).alloc _⟩
end Go.Proofs.YtnedmonlofbahaaGreatDoor
