/-
  Layer 8: the checker's ports.
-/
import Derived.Test.YtijlgcbnoekmeaaGrN
namespace Go.Proofs.Ytijlgcbnoekmeaa
open Go Go.RowKit Go.Joins
set_option linter.all false

theorem port_cells {w : World} {C : Nat} {a0 a1 a2 : Value} (h : w.heap[C]? = some (.cells #[a0, a1, a2] 118 (0, 0))) :
    w.cell? ⟨C, 0, none⟩ = some a0 ∧ w.cell? ⟨C, 1, none⟩ = some a1 ∧ w.cell? ⟨C, 2, none⟩ = some a2 ∧ C < w.heap.size := by
  refine ⟨?_, ?_, ?_, (Array.getElem?_eq_some_iff.1 h).1⟩
  all_goals rw [cell_of_block h]; rfl
set_option maxRecDepth 100000 in
set_option maxHeartbeats 16000000 in
theorem cportsI_any (w0 w : World) (B C M : Nat) (g : Gr) (ia : Option Addr) (ic : Nat) (IL : List (Nat × List Bool)) (oa : Option Addr) (oc : Nat) (OL : List (Nat × List Bool)) (hg : GrAt w0 g) (hN : New w0 w) (hB : B = w0.heap.size) (hl : GLen g) (hal : g.acts.length ≤ 32) (hpi : g.ins.length ≤ 16) (hpo : g.outs.length ≤ 16)
    (h : Chk w B C M g (namesOf g g.acts.length 0 0) ia ic IL oa oc OL) (hL : IL.map (·.2) = side g nIn (inTk g g.edges.length 0)) :
    Calls Try.prog 64 #[.pointer (some ⟨C, 0, none⟩), .slice g.ia g.ins.length g.ic, .slice ia g.acts.length ic, .int .u8 3, I 2] w fun e w' => Stage (firstE (inE g) 0 g.ins) 3 (fun w' => ∃ L, Chk w' B C M g (namesOf g g.acts.length g.ins.length 0) ia ic L oa oc OL ∧ L.map (·.2) = side g nIn (inTk g g.edges.length g.ins.length)) e w' ∧ KP B w w' := by
  have HEX := Lib.hid hl.ix
  have hle := hl.i
  clear hl
  obtain ⟨ok, hok⟩ : ∃ ok : World → Prop, (fun w' => ∃ L, Chk w' B C M g (namesOf g g.acts.length g.ins.length 0) ia ic L oa oc OL ∧ L.map (·.2) = side g nIn (inTk g g.edges.length g.ins.length)) = ok := ⟨_, rfl⟩
  rw [hok]
  have HOK := Lib.hid hok
  clear hok
  obtain ⟨ga, hga⟩ : ∃ ga, g.ia = ga := ⟨_, rfl⟩
  rw [hga]
  have HGA := Lib.hid hga
  have HG := Lib.hid hg
  have HNw := Lib.hid hN
  have HBB := Lib.hid hB
  have HL0 := Lib.hid hL
  have hBw : B ≤ w.heap.size := by rw [hB]; exact hN.size
  clear hga hg hN hB hL
  go_enter Try.func64, Try.ntmps64
  go_wp2_with fail
  have k0 : New w (w.alloc (.cells #[.int .u8 0, I 0, I 0] 95)) := (New.refl w).alloc _
  have hbx : (w.alloc (.cells #[.int .u8 0, I 0, I 0] 95)).heap[w.heap.size]? = some (.cells #[.int .u8 0, I 0, I 0] 95 (0, 0)) := heap_alloc_new w _
  generalize (w.alloc (.cells #[.int .u8 0, I 0, I 0] 95)) = v0 at k0 hbx ⊢
  have hCh := h.new k0
  clear h
  go_loopw [18] (fun i wr => ∃ (k : Nat) (L : List (Nat × List Bool)), k ≤ g.ins.length ∧ i = .int .i64 k ∧
      Hid (Chk wr B C M g (namesOf g g.acts.length k 0) ia ic L oa oc OL ∧ L.map (·.2) = side g nIn (inTk g g.edges.length k) ∧
        (∀ j (hj : j < g.ins.length), j < k → (inE g j g.ins[j]).1 = 0) ∧ wr.heap[w.heap.size]? = some (.cells #[.int .u8 0, I 0, I 0] 95 (0, 0)) ∧ KP B w wr)) (fun i _ => g.ins.length - (intOf i).toNat)
  case atStart => exact ⟨0, IL, by omega, rfl, Lib.hid ⟨hCh, HL0.out, fun j hj hjk => by omega, hbx, KX.of_new k0⟩⟩
  case round =>
    clear hCh hbx k0 HL0 IL
    obtain ⟨k, IL, hk, rfl, HR⟩ := hrel
    obtain ⟨hC, hI, hE, hb, hKB⟩ := HR.out
    have HI := Lib.hid hI
    have HE := Lib.hid hE
    have HB := Lib.hid hb
    clear hI hE hb HR
    by_cases hk1 : k < g.ins.length
    · have hkI : (k : Int) < (g.ins.length : Int) := by omega
      have hkd : decide (k < g.ins.length) = true := decide_eq_true hk1
      have hGr := HG.out.new (hKB.new HBB.out HNw.out)
      obtain ⟨b, off, hab, q0, q1, q2⟩ := ports_at hGr.si hk1
      have hxs := HEX.out _ (List.getElem_mem hk1)
      have HF : Hid ((inE g k g.ins[k]).1 ≠ 0 → firstE (inE g) 0 g.ins = some (k, inE g k g.ins[k])) := Lib.hid (fun h => firstE_skip hk1 HE.out h)
      have HE2 : Hid ((inE g k g.ins[k]).1 = 0 → ∀ j (hj : j < g.ins.length), j < k + 1 → (inE g j g.ins[j]).1 = 0) := Lib.hid (fun h j hj hjk => by
        by_cases e : j = k
        · subst e; exact h
        · exact HE.out j hj (by omega))
      have HIn := Lib.hid (inTk_in g g.edges.length hk1)
      have hns := Lib.hid (names_in g g.acts.length hk1)
      have e : ga = some ⟨b, off, none⟩ := HGA.out.symm.trans hab
      subst e
      clear hab hGr HE HEX
      have hAE : Hid (inE g k g.ins[k] = _) := Lib.hid (by unfold inE; exact rfl)
      have hnl : (namesOf g g.acts.length k 0).length ≤ 1000 := by have := names_len g g.acts.length k 0; omega
      generalize g.ins[k] = x at q0 q1 q2 hxs HIn HF HE2 hAE hns
      rw [← takeE_side HI.out] at hAE
      have hgi := gridLen_side HI.out hal nIn_few
      have hLl := Lib.hid (rows_len HI.out)
      have HI2 : Hid (takeE IL x.ac x.po = 0 → (takeL IL x.ac x.po).map (·.2) = side g nIn (inTk g g.edges.length (k + 1))) := Lib.hid (fun h => side_took HI.out h HIn.out)
      clear HI HIn
      generalize (namesOf g g.acts.length k 0) = ns at hC hAE hnl hns
      have hNmC := fun W (n : New wr W) => cnm_any W B C M g ns ia ic IL oa oc OL x.name (hC.new n) hxs hnl
      generalize nameE ns x.name = nm at hAE hNmC
      clear hC
      go_wp2_with fail
      have kb : New wr (wr.alloc (.cells #[.string x.name, I x.ac, I x.po] 118)) := (New.refl wr).alloc _
      have hby : (wr.alloc (.cells #[.string x.name, I x.ac, I x.po] 118)).heap[wr.heap.size]? = some (.cells #[.string x.name, I x.ac, I x.po] 118 (0, 0)) := heap_alloc_new wr _
      generalize (wr.alloc (.cells #[.string x.name, I x.ac, I x.po] 118)) = w1 at kb hby ⊢
      generalize wr.heap.size = Y at hby ⊢
      replace HB := Lib.hid (Keeps.heap kb HB.out (fun h => h))
      replace hKB := hKB.trans (KX.of_new kb)
      refine (hNmC w1 kb).mono ?_
      rintro e w2 ⟨rfl, hC2, k2⟩
      have HY := Lib.hid (k2.heap hby rfl)
      replace HB := Lib.hid (k2.heap HB.out rfl)
      replace hKB := hKB.trans k2
      clear hby k2 kb q0 q1 q2 hNmC
      by_cases hnm : nm = 0
      · rw [if_pos hnm] at hC2
        rw [if_neg (fun h => h hnm)] at hAE
        subst hnm
        have hT : Calls Try.prog 75 #[.slice ia g.acts.length ic, I x.ac, I x.po] w2 (Took w2 B ia ic IL x.ac x.po) := by
          have := take_any w2 B ia ic IL x.ac x.po hC2.gi hgi
          rw [hLl.out] at this; exact this
        obtain ⟨y0, y1, y2, hYl⟩ := port_cells HY.out
        go_wp2_with fail
        refine hT.mono ?_
        rintro e w3 hT3
        have hC3 := hC2.tookI hT3
        obtain ⟨rfl, -, kT, -⟩ := hT3
        replace HY := Lib.hid (kT.heap HY.out rfl)
        replace HB := Lib.hid (kT.heap HB.out rfl)
        replace hKB := hKB.trans kT
        clear kT hT hC2 y0 y1 y2 hYl hgi
        by_cases h2 : takeE IL x.ac x.po = 0
        · have d2 : (takeE IL x.ac x.po != 0) = false := by simp [h2]
          have HI3 := Lib.hid (HI2.out h2)
          have HG2 := Lib.hid (HE2.out (by rw [hAE.out]; exact h2))
          rw [← hns.out] at hC3
          clear hAE HE2 HF h2 HI2 hLl
          generalize takeE IL x.ac x.po = t2 at d2
          generalize takeL IL x.ac x.po = IL1 at HI3 hC3
          go_wp2_with fail
          go_roundw
          case rel => exact ⟨k + 1, _, by omega, by go_num, Lib.hid ⟨hC3, HI3.out, HG2.out, HB.out, hKB⟩⟩
          case measure => simp [intOf]; omega
        · have d2 : (takeE IL x.ac x.po != 0) = true := by simp [h2]
          have HF2 := Lib.hid (HF.out (by rw [hAE.out]; exact h2))
          clear HE2 HF hC3 HI2 hLl
          generalize takeE IL x.ac x.po = t2 at d2 hAE
          obtain ⟨⟨r0, r1, r2⟩, ⟨f0, f1, f2⟩, hBB⟩ := spot_cells HB.out
          go_wp2_with fail
          exact bodyPost_ret (v := .tuple #[I t2, .agg #[.int .u8 3, I k, I 2]]) (by simp [results, Try.results64, go_sem, r0, r1, r2, f0, f1, f2, hBB]) rfl ⟨by unfold Stage; rw [HF2.out, hAE.out]; rfl, ((hKB.setCell (Nat.le_refl _) _).setCell (Nat.le_refl _) _).setCell (Nat.le_refl _) _⟩
      · have e2 : (nm != 0) = true := by simp [hnm]
        rw [if_pos hnm] at hAE
        have HF2 := Lib.hid (HF.out (by rw [hAE.out]; exact hnm))
        clear hnm HE2 HF hC2 HI2 hLl hgi
        obtain ⟨⟨r0, r1, r2⟩, ⟨f0, f1, f2⟩, hBB⟩ := spot_cells HB.out
        go_wp2_with fail
        exact bodyPost_ret (v := .tuple #[I nm, .agg #[.int .u8 3, I k, I 0]]) (by simp [results, Try.results64, go_sem, r0, r1, r2, f0, f1, f2, hBB]) rfl ⟨by unfold Stage; rw [HF2.out, hAE.out]; rfl, ((hKB.setCell (Nat.le_refl _) _).setCell (Nat.le_refl _) _).setCell (Nat.le_refl _) _⟩
    · have hke : k = g.ins.length := by omega
      have hkd : decide (k < g.ins.length) = false := decide_eq_false hk1
      rw [hke] at hC HE HI
      have HFN : Hid (firstE (inE g) 0 g.ins = none) := Lib.hid (firstE_all HE.out)
      have HOKK : Hid (∀ W, Chk W B C M g (namesOf g g.acts.length g.ins.length 0) ia ic IL oa oc OL → ok W) := Lib.hid (fun W hW => by
        rw [← HOK.out]; exact ⟨IL, hW, HI.out⟩)
      clear HE HI hke hk hk1 HEX
      obtain ⟨⟨r0, r1, r2⟩, ⟨f0, f1, f2⟩, hBB⟩ := spot_cells HB.out
      have HCS := Lib.hid (fun u v x => hC.spot HB.out u v x)
      clear hC
      go_wp2_with fail
      exact bodyPost_ret (v := .tuple #[I 0, .agg #[.int .u8 0, I 0, I 0]]) (by simp [results, Try.results64, go_sem, r0, r1, r2, f0, f1, f2, hBB]) rfl ⟨by unfold Stage; rw [HFN.out]; exact ⟨rfl, HOKK.out _ (HCS.out _ _ _)⟩, ((hKB.setCell (Nat.le_refl _) _).setCell (Nat.le_refl _) _).setCell (Nat.le_refl _) _⟩
set_option maxRecDepth 100000 in
set_option maxHeartbeats 16000000 in
theorem cportsO_any (w0 w : World) (B C M : Nat) (g : Gr) (ia : Option Addr) (ic : Nat) (IL : List (Nat × List Bool)) (oa : Option Addr) (oc : Nat) (OL : List (Nat × List Bool)) (hg : GrAt w0 g) (hN : New w0 w) (hB : B = w0.heap.size) (hl : GLen g) (hal : g.acts.length ≤ 32) (hpi : g.ins.length ≤ 16) (hpo : g.outs.length ≤ 16)
    (h : Chk w B C M g (namesOf g g.acts.length g.ins.length 0) ia ic IL oa oc OL) (hL : OL.map (·.2) = side g nOut (outTk g g.edges.length 0)) :
    Calls Try.prog 64 #[.pointer (some ⟨C, 0, none⟩), .slice g.oa g.outs.length g.oc, .slice oa g.acts.length oc, .int .u8 4, I 1] w fun e w' => Stage (firstE (outE g) 0 g.outs) 4 (fun w' => ∃ L, Chk w' B C M g (namesOf g g.acts.length g.ins.length g.outs.length) ia ic IL oa oc L ∧ L.map (·.2) = side g nOut (outTk g g.edges.length g.outs.length)) e w' ∧ KP B w w' := by
  have HEX := Lib.hid hl.ox
  have hle := hl.o
  clear hl
  obtain ⟨ok, hok⟩ : ∃ ok : World → Prop, (fun w' => ∃ L, Chk w' B C M g (namesOf g g.acts.length g.ins.length g.outs.length) ia ic IL oa oc L ∧ L.map (·.2) = side g nOut (outTk g g.edges.length g.outs.length)) = ok := ⟨_, rfl⟩
  rw [hok]
  have HOK := Lib.hid hok
  clear hok
  obtain ⟨ga, hga⟩ : ∃ ga, g.oa = ga := ⟨_, rfl⟩
  rw [hga]
  have HGA := Lib.hid hga
  have HG := Lib.hid hg
  have HNw := Lib.hid hN
  have HBB := Lib.hid hB
  have HL0 := Lib.hid hL
  have hBw : B ≤ w.heap.size := by rw [hB]; exact hN.size
  clear hga hg hN hB hL
  go_enter Try.func64, Try.ntmps64
  go_wp2_with fail
  have k0 : New w (w.alloc (.cells #[.int .u8 0, I 0, I 0] 95)) := (New.refl w).alloc _
  have hbx : (w.alloc (.cells #[.int .u8 0, I 0, I 0] 95)).heap[w.heap.size]? = some (.cells #[.int .u8 0, I 0, I 0] 95 (0, 0)) := heap_alloc_new w _
  generalize (w.alloc (.cells #[.int .u8 0, I 0, I 0] 95)) = v0 at k0 hbx ⊢
  have hCh := h.new k0
  clear h
  go_loopw [18] (fun i wr => ∃ (k : Nat) (L : List (Nat × List Bool)), k ≤ g.outs.length ∧ i = .int .i64 k ∧
      Hid (Chk wr B C M g (namesOf g g.acts.length g.ins.length k) ia ic IL oa oc L ∧ L.map (·.2) = side g nOut (outTk g g.edges.length k) ∧
        (∀ j (hj : j < g.outs.length), j < k → (outE g j g.outs[j]).1 = 0) ∧ wr.heap[w.heap.size]? = some (.cells #[.int .u8 0, I 0, I 0] 95 (0, 0)) ∧ KP B w wr)) (fun i _ => g.outs.length - (intOf i).toNat)
  case atStart => exact ⟨0, OL, by omega, rfl, Lib.hid ⟨hCh, HL0.out, fun j hj hjk => by omega, hbx, KX.of_new k0⟩⟩
  case round =>
    clear hCh hbx k0 HL0 OL
    obtain ⟨k, OL, hk, rfl, HR⟩ := hrel
    obtain ⟨hC, hI, hE, hb, hKB⟩ := HR.out
    have HI := Lib.hid hI
    have HE := Lib.hid hE
    have HB := Lib.hid hb
    clear hI hE hb HR
    by_cases hk1 : k < g.outs.length
    · have hkI : (k : Int) < (g.outs.length : Int) := by omega
      have hkd : decide (k < g.outs.length) = true := decide_eq_true hk1
      have hGr := HG.out.new (hKB.new HBB.out HNw.out)
      obtain ⟨b, off, hab, q0, q1, q2⟩ := ports_at hGr.so hk1
      have hxs := HEX.out _ (List.getElem_mem hk1)
      have HF : Hid ((outE g k g.outs[k]).1 ≠ 0 → firstE (outE g) 0 g.outs = some (k, outE g k g.outs[k])) := Lib.hid (fun h => firstE_skip hk1 HE.out h)
      have HE2 : Hid ((outE g k g.outs[k]).1 = 0 → ∀ j (hj : j < g.outs.length), j < k + 1 → (outE g j g.outs[j]).1 = 0) := Lib.hid (fun h j hj hjk => by
        by_cases e : j = k
        · subst e; exact h
        · exact HE.out j hj (by omega))
      have HIn := Lib.hid (outTk_out g g.edges.length hk1)
      have hns := Lib.hid (names_out g g.acts.length g.ins.length hk1)
      have e : ga = some ⟨b, off, none⟩ := HGA.out.symm.trans hab
      subst e
      clear hab hGr HE HEX
      have hAE : Hid (outE g k g.outs[k] = _) := Lib.hid (by unfold outE; exact rfl)
      have hnl : (namesOf g g.acts.length g.ins.length k).length ≤ 1000 := by have := names_len g g.acts.length g.ins.length k; omega
      generalize g.outs[k] = x at q0 q1 q2 hxs HIn HF HE2 hAE hns
      rw [← takeE_side HI.out] at hAE
      have hgi := gridLen_side HI.out hal nOut_few
      have hLl := Lib.hid (rows_len HI.out)
      have HI2 : Hid (takeE OL x.ac x.po = 0 → (takeL OL x.ac x.po).map (·.2) = side g nOut (outTk g g.edges.length (k + 1))) := Lib.hid (fun h => side_took HI.out h HIn.out)
      clear HI HIn
      generalize (namesOf g g.acts.length g.ins.length k) = ns at hC hAE hnl hns
      have hNmC := fun W (n : New wr W) => cnm_any W B C M g ns ia ic IL oa oc OL x.name (hC.new n) hxs hnl
      generalize nameE ns x.name = nm at hAE hNmC
      clear hC
      go_wp2_with fail
      have kb : New wr (wr.alloc (.cells #[.string x.name, I x.ac, I x.po] 118)) := (New.refl wr).alloc _
      have hby : (wr.alloc (.cells #[.string x.name, I x.ac, I x.po] 118)).heap[wr.heap.size]? = some (.cells #[.string x.name, I x.ac, I x.po] 118 (0, 0)) := heap_alloc_new wr _
      generalize (wr.alloc (.cells #[.string x.name, I x.ac, I x.po] 118)) = w1 at kb hby ⊢
      generalize wr.heap.size = Y at hby ⊢
      replace HB := Lib.hid (Keeps.heap kb HB.out (fun h => h))
      replace hKB := hKB.trans (KX.of_new kb)
      refine (hNmC w1 kb).mono ?_
      rintro e w2 ⟨rfl, hC2, k2⟩
      have HY := Lib.hid (k2.heap hby rfl)
      replace HB := Lib.hid (k2.heap HB.out rfl)
      replace hKB := hKB.trans k2
      clear hby k2 kb q0 q1 q2 hNmC
      by_cases hnm : nm = 0
      · rw [if_pos hnm] at hC2
        rw [if_neg (fun h => h hnm)] at hAE
        subst hnm
        have hT : Calls Try.prog 75 #[.slice oa g.acts.length oc, I x.ac, I x.po] w2 (Took w2 B oa oc OL x.ac x.po) := by
          have := take_any w2 B oa oc OL x.ac x.po hC2.go hgi
          rw [hLl.out] at this; exact this
        obtain ⟨y0, y1, y2, hYl⟩ := port_cells HY.out
        go_wp2_with fail
        refine hT.mono ?_
        rintro e w3 hT3
        have hC3 := hC2.tookO hT3
        obtain ⟨rfl, -, kT, -⟩ := hT3
        replace HY := Lib.hid (kT.heap HY.out rfl)
        replace HB := Lib.hid (kT.heap HB.out rfl)
        replace hKB := hKB.trans kT
        clear kT hT hC2 y0 y1 y2 hYl hgi
        by_cases h2 : takeE OL x.ac x.po = 0
        · have d2 : (takeE OL x.ac x.po != 0) = false := by simp [h2]
          have HI3 := Lib.hid (HI2.out h2)
          have HG2 := Lib.hid (HE2.out (by rw [hAE.out]; exact h2))
          rw [← hns.out] at hC3
          clear hAE HE2 HF h2 HI2 hLl
          generalize takeE OL x.ac x.po = t2 at d2
          generalize takeL OL x.ac x.po = IL1 at HI3 hC3
          go_wp2_with fail
          go_roundw
          case rel => exact ⟨k + 1, _, by omega, by go_num, Lib.hid ⟨hC3, HI3.out, HG2.out, HB.out, hKB⟩⟩
          case measure => simp [intOf]; omega
        · have d2 : (takeE OL x.ac x.po != 0) = true := by simp [h2]
          have HF2 := Lib.hid (HF.out (by rw [hAE.out]; exact h2))
          clear HE2 HF hC3 HI2 hLl
          generalize takeE OL x.ac x.po = t2 at d2 hAE
          obtain ⟨⟨r0, r1, r2⟩, ⟨f0, f1, f2⟩, hBB⟩ := spot_cells HB.out
          go_wp2_with fail
          exact bodyPost_ret (v := .tuple #[I t2, .agg #[.int .u8 4, I k, I 1]]) (by simp [results, Try.results64, go_sem, r0, r1, r2, f0, f1, f2, hBB]) rfl ⟨by unfold Stage; rw [HF2.out, hAE.out]; rfl, ((hKB.setCell (Nat.le_refl _) _).setCell (Nat.le_refl _) _).setCell (Nat.le_refl _) _⟩
      · have e2 : (nm != 0) = true := by simp [hnm]
        rw [if_pos hnm] at hAE
        have HF2 := Lib.hid (HF.out (by rw [hAE.out]; exact hnm))
        clear hnm HE2 HF hC2 HI2 hLl hgi
        obtain ⟨⟨r0, r1, r2⟩, ⟨f0, f1, f2⟩, hBB⟩ := spot_cells HB.out
        go_wp2_with fail
        exact bodyPost_ret (v := .tuple #[I nm, .agg #[.int .u8 4, I k, I 0]]) (by simp [results, Try.results64, go_sem, r0, r1, r2, f0, f1, f2, hBB]) rfl ⟨by unfold Stage; rw [HF2.out, hAE.out]; rfl, ((hKB.setCell (Nat.le_refl _) _).setCell (Nat.le_refl _) _).setCell (Nat.le_refl _) _⟩
    · have hke : k = g.outs.length := by omega
      have hkd : decide (k < g.outs.length) = false := decide_eq_false hk1
      rw [hke] at hC HE HI
      have HFN : Hid (firstE (outE g) 0 g.outs = none) := Lib.hid (firstE_all HE.out)
      have HOKK : Hid (∀ W, Chk W B C M g (namesOf g g.acts.length g.ins.length g.outs.length) ia ic IL oa oc OL → ok W) := Lib.hid (fun W hW => by
        rw [← HOK.out]; exact ⟨OL, hW, HI.out⟩)
      clear HE HI hke hk hk1 HEX
      obtain ⟨⟨r0, r1, r2⟩, ⟨f0, f1, f2⟩, hBB⟩ := spot_cells HB.out
      have HCS := Lib.hid (fun u v x => hC.spot HB.out u v x)
      clear hC
      go_wp2_with fail
      exact bodyPost_ret (v := .tuple #[I 0, .agg #[.int .u8 0, I 0, I 0]]) (by simp [results, Try.results64, go_sem, r0, r1, r2, f0, f1, f2, hBB]) rfl ⟨by unfold Stage; rw [HFN.out]; exact ⟨rfl, HOKK.out _ (HCS.out _ _ _)⟩, ((hKB.setCell (Nat.le_refl _) _).setCell (Nat.le_refl _) _).setCell (Nat.le_refl _) _⟩
end Go.Proofs.Ytijlgcbnoekmeaa
