/-
  Layer 20: the walk through the operations.
-/
import Derived.Test.YtfmpjbiaamkobaaDoorCodeB
import Derived.Deep.RegionHeld3
namespace Go.Proofs.YtfmpjbiaamkobaaDoor
open Go Go.RowKit
set_option linter.all false

theorem Tryd.infoFrame : (Tryd.prog.info? 77).map (fun i => (i.zero, i.size, i.bytes)) = some (some (.agg #[.int .i64 0, .int .i64 0]), 2, 16) := by kernel_rfl

theorem walkS_cons {L : Lims} {ops : List OpD} {k : Nat} (hk : k < ops.length) (σ : Stk) : walkS L ops (ops.drop k) k σ = match stepS L ops k ops[k] σ with | .error e => .error e | .ok τ => walkS L ops (ops.drop (k + 1)) (k + 1) τ := by
  rw [List.drop_eq_getElem_cons hk]; rfl
theorem walkR_err {L : Lims} {ops : List OpD} {e : Int} (h : walkS L ops ops 0 ⟨[], 0⟩ = .error e) : walkR L ops = (0, e) := by unfold walkR; rw [h]
theorem hl_new (w : World) (o : Obj) (k : Nat) (h : k = w.heap.size) : (w.alloc o).heap[k]? = some o := by subst h; exact heap_alloc_new w o
theorem loopKs (B s : Int) : loopK B s = if s + 1 ≤ 131072 / B then 1 + B * (s + 1) else 131073 := rfl
theorem two1 (k : Nat) : ∀ u ∈ [Value.int .i64 (k : Int), .int .i64 0], u.oneCell' = true := by intro u hu; simp at hu; rcases hu with rfl | rfl <;> rfl
theorem own_addr2 {w : World} {B : Nat} {e : TypeId} {a : Option Addr} {n c size : Nat} {xs : List Value} (h : w.ownsRow B e size (.slice a n c) n xs) (hn : 0 < n) : ∃ g, a = some ⟨g, 0, none⟩ ∧ B ≤ g := by
  rcases h.2 with ⟨h0, h1⟩ | ⟨g, cap, cur, h0, hb, hg, _⟩
  · simp only [Value.slice.injEq] at h0; omega
  · simp only [Value.slice.injEq] at h0
    exact ⟨g, h0.1, hb⟩
theorem ret_2 {a b c d : Int} (h : (a, b) = (c, d)) : Ending.returned (.tuple #[I a, I b]) = .returned (.tuple #[I c, I d]) := by cases h; rfl

set_option maxRecDepth 100000 in
set_option maxHeartbeats 8000000 in
theorem cwalk_any (w : World) (p : Pg) (hb : Bnd p) (hp : PgAt w p) :
    Calls Tryd.prog 17 #[p.v] w fun e w' => e = .returned (.tuple #[I (walkR p.lims p.ops).1, I (walkR p.lims p.ops).2]) ∧ New w w' := by
  have hno := hb.no
  obtain ⟨iI, hiI, hzI, hsI, hbI⟩ := info_parts Tryd.infoFrame
  have hx := hp.po
  have hsd : ∀ w1 i, New w w1 → (hi : i < p.ops.length) → Calls Tryd.prog 30 #[.agg #[I p.mem, I p.ctr, I p.ins, I p.outs, .slice p.pa p.parts.length p.pc, .slice p.la p.lines.length p.lc, .slice p.oa p.ops.length p.oc], I (i : Int)] w1 fun e w' => e = .returned (.bool (okOp p.lims i p.ops[i])) ∧ New w1 w' :=
    fun w1 i k hi => sound_any w1 p i hb (hx.new k) hi
  clear hb hp
  obtain ⟨L, hL⟩ : ∃ L, p.lims = L := ⟨_, rfl⟩
  rw [hL] at hsd ⊢
  clear hL
  obtain ⟨pmem, pctr, pins, pouts, ppa, ppc, pparts, pla, plc, plines, poa, poc, ops⟩ := p
  simp only at hno hx hsd
  simp only [Pg.v, Pg.cs]
  go_enter Tryd.func17, Tryd.ntmps17
  go_wp2_with fail
  have hN0 : New w ((w.alloc (.cells #[I pmem, I pctr, I pins, I pouts, .slice ppa pparts.length ppc, .slice pla plines.length plc, .slice poa ops.length poc] 39)).alloc (.cells #[I (-1), I 0] 77)) := ((New.refl w).alloc _).alloc _
  have b0 : ((w.alloc (.cells #[I pmem, I pctr, I pins, I pouts, .slice ppa pparts.length ppc, .slice pla plines.length plc, .slice poa ops.length poc] 39)).alloc (.cells #[I (-1), I 0] 77)).cell? ⟨w.heap.size, 0, none⟩ = some (I pmem) := by rw [World.cell?_alloc_past _ _ _ (by simp)]; simp
  have b1 : ((w.alloc (.cells #[I pmem, I pctr, I pins, I pouts, .slice ppa pparts.length ppc, .slice pla plines.length plc, .slice poa ops.length poc] 39)).alloc (.cells #[I (-1), I 0] 77)).cell? ⟨w.heap.size, 1, none⟩ = some (I pctr) := by rw [World.cell?_alloc_past _ _ _ (by simp)]; simp
  have b2 : ((w.alloc (.cells #[I pmem, I pctr, I pins, I pouts, .slice ppa pparts.length ppc, .slice pla plines.length plc, .slice poa ops.length poc] 39)).alloc (.cells #[I (-1), I 0] 77)).cell? ⟨w.heap.size, 2, none⟩ = some (I pins) := by rw [World.cell?_alloc_past _ _ _ (by simp)]; simp
  have b3 : ((w.alloc (.cells #[I pmem, I pctr, I pins, I pouts, .slice ppa pparts.length ppc, .slice pla plines.length plc, .slice poa ops.length poc] 39)).alloc (.cells #[I (-1), I 0] 77)).cell? ⟨w.heap.size, 3, none⟩ = some (I pouts) := by rw [World.cell?_alloc_past _ _ _ (by simp)]; simp
  have b4 : ((w.alloc (.cells #[I pmem, I pctr, I pins, I pouts, .slice ppa pparts.length ppc, .slice pla plines.length plc, .slice poa ops.length poc] 39)).alloc (.cells #[I (-1), I 0] 77)).cell? ⟨w.heap.size, 4, none⟩ = some (.slice ppa pparts.length ppc) := by rw [World.cell?_alloc_past _ _ _ (by simp)]; simp
  have b5 : ((w.alloc (.cells #[I pmem, I pctr, I pins, I pouts, .slice ppa pparts.length ppc, .slice pla plines.length plc, .slice poa ops.length poc] 39)).alloc (.cells #[I (-1), I 0] 77)).cell? ⟨w.heap.size, 5, none⟩ = some (.slice pla plines.length plc) := by rw [World.cell?_alloc_past _ _ _ (by simp)]; simp
  have b6 : ((w.alloc (.cells #[I pmem, I pctr, I pins, I pouts, .slice ppa pparts.length ppc, .slice pla plines.length plc, .slice poa ops.length poc] 39)).alloc (.cells #[I (-1), I 0] 77)).cell? ⟨w.heap.size, 6, none⟩ = some (.slice poa ops.length poc) := by rw [World.cell?_alloc_past _ _ _ (by simp)]; simp
  have hr0 : ((w.alloc (.cells #[I pmem, I pctr, I pins, I pouts, .slice ppa pparts.length ppc, .slice pla plines.length plc, .slice poa ops.length poc] 39)).alloc (.cells #[I (-1), I 0] 77)).ownsRow (w.heap.size + 1) 77 2 (.slice (some ⟨w.heap.size + 1, 0, none⟩) 1 1) 1 (frCells ⟨[], 0⟩) := ⟨rfl, .inr ⟨w.heap.size + 1, 1, _, rfl, Nat.le_refl _, hl_new _ _ _ (by simp), Nat.le_refl _, by decide, rfl, rfl⟩⟩
  have hz0 : w.heap.size + 1 < ((w.alloc (.cells #[I pmem, I pctr, I pins, I pouts, .slice ppa pparts.length ppc, .slice pla plines.length plc, .slice poa ops.length poc] 39)).alloc (.cells #[I (-1), I 0] 77)).heap.size := by simp
  generalize ((w.alloc (.cells #[I pmem, I pctr, I pins, I pouts, .slice ppa pparts.length ppc, .slice pla plines.length plc, .slice poa ops.length poc] 39)).alloc (.cells #[I (-1), I 0] 77)) = W0 at hN0 b0 b1 b2 b3 b4 b5 b6 hr0 hz0 ⊢
  obtain ⟨B, hB⟩ : ∃ B, B = w.heap.size + 1 := ⟨_, rfl⟩
  have hB1 : w.heap.size < B := by omega
  have hB2 : B < W0.heap.size := by omega
  rw [← hB] at hr0
  have hFr0 : Fr W0 B (.slice (some ⟨w.heap.size + 1, 0, none⟩) 1 1) ⟨[], 0⟩ := ⟨B, 1, 0, rfl, by rw [hB], by rw [hB] at hr0 ⊢; exact hr0⟩
  clear hr0 hB hz0
  go_loopw [4, 20] (fun v i wr => ∃ k : Nat, k ≤ ops.length ∧ i = .int .i64 k ∧ ∃ σ : Stk, walkS L ops ops 0 ⟨[], 0⟩ = walkS L ops (ops.drop k) k σ ∧ Fr wr B v σ ∧ (∀ f ∈ σ.fr, f.1 < k ∧ 1 ≤ (opAt ops f.1).b ∧ (opAt ops f.1).b ≤ 2048) ∧ Small σ ∧ σ.fr.length ≤ k ∧ Keeps (fun x => B ≤ x) W0 wr) (fun _ i _ => ops.length - (intOf i).toNat)
  case atStart => exact ⟨0, Nat.zero_le _, rfl, ⟨[], 0⟩, rfl, hFr0, by simp, ⟨by simp, by simp, by simp⟩, by simp, Keeps.refl _ _⟩
  case round =>
    clear hFr0
    obtain ⟨k, hk, rfl, σ, heq, ⟨g, c, m, hm, rfl, hr⟩, hlt, hsm, hfl, hkp⟩ := hrel
    have HM := Lib.hid hm
    rw [hm] at hfl
    clear hm
    have hNw : New w wr := hN0.keeps hkp (fun x hx hb => by omega)
    have HEQ := Lib.hid heq
    clear heq
    by_cases hk1 : k < ops.length
    · obtain ⟨bx, ox, rfl, q0, q1, q2⟩ := ops_at (hx.new hNw) hk1
      have hcons := walkS_cons (L := L) hk1 σ
      have hs1 := hsd (wr.alloc (.cells (opCells ops[k]).toArray 24)) k (hNw.alloc _) hk1
      generalize ho : ops[k] = o at q0 q1 q2 hcons hs1
      obtain ⟨kind, oa, ob⟩ := o
      simp only [opCells] at q0 q1 q2 hs1
      have HC := Lib.hid hcons
      have hop : opAt ops k = ⟨kind, oa, ob⟩ := by unfold opAt; simp [hk1, ho]
      have HO := Lib.hid hop
      clear hcons ho hop
      have c0 := hkp.cell b0 (by simp only; omega)
      have c1 := hkp.cell b1 (by simp only; omega)
      have c2 := hkp.cell b2 (by simp only; omega)
      have c3 := hkp.cell b3 (by simp only; omega)
      have c4 := hkp.cell b4 (by simp only; omega)
      have c5 := hkp.cell b5 (by simp only; omega)
      have c6 := hkp.cell b6 (by simp only; omega)
      have hk0 : (k : Int) < (ops.length : Int) := by omega
      have al : New wr (wr.alloc (.cells #[.int .u8 kind, I oa, I ob] 24)) := (New.refl wr).alloc _
      have c0' := al.cell c0
      have c1' := al.cell c1
      have c2' := al.cell c2
      have c3' := al.cell c3
      have c4' := al.cell c4
      have c5' := al.cell c5
      have c6' := al.cell c6
      go_wp2_with fail
      refine hs1.mono ?_
      rintro e w2 ⟨rfl, m2⟩
      have d0 := m2.cell (p := ⟨wr.heap.size, 0, none⟩) (v := .int .u8 kind) (by simp)
      have d1 := m2.cell (p := ⟨wr.heap.size, 1, none⟩) (v := I oa) (by simp)
      have d2 := m2.cell (p := ⟨wr.heap.size, 2, none⟩) (v := I ob) (by simp)
      have mm := al.trans m2
      have hr2 := mm.owns hr
      have hkp2 := hkp.trans mm (fun _ _ h => h.elim)
      have hNw2 := hNw.trans mm
      have hzr : wr.heap.size < (wr.alloc (.cells #[.int .u8 kind, I oa, I ob] 24)).heap.size := by simp
      have hz2 := m2.size
      clear hr hkp hNw al m2 mm q0 q1 q2 c0 c1 c2 c3 c4 c5 c6 c0' c1' c2' c3' c4' c5' c6' hs1
      have c62 := hkp2.cell b6 (by simp only; omega)
      cases hok : okOp L k ⟨kind, oa, ob⟩ with
      | false =>
        have hres : walkR L ops = (0, 200) := walkR_err (by rw [HEQ.out, HC.out]; unfold stepS; rw [if_pos hok])
        have HR := Lib.hid hres
        clear hres hok
        go_wp2
        go_ret2
        rw [HR.out]
        exact ⟨rfl, hNw2⟩
      | true =>
        have hnok : ¬ okOp L k ⟨kind, oa, ob⟩ = false := by rw [hok]; decide
        have HNK := Lib.hid hnok
        have HOK := Lib.hid hok
        clear hnok hok
        have htop := frCells_top σ
        have hcl := frCells_len σ
        rw [HM.out] at htop hcl
        have t0 : w2.cell? ⟨g, m * 2, none⟩ = some (I (topAt σ)) := by rw [hr2.cellAt _ (by omega), htop.1]
        have t1 : w2.cell? ⟨g, m * 2 + 1, none⟩ = some (I (topS σ)) := by rw [hr2.cellAt _ (by omega), htop.2]
        have tf := hr2.frozenAt (m * 2 + 1)
        have hml : m ≤ 131072 := by omega
        have hgB := (World.ownsRow.lt hr2 g rfl).1
        have hts := topS_bd hsm
        obtain ⟨hts0, hts1⟩ := hts
        have HLT := Lib.hid hlt
        have HSM := Lib.hid hsm
        clear hlt hsm
        by_cases hk1' : kind = 1
        · subst hk1'
          obtain ⟨wo, rfl⟩ : ∃ wo : World, wo = wr := ⟨_, rfl⟩
          have hcm : m + 1 ≤ c := by
            rcases hr2.2 with ⟨h0, _⟩ | ⟨g', cap', cur', h0, _, _, hnc, _⟩
            · simp at h0
            · simp only [Value.slice.injEq] at h0; omega
          have hcI : (1 : Int) ≤ (c : Int) := by omega
          have hmI : (1 : Int) ≤ (m : Int) + 1 := by omega
          have hfr : ∀ j (hj : j < σ.fr.length), w2.cell? ⟨g, 2 + j * 2, none⟩ = some (I ((σ.fr.reverse[j]'(by simpa using hj)).1 : Int)) ∧ w2.cell? ⟨g, 2 + j * 2 + 1, none⟩ = some (I (σ.fr.reverse[j]'(by simpa using hj)).2) := fun j hj => by
            have h := frCells_at σ j hj
            have hm := HM.out
            refine ⟨?_, ?_⟩
            · rw [show 2 + j * 2 = (j + 1) * 2 by omega, hr2.cellAt _ (by omega), h.1]
            · rw [show 2 + j * 2 + 1 = (j + 1) * 2 + 1 by omega, hr2.cellAt _ (by omega), h.2]
          have HFR := Lib.hid hfr
          clear hfr htop hcl t0 t1 tf
          by_cases hc : c = 1
          · subst hc
            obtain rfl : m = 0 := by omega
            go_wp2_with fail
            go_loopw [50] (fun j wz => ∃ q : Nat, q = 0 ∧ j = .int .i64 q ∧ New w2 wz) (fun j _ => 0)
            case atStart => exact ⟨0, rfl, rfl, New.refl _⟩
            case round =>
              obtain ⟨q, hq, rfl, hn⟩ := hrel
              have HA := Lib.hid (show ∀ t (ht : t < σ.fr.reverse.length), t < q → (opAt ops (σ.fr.reverse[t]).1).a ≠ oa from fun t _ h => by omega)
              subst hq
              have hany : σ.fr.any (fun f => decide ((opAt ops f.1).a = oa)) = false := by
                rw [any_rev, List.any_eq_false]
                intro y hy
                obtain ⟨t, ht, rfl⟩ := List.getElem_of_mem hy
                have hlr : σ.fr.reverse.length = 0 := by rw [List.length_reverse]; exact HM.out
                simpa using HA.out t ht (by omega)
              have hst : stepS L ops k ⟨1, oa, ob⟩ σ = .ok ⟨(k, 0) :: σ.fr, σ.b⟩ := by
                unfold stepS
                rw [if_neg HNK.out, if_pos rfl, if_neg (by simp only [hany]; simp)]
              have HST := Lib.hid hst
              have hr3 := hn.owns hr2
              have hkp3 := hkp2.trans hn (fun _ _ h => h.elim)
              have ka : New wr (wr.alloc (.cells #[.int .i64 k, .int .i64 0] 77)) := (New.refl wr).alloc _
              have hBz : B ≤ wr.heap.size := by have := hkp3.size; omega
              clear hany hst hr2 hkp2
              go_wp2_with (at_builtin; refine wpList_app rfl _ _ 78 rfl B 77 iI _ 2 16 Tryd.underlying78 hiI hzI hsI hbI rfl (by decide) (some ⟨g, 0, none⟩) (0 + 1) 1 (frCells σ) rfl (ka.owns hr3) _ 1 1 [.int .i64 k, .int .i64 0] rfl rfl (SlAt.lit _ _ _) (two1 k) (by unfold maxLen; omega) (by omega) (Nat.le_trans hBz ka.size) ?_)
              intro a9 c9 w9 hown9 hk9 hmv9 _
              obtain ⟨g9, rfl, hg9⟩ := own_addr2 hown9 (by omega)
              have hF9 : Fr w9 B (.slice (some ⟨g9, 0, none⟩) (0 + 1 + 1) c9) ⟨(k, 0) :: σ.fr, σ.b⟩ := ⟨g9, c9, 0 + 1, by simp only [List.length_cons]; rw [HM.out], rfl, by rw [frCells_push]; exact hown9⟩
              have hkp9 : Keeps (fun x => B ≤ x) W0 w9 := (hkp3.trans ka (fun _ _ h => h.elim)).trans hk9 (fun x _ hb => by obtain ⟨y, hy, rfl⟩ := hb; cases hy; exact hgB)
              have H9 := Lib.hid (And.intro hF9 hkp9)
              clear hF9 hkp9 hown9 hk9 hmv9 hr3 hkp3 ka hn
              go_wp2
              go_roundw
              case rel =>
                refine ⟨k + 1, by omega, by go_num, ⟨(k, 0) :: σ.fr, σ.b⟩, by rw [HEQ.out, HC.out, HST.out], H9.out.1, fun f hf => ?_, ?_, by simp only [List.length_cons]; rw [HM.out]; omega, H9.out.2⟩
                · rcases List.mem_cons.1 hf with rfl | hf
                  · have := okOp_head HOK.out rfl
                    simp only at this ⊢
                    rw [HO.out]
                    simp only
                    omega
                  · have := HLT.out f hf
                    exact ⟨by omega, this.2⟩
                · refine ⟨fun y hy => ?_, HSM.out.2⟩
                  rcases List.mem_cons.1 hy with rfl | hy
                  · simp
                  · exact HSM.out.1 y hy
              case measure => simp [intOf]; omega
          · have hc2 : 1 < c := by omega
            have hc3 : decide (c = 1) = false := by simpa using hc
            have hc4 : (c == 1) = false := by simpa using hc
            clear hc
            go_wp2_with fail
            go_loopw [50] (fun j wz => ∃ q : Nat, q ≤ m ∧ j = .int .i64 q ∧ (∀ t (ht : t < σ.fr.reverse.length), t < q → (opAt ops (σ.fr.reverse[t]).1).a ≠ oa) ∧ New w2 wz) (fun j _ => m - (intOf j).toNat)
            case atStart => exact ⟨0, Nat.zero_le _, rfl, by omega, New.refl _⟩
            case round =>
              obtain ⟨q, hq, rfl, hall, hn⟩ := hrel
              have HA := Lib.hid hall
              clear hall
              by_cases hq1 : q < m
              · obtain ⟨y, hy⟩ : ∃ y, y = σ.fr.reverse[q]'(by rw [List.length_reverse, HM.out]; exact hq1) := ⟨_, rfl⟩
                have hmem : y ∈ σ.fr := by rw [hy]; exact List.mem_reverse.1 (List.getElem_mem _)
                have hyl := HLT.out y hmem
                obtain ⟨y0, y1⟩ := HFR.out q (by rw [HM.out]; exact hq1)
                rw [← hy] at y0 y1
                have hnext : (opAt ops y.1).a ≠ oa → ∀ t (ht : t < σ.fr.reverse.length), t < q + 1 → (opAt ops (σ.fr.reverse[t]).1).a ≠ oa := fun h t ht htq => by
                  by_cases e : t < q
                  · exact HA.out t ht e
                  · obtain rfl : t = q := by omega
                    rw [← hy]; exact h
                have hhit : (opAt ops y.1).a = oa → walkR L ops = (0, 201) := fun h => walkR_err (by
                  rw [HEQ.out, HC.out]
                  unfold stepS
                  rw [if_neg HNK.out, if_pos rfl, if_pos (List.any_eq_true.2 ⟨y, hmem, by simpa using h⟩)])
                have HN := Lib.hid hnext
                have HH := Lib.hid hhit
                clear hnext hhit hy hmem
                obtain ⟨ya, ys⟩ := y
                simp only at hyl y0 y1 HN HH
                obtain ⟨hya, -, -⟩ := hyl
                obtain ⟨bx2, ox2, hbx, p0, p1, p2⟩ := ops_at (hx.new (hNw2.trans hn)) (show ya < ops.length by omega)
                simp only [Option.some.injEq, Addr.mk.injEq, and_true] at hbx
                obtain ⟨rfl, rfl⟩ := hbx
                rw [show ops[ya]'(by omega) = opAt ops ya by unfold opAt; simp [show ya < ops.length by omega]] at p0 p1 p2
                generalize (opAt ops ya).a = yA at p1 HN HH
                have yr0 := hn.cell y0
                have yr1 := hn.cell y1
                have c6r := hn.cell c62
                have d1r := hn.cell d1
                have hq0 : (q : Int) < (m : Int) := by omega
                have hya0 : (ya : Int) < (ops.length : Int) := by omega
                have hya1 : (0 : Int) ≤ (ya : Int) := by omega
                clear p0 p2 y0 y1 d0 d1 d2 c62
                go_wp2
                have kb : New wr (wr.alloc (.cells #[I ya, I ys] 77)) := (New.refl wr).alloc _
                have s0 : (wr.alloc (.cells #[I ya, I ys] 77)).cell? ⟨wr.heap.size, 0, none⟩ = some (I ya) := by simp
                have c6s := kb.cell c6r
                have d1s := kb.cell d1r
                have p1s := kb.cell p1
                have hn2 := hn.trans kb
                clear kb yr0 yr1 c6r d1r p1
                generalize wr.alloc (.cells #[I ya, I ys] 77) = W5 at s0 c6s d1s p1s hn2 ⊢
                by_cases hA : yA = oa
                · have hres := HH.out hA
                  have HR := Lib.hid hres
                  subst hA
                  clear hres
                  go_quiet (fail)
                  go_wp2
                  go_ret2
                  rw [HR.out]
                  exact ⟨rfl, (hNw2.trans hn2).drewN _⟩
                · have g1 : decide (yA = oa) = false := by simpa using hA
                  have g2 : (yA == oa) = false := by simpa using hA
                  have HNN := Lib.hid (HN.out hA)
                  clear hA
                  go_quiet (fail)
                  go_wp2
                  go_roundw
                  case rel => exact ⟨q + 1, by omega, by go_num, HNN.out, hn2.drewN _⟩
                  case measure => simp [intOf]; omega
              · obtain rfl : q = m := by omega
                have hany : σ.fr.any (fun f => decide ((opAt ops f.1).a = oa)) = false := by
                  rw [any_rev, List.any_eq_false]
                  intro y hy
                  obtain ⟨t, ht, rfl⟩ := List.getElem_of_mem hy
                  have hlr : σ.fr.reverse.length = q := by rw [List.length_reverse]; exact HM.out
                  simpa using HA.out t ht (by omega)
                have hst : stepS L ops k ⟨1, oa, ob⟩ σ = .ok ⟨(k, 0) :: σ.fr, σ.b⟩ := by
                  unfold stepS
                  rw [if_neg HNK.out, if_pos rfl, if_neg (by simp only [hany]; simp)]
                have HST := Lib.hid hst
                have hr3 := hn.owns hr2
                have hkp3 := hkp2.trans hn (fun _ _ h => h.elim)
                have ka : New wr (wr.alloc (.cells #[.int .i64 k, .int .i64 0] 77)) := (New.refl wr).alloc _
                have hBz : B ≤ wr.heap.size := by have := hkp3.size; omega
                clear hany hst hr2 hkp2
                go_wp2_with (at_builtin; refine wpList_app rfl _ _ 78 rfl B 77 iI _ 2 16 Tryd.underlying78 hiI hzI hsI hbI rfl (by decide) (some ⟨g, 0, none⟩) (q + 1) c (frCells σ) rfl (ka.owns hr3) _ 1 1 [.int .i64 k, .int .i64 0] rfl rfl (SlAt.lit _ _ _) (two1 k) (by unfold maxLen; omega) (by omega) (Nat.le_trans hBz ka.size) ?_)
                intro a9 c9 w9 hown9 hk9 hmv9 _
                obtain ⟨g9, rfl, hg9⟩ := own_addr2 hown9 (by omega)
                have hF9 : Fr w9 B (.slice (some ⟨g9, 0, none⟩) (q + 1 + 1) c9) ⟨(k, 0) :: σ.fr, σ.b⟩ := ⟨g9, c9, q + 1, by simp only [List.length_cons]; rw [HM.out], rfl, by rw [frCells_push]; exact hown9⟩
                have hkp9 : Keeps (fun x => B ≤ x) W0 w9 := (hkp3.trans ka (fun _ _ h => h.elim)).trans hk9 (fun x _ hb => by obtain ⟨y, hy, rfl⟩ := hb; cases hy; exact hgB)
                have H9 := Lib.hid (And.intro hF9 hkp9)
                clear hF9 hkp9 hown9 hk9 hmv9 hr3 hkp3 ka hn
                go_wp2
                go_roundw
                case rel =>
                  refine ⟨k + 1, by omega, by go_num, ⟨(k, 0) :: σ.fr, σ.b⟩, by rw [HEQ.out, HC.out, HST.out], H9.out.1, fun f hf => ?_, ?_, by simp only [List.length_cons]; rw [HM.out]; omega, H9.out.2⟩
                  · rcases List.mem_cons.1 hf with rfl | hf
                    · have := okOp_head HOK.out rfl
                      simp only at this ⊢
                      rw [HO.out]
                      simp only
                      omega
                    · have := HLT.out f hf
                      exact ⟨by omega, this.2⟩
                  · refine ⟨fun y hy => ?_, HSM.out.2⟩
                    rcases List.mem_cons.1 hy with rfl | hy
                    · simp
                    · exact HSM.out.1 y hy
                case measure => simp [intOf]; omega
        · by_cases hk2 : kind = 2
          · subst hk2
            clear hk1'
            obtain ⟨fr, sb⟩ := σ
            have f1 : decide ((2 : Int) = 1) = false := by simp
            cases fr with
            | nil =>
              obtain rfl : m = 0 := by have := HM.out; simpa using this.symm
              have hst : stepS L ops k ⟨2, oa, ob⟩ ⟨[], sb⟩ = .error 201 := by
                unfold stepS
                rw [if_neg HNK.out, if_neg (by simp), if_pos rfl]
              have hres : walkR L ops = (0, 201) := walkR_err (by rw [HEQ.out, HC.out, hst])
              have HR := Lib.hid hres
              clear hres hst htop hcl
              go_wp2_with fail
              go_quiet (fail)
              go_wp2
              go_ret2
              rw [HR.out]
              exact ⟨rfl, hNw2.drewN _⟩
            | cons x r =>
              obtain ⟨a, ss⟩ := x
              have hm1 : 1 ≤ m := by have := HM.out; simp at this; omega
              obtain ⟨hak, hB1', hB2'⟩ := HLT.out (a, ss) (by simp)
              simp only at hak hB1' hB2'
              obtain ⟨bx2, ox2, hbx, p0, p1, p2⟩ := ops_at (hx.new hNw2) (show a < ops.length by omega)
              simp only [Option.some.injEq, Addr.mk.injEq, and_true] at hbx
              obtain ⟨rfl, rfl⟩ := hbx
              have hoa : ops[a]'(by omega) = opAt ops a := by unfold opAt; simp [show a < ops.length by omega]
              rw [hoa] at p0 p1 p2
              clear hoa
              have hst : stepS L ops k ⟨2, oa, ob⟩ ⟨(a, ss) :: r, sb⟩ = if (opAt ops a).a ≠ oa ∨ ob ≠ (a : Int) + 1 then .error 201 else .ok (bumpS (loopK (opAt ops a).b ss) ⟨r, sb⟩) := by
                unfold stepS
                rw [if_neg HNK.out, if_neg (by simp), if_pos rfl]
              have hkk := loopKs (opAt ops a).b ss
              generalize opAt ops a = oh at p0 p1 p2 hst hB1' hB2' hkk
              obtain ⟨ohk, ohA, ohB⟩ := oh
              simp only at p0 p1 p2 hst hB1' hB2' hkk
              simp only [topAt] at t0
              simp only [topS] at t1 hts0 hts1
              have ha0 : (a : Int) < (ops.length : Int) := by omega
              have ha1 : (0 : Int) ≤ (a : Int) := by omega
              have hM1 : ((m : Int) + 1 == 1) = false := by simp; omega
              have hM2 : decide (m = 0) = false := by simp; omega
              have hM3 : (m == 0) = false := by simp; omega
              have HST := Lib.hid hst
              have HKK := Lib.hid hkk
              clear htop hcl hst hkk
              by_cases hA : ohA = oa
              · by_cases hBk : ob = (a : Int) + 1
                · have hst := HST.out
                  rw [if_neg (by simp [hA, hBk])] at hst
                  have HS2 := Lib.hid hst
                  subst hA
                  subst hBk
                  have hmr : m = r.length + 1 := by have := HM.out; simp at this; omega
                  have hr3 : w2.ownsRow B 77 2 (.slice (some ⟨g, 0, none⟩) (m - 1 + 1) c) (m - 1 + 1) (frCells ⟨r, sb⟩) := by
                    have h := hr2
                    rw [show m - 1 + 1 = r.length + 1 by omega]
                    rw [hmr] at h
                    exact fr_pop h
                  have hsm3 : Small ⟨r, sb⟩ := ⟨fun y hy => HSM.out.1 y (by simp [hy]), HSM.out.2⟩
                  have htb := topS_bd hsm3
                  have htop3 := frCells_top ⟨r, sb⟩
                  have hcl3 := frCells_len ⟨r, sb⟩
                  simp only at htop3 hcl3
                  rw [show r.length = m - 1 by omega] at htop3 hcl3
                  have t2 : w2.cell? ⟨g, (m - 1) * 2 + 1, none⟩ = some (I (topS ⟨r, sb⟩)) := by rw [hr3.cellAt _ (by omega), htop3.2]
                  have t3 := hr3.frozenAt ((m - 1) * 2 + 1)
                  obtain ⟨hFn, hKn⟩ := fr_bump hr3 (show (⟨r, sb⟩ : Stk).fr.length = m - 1 by simp only; omega) (loopK ohB ss)
                  rw [show m - 1 + 1 = m by omega] at hFn
                  have H9 := Lib.hid (And.intro hFn (hkp2.trans hKn (fun _ _ h => h)))
                  have H8 := Lib.hid (And.intro hsm3 (loopK_nn hB1' hts0))
                  have hmc : (m : Int) ≤ (c : Int) := by
                    rcases hr2.2 with ⟨h0, _⟩ | ⟨g', cap', cur', h0, _, _, hnc, _⟩
                    · simp at h0
                    · simp only [Value.slice.injEq] at h0; omega
                  have hmr2 : r.length + 1 ≤ k + 1 := by omega
                  have HMR := Lib.hid hmr
                  clear hFn hKn hsm3 htop3 hcl3 hst hr2 hr3 hkp2 hmr
                  obtain ⟨htb0, htb1⟩ := htb
                  generalize topS ⟨r, sb⟩ = tb at t2 H9 htb0 htb1
                  have hmI : (1 : Int) ≤ (m : Int) := by omega
                  by_cases hq : ss + 1 ≤ 131072 / ohB
                  · have hle := (Int.le_ediv_iff_mul_le (by omega)).1 hq
                    rw [Int.mul_comm] at hle
                    have hge : 0 ≤ ohB * (ss + 1) := Int.mul_nonneg (by omega) (by omega)
                    have hlk : loopK ohB ss = 1 + ohB * (ss + 1) := by unfold loopK; rw [if_pos hq]
                    rw [hlk] at H9
                    have HLK := Lib.hid hlk
                    clear hlk
                    go_wp2_with fail
                    go_quiet (fail)
                    go_wp2_with fail
                    go_quiet (fail)
                    go_wp2_with (go_at_call 31; refine (capped_any _ _).mono ?_; rintro e w' ⟨rfl, rfl⟩)
                    go_roundw
                    case rel =>
                      refine ⟨k + 1, by omega, by go_num, bumpS (1 + ohB * (ss + 1)) ⟨r, sb⟩, by rw [HEQ.out, HC.out, HS2.out, HLK.out], Fr.new H9.out.1 (Keeps.drewN _ _), fun f hf => ?_, ?_, ?_, H9.out.2.trans (Keeps.drewN (S := fun x => B ≤ x) _ _) (fun _ _ h => h)⟩
                      · have hm := (List.mem_map_of_mem (f := (·.1)) hf)
                        rw [bumpS_fr] at hm
                        obtain ⟨y, hy, e⟩ := List.mem_map.1 hm
                        have := HLT.out y (by simp only at hy; simp [hy])
                        rw [e] at this
                        exact ⟨by omega, this.2⟩
                      · rw [← HLK.out]; exact small_bump H8.out.1 H8.out.2
                      · rw [bumpS_len]; simp only; omega
                    case measure => simp [intOf]; omega
                  · have hlk : loopK ohB ss = 131073 := by unfold loopK; rw [if_neg hq]
                    rw [hlk] at H9
                    have HLK := Lib.hid hlk
                    clear hlk
                    go_wp2_with fail
                    go_quiet (fail)
                    go_wp2_with fail
                    go_quiet (fail)
                    go_wp2_with (go_at_call 31; refine (capped_any _ _).mono ?_; rintro e w' ⟨rfl, rfl⟩)
                    go_roundw
                    case rel =>
                      refine ⟨k + 1, by omega, by go_num, bumpS (131073) ⟨r, sb⟩, by rw [HEQ.out, HC.out, HS2.out, HLK.out], Fr.new H9.out.1 (Keeps.drewN _ _), fun f hf => ?_, ?_, ?_, H9.out.2.trans (Keeps.drewN (S := fun x => B ≤ x) _ _) (fun _ _ h => h)⟩
                      · have hm := (List.mem_map_of_mem (f := (·.1)) hf)
                        rw [bumpS_fr] at hm
                        obtain ⟨y, hy, e⟩ := List.mem_map.1 hm
                        have := HLT.out y (by simp only at hy; simp [hy])
                        rw [e] at this
                        exact ⟨by omega, this.2⟩
                      · rw [← HLK.out]; exact small_bump H8.out.1 H8.out.2
                      · rw [bumpS_len]; simp only; omega
                    case measure => simp [intOf]; omega
                · have hst := HST.out
                  rw [if_pos (.inr hBk)] at hst
                  have hres : walkR L ops = (0, 201) := walkR_err (by rw [HEQ.out, HC.out, hst])
                  have HR := Lib.hid hres
                  have g1 : (ohA != oa) = false := by simpa using hA
                  have g2 : (ob != (a : Int) + 1) = true := by simpa using hBk
                  subst hA
                  clear hres hst hBk
                  go_wp2_with fail
                  go_quiet (fail)
                  go_wp2
                  go_ret2
                  rw [HR.out]
                  exact ⟨rfl, hNw2.drewN _⟩
              · have hst := HST.out
                rw [if_pos (.inl hA)] at hst
                have hres : walkR L ops = (0, 201) := walkR_err (by rw [HEQ.out, HC.out, hst])
                have HR := Lib.hid hres
                have g1 : (ohA != oa) = true := by simpa using hA
                clear hres hst hA
                go_wp2_with fail
                go_quiet (fail)
                go_wp2
                go_ret2
                rw [HR.out]
                exact ⟨rfl, hNw2.drewN _⟩
          · by_cases hk3 : kind = 0
            · have e1 : (kind == 1) = false := by simpa using hk1'
              have e2 : (kind == 2) = false := by simpa using hk2
              subst hk3
              have f1 : decide ((0 : Int) = 1) = false := by simp
              cases m with
              | succ m' =>
                have hst : stepS L ops k ⟨0, oa, ob⟩ σ = .error 201 := by
                  unfold stepS
                  rw [if_neg HNK.out, if_neg (by omega), if_neg (by omega), if_pos rfl, if_neg (by intro h; have := HM.out; rw [h] at this; simp at this)]
                have hres : walkR L ops = (0, 201) := walkR_err (by rw [HEQ.out, HC.out, hst])
                have HR := Lib.hid hres
                clear hres hst hk1' hk2 htop hcl
                go_wp2
                go_ret2
                rw [HR.out]
                exact ⟨rfl, hNw2⟩
              | zero =>
                have hst : stepS L ops k ⟨0, oa, ob⟩ σ = .ok (bumpS 1 σ) := by
                  unfold stepS
                  rw [if_neg HNK.out, if_neg (by omega), if_neg (by omega), if_pos rfl, if_pos (List.length_eq_zero_iff.1 HM.out)]
                have HST := Lib.hid hst
                clear hk1' hk2 hst htop hcl
                obtain ⟨hFn, hKn⟩ := fr_bump hr2 HM.out 1
                have H9 := Lib.hid (And.intro hFn (hkp2.trans hKn (fun _ _ h => h)))
                clear hFn hKn hr2 hkp2
                generalize topS σ = ts at t1 hts0 hts1 H9
                go_wp2_with (go_at_call 31; refine (capped_any _ _).mono ?_; rintro e w' ⟨rfl, rfl⟩)
                go_roundw
                case rel => exact ⟨k + 1, by omega, by go_num, bumpS 1 σ, by rw [HEQ.out, HC.out, HST.out], H9.out.1, (fun f hf => by have hm := (List.mem_map_of_mem (f := (·.1)) hf); rw [bumpS_fr] at hm; obtain ⟨y, hy, e⟩ := List.mem_map.1 hm; have := HLT.out y hy; rw [e] at this; exact ⟨by omega, this.2⟩), small_bump HSM.out (by omega), by rw [bumpS_len, HM.out]; omega, H9.out.2⟩
                case measure => simp [intOf]; omega
            · have e1 : (kind == 1) = false := by simpa using hk1'
              have e2 : (kind == 2) = false := by simpa using hk2
              have e3 : (kind == 0) = false := by simpa using hk3
              have f1 : decide (kind = 1) = false := by simpa using hk1'
              have f2 : decide (kind = 2) = false := by simpa using hk2
              have f3 : decide (kind = 0) = false := by simpa using hk3
              have hst : stepS L ops k ⟨kind, oa, ob⟩ σ = .ok (bumpS 1 σ) := by
                unfold stepS
                rw [if_neg HNK.out, if_neg hk1', if_neg hk2, if_neg hk3]
              have HST := Lib.hid hst
              clear hk1' hk2 hk3 hst htop hcl
              obtain ⟨hFn, hKn⟩ := fr_bump hr2 HM.out 1
              have H9 := Lib.hid (And.intro hFn (hkp2.trans hKn (fun _ _ h => h)))
              clear hFn hKn hr2 hkp2
              generalize topS σ = ts at t1 hts0 hts1 H9
              go_wp2_with (go_at_call 31; refine (capped_any _ _).mono ?_; rintro e w' ⟨rfl, rfl⟩)
              go_roundw
              case rel => exact ⟨k + 1, by omega, by go_num, bumpS 1 σ, by rw [HEQ.out, HC.out, HST.out], H9.out.1, (fun f hf => by have hm := (List.mem_map_of_mem (f := (·.1)) hf); rw [bumpS_fr] at hm; obtain ⟨y, hy, e⟩ := List.mem_map.1 hm; have := HLT.out y hy; rw [e] at this; exact ⟨by omega, this.2⟩), small_bump HSM.out (by omega), by rw [bumpS_len, HM.out]; omega, H9.out.2⟩
              case measure => simp [intOf]; omega
    · have hke : k = ops.length := by omega
      have hws : walkS L ops ops 0 ⟨[], 0⟩ = .ok σ := by rw [HEQ.out, hke, List.drop_length]; rfl
      have hb1' : (frCells σ)[1]? = some (I σ.b) := rfl
      have t0 : wr.cell? ⟨g, 0 + 1, none⟩ = some (I σ.b) := by rw [hr.cellAt _ (by omega)]; exact hb1'
      have t1 : wr.cell? ⟨g, 1, none⟩ = some (I σ.b) := t0
      have c6 := hkp.cell b6 (by simp only; omega)
      have hsb := hsm.2
      obtain ⟨hsb0, hsb1⟩ := hsb
      have hR : walkR L ops = if lastEnd ops = false then (0, 200) else if 131072 < σ.b then (0, 5) else (σ.b, 0) := by unfold walkR; rw [hws]
      clear hws hb1'
      have hk0 : (k : Int) = (ops.length : Int) := by omega
      have HKE := Lib.hid hke
      have hge : ops.length ≤ k := by omega
      have HRR := Lib.hid hR
      clear hR hke hk0 hr hkp hsm hlt
      generalize σ.b = sb at t0 t1 hsb0 hsb1 HRR
      by_cases hz : ops.length = 0
      · have hl : lastEnd ops = false := by rw [List.length_eq_zero_iff.1 hz]; rfl
        have hR2 := HRR.out
        rw [if_pos hl] at hR2
        have HR := Lib.hid hR2
        have hz2 : ((ops.length : Int) == 0) = true := by simp [hz]
        have hz3 : decide (ops.length = 0) = true := by simp [hz]
        have hz4 : (ops.length == 0) = true := by simp [hz]
        have HZ := Lib.hid hz
        clear hR2 hl hz
        go_wp2
        go_ret2
        rw [HR.out]
        exact ⟨rfl, hNw⟩
      · obtain ⟨bx, ox, rfl, q0, q1, q2⟩ := ops_at (hx.new hNw) (show ops.length - 1 < ops.length by omega)
        have hlast : lastEnd ops = decide ((ops[ops.length - 1]'(by omega)).kind = 0) := by
          unfold lastEnd
          rw [List.getLast?_eq_getElem?, List.getElem?_eq_getElem (by omega)]
        have HLA := Lib.hid hlast
        clear hlast
        generalize (ops[ops.length - 1]'(by omega)).kind = kd at q0 HLA
        have hz2 : ((ops.length : Int) == 0) = false := by rw [beq_eq_false_iff_ne]; omega
        have hz3 : decide (ops.length = 0) = false := decide_eq_false hz
        have hz4 : (ops.length == 0) = false := by rw [beq_eq_false_iff_ne]; exact hz
        have hl1 : (1 : Int) ≤ (ops.length : Int) := by omega
        clear q1 q2 hz
        by_cases hkd : kd = 0
        · subst hkd
          have hR2 := HRR.out
          rw [HLA.out, if_neg (by simp)] at hR2
          by_cases hbig : 131072 < sb
          · rw [if_pos hbig] at hR2
            have HR := Lib.hid hR2
            clear hR2
            go_wp2
            go_ret2
            rw [HR.out]
            exact ⟨rfl, hNw⟩
          · rw [if_neg hbig] at hR2
            have HR := Lib.hid hR2
            clear hR2
            go_wp2
            go_ret2
            rw [HR.out]
            exact ⟨rfl, hNw⟩
        · have hR2 := HRR.out
          rw [HLA.out, if_pos (by simpa using hkd)] at hR2
          have HR := Lib.hid hR2
          have g1 : (kd != 0) = true := by simpa using hkd
          have g2 : decide (kd = 0) = false := by simpa using hkd
          clear hR2 hkd
          go_wp2
          go_ret2
          rw [HR.out]
          exact ⟨rfl, hNw⟩
end Go.Proofs.YtfmpjbiaamkobaaDoor
