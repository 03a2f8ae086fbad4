/-
  'NetEquation': the law returns true at every input, up to the given bulk; what it is handed reads afterwards as before.
-/
import Derived.Test.YtijlgcbnoekmeaaRead
import Derived.Test.YtijlgcbnoekmeaaReadNet
import Derived.Test.YtijlgcbnoekmeaaNetJ
import Derived.Test.YtijlgcbnoekmeaaNetK
import Derived.Test.YtijlgcbnoekmeaaBulk
import Derived.Test.YtijlgcbnoekmeaaReadRows
import Derived.JoinedCond
namespace Go.Proofs.Ytijlgcbnoekmeaa.netEquation
open Go Go.RowKit Go.ChangeShapes Go.WideShapes Go.ChangeAt
open Go.ChangeMaps (open_string shut_string)
set_option linter.all false

theorem prod_bd {g F : Int} (hg : 1 ≤ g ∧ g ≤ 64) (hF : -100000000000 ≤ F ∧ F ≤ 100000000000) : -10000000000000 ≤ g * F ∧ g * F ≤ 10000000000000 := by
  have h1 : g * F ≤ g * 100000000000 := Int.mul_le_mul_of_nonneg_left hF.2 (by omega)
  have h2 : g * (-100000000000) ≤ g * F := Int.mul_le_mul_of_nonneg_left hF.1 (by omega)
  omega

set_option maxRecDepth 100000 in
set_option maxHeartbeats 2000000 in
theorem bad (w : World) (n0 : Int) (b0 : Option Addr) (c0 : Nat) (x0 : List ArcD) (h0 : SlAt w b0 (arcsCells x0)) (l0 : x0.length ≤ maxLen) (he : netErr n0 x0 ≠ 0) (b1 : Option Addr) (c1 k1 : Nat) :
    Calls Try.prog 5 #[.agg #[I n0, .slice b0 x0.length c0], .slice b1 k1 c1] w fun e w' => e = .returned (.bool true) ∧ New w w' := by
  have hnew : ∀ w1, New w w1 → Calls Try.prog 14 #[.agg #[I n0, .slice b0 x0.length c0]] w1 fun e w' => e = .returned (.tuple #[.pointer none, I (netErr n0 x0)]) ∧ New w1 w' :=
    fun w1 h => new_bad w1 n0 x0 b0 c0 (h0.new h) (by unfold maxLen at l0; omega) he
  have hne : (netErr n0 x0 != 0) = true := by simpa using he
  generalize netErr n0 x0 = q at hnew hne
  clear he
  go_enter Try.func5, Try.ntmps5
  go_wp2_with fail
  refine (hnew _ ((New.refl w).alloc _)).mono ?_
  rintro e w1 ⟨rfl, m1⟩
  have kC := ((New.refl w).alloc _).trans m1
  go_wp2_with fail
  refine (awake_any _).mono ?_
  rintro e w3 ⟨rfl, m3⟩
  go_wp2
  go_ret
  exact ⟨rfl, kC.trans m3⟩

set_option maxRecDepth 100000 in
set_option maxHeartbeats 8000000 in
theorem good (w : World) (n : Nat) (b0 : Option Addr) (c0 : Nat) (x0 : List ArcD) (h0 : SlAt w b0 (arcsCells x0)) (hs : Sound n x0) (b1 : Option Addr) (c1 : Nat) (x1 : List RowD) (h1 : SlAt w b1 (x1.map RowD.val)) (r1 : ∀ r ∈ x1, SlAt w r.a (Is r.xs)) (l1 : x1.length ≤ maxLen) (t1 : tot x1 ≤ 1048576) :
    Calls Try.prog 5 #[.agg #[I n, .slice b0 x0.length c0], .slice b1 x1.length c1] w fun e w' => e = .returned (.bool true) ∧ New w w' := by
  have hM := hs.m
  have hN := hs.n2
  have hN1 := hs.n1
  unfold maxLen at l1
  have HR := Lib.hid r1
  clear r1
  go_enter Try.func5, Try.ntmps5
  have kA : New w (w.alloc (.cells #[I n, .slice b0 x0.length c0] 24)) := (New.refl w).alloc _
  have a0 : (w.alloc (.cells #[I n, .slice b0 x0.length c0] 24)).cell? ⟨w.heap.size, 0, none⟩ = some (I n) := by simp
  have a1 : (w.alloc (.cells #[I n, .slice b0 x0.length c0] 24)).cell? ⟨w.heap.size, 1, none⟩ = some (.slice b0 x0.length c0) := by simp
  go_wp2_with fail
  generalize w.alloc (.cells #[I n, .slice b0 x0.length c0] 24) = wA at kA a0 a1 ⊢
  refine (new_any _ n x0 _ _ hs (h0.new kA)).mono ?_
  rintro e w1 ⟨p, rfl, sp1, lp, m1⟩
  go_wp2_with fail
  go_loopw [7] (fun i wr => ∃ k : Nat, k ≤ x1.length ∧ i = .int .i64 k ∧ ∃ sk, St wr p n x0 sk ∧ Eqn x0 sk ∧ Pos x0 sk ∧ New wA wr ∧ Bd (256 + 12288 * (tot (x1.take k) : Int)) sk) (fun i _ => x1.length - (intOf i).toNat)
  case atStart => exact ⟨0, Nat.zero_le _, rfl, start x0 n, sp1, eqn_start _ _, pos_start hs, m1, by have := bd_start hs; simpa [tot] using this⟩
  case round =>
    clear sp1 m1
    obtain ⟨k, hk, rfl, sk, hst, hEq, hPo, hnew, hbd⟩ := hrel
    have hI := Lib.hid (And.intro hEq hPo)
    clear hEq hPo
    by_cases hk1 : k < x1.length
    · obtain ⟨b, off, rfl, q⟩ := ((h1.new kA).new hnew).at (i := k) (by simpa using hk1)
      have hrow := HR.out x1[k] (List.getElem_mem hk1)
      have htot := tot_take_succ x1 k hk1
      have htl := tot_take_le x1 (k + 1)
      simp only [List.getElem_map] at q
      generalize x1[k] = r at q hrow htot
      obtain ⟨ra, rc, xs⟩ := r
      simp only [RowD.val] at q hrow htot
      have hk0 : (k : Int) < (x1.length : Int) := by omega
      have hxs : xs.length ≤ 1048576 := by omega
      have htk : tot (x1.take k) + xs.length ≤ 1048576 := by omega
      have HT := Lib.hid htot
      clear htot
      have hsz := hst.sz
      have hbd0 := hbd
      go_wp2_with fail
      refine (fired_any _ p n x0 sk hst hN).mono ?_
      rintro e w2 ⟨a2, c2, rfl, o2, m2⟩
      have hfl0 := hst.fLen
      obtain ⟨g2, rfl, hg2, hg2'⟩ := own_addr' o2 (by omega)
      clear hfl0
      have st2 := hst.new m2
      have n2 := hnew.trans m2
      have q2 := m2.cell q
      clear hst hnew q m2
      obtain ⟨s', hs'⟩ : ∃ s', (fireS x0 n sk xs).2 = s' := ⟨_, rfl⟩
      obtain ⟨f, hf⟩ : ∃ f, (fireS x0 n sk xs).1 = f := ⟨_, rfl⟩
      have hfl : f ≤ xs.length := by rw [← hf]; exact fireS_le _ _ _ _
      have hfb := fire_bump x0 n xs sk
      rw [hf, hs'] at hfb
      have hinv := inv_fire hs xs sk st2.fits hI.out.1 hI.out.2
      rw [hs'] at hinv
      have HS := Lib.hid hs'
      have HF := Lib.hid hf
      have HFB := Lib.hid hfb
      have HINV := Lib.hid hinv
      clear hs' hf hfb hinv hI
      go_wp2_with fail
      refine (fire_old wA _ p n x0 sk ra rc xs _ st2 hs (hrow.new kA) n2 lp hbd (by omega) (by omega)).mono ?_
      rw [HF.out, HS.out]
      rintro e w3 ⟨rfl, st3, ky3, n3, bd3⟩
      have rt := st2.rt
      have rf := st2.rf
      have z23 := ky3.size
      have o3 : OwnI w3 wr.heap.size (some ⟨g2, 0, none⟩) c2 sk.fired := ky3.owns o2 (fun x hx e => by have := (World.ownsRow.lt o2 x hx).1; omega)
      have q3 : w3.cell? ⟨b, off + k, none⟩ = some (.slice ra xs.length rc) := by
        refine ky3.cell q2 (fun hb => ?_)
        obtain ⟨bb, oo, e1, cc1⟩ := h1.at (i := k) (by simpa using hk1)
        cases e1
        have e2 := World.block_lt_of_cell? w _ cc1
        have e3 := kA.size
        simp only at e2 hb
        omega
      clear st2 ky3 n2 o2 q2 rt rf hbd
      go_wp2_with fail
      refine (fired_any _ p n x0 s' st3 hN).mono ?_
      rintro e w4 ⟨a4, c4, rfl, o4, m4⟩
      have st4 := st3.new m4
      have n4 := n3.trans m4
      have o34 := o3.new m4
      have q4 := m4.cell q3
      have z34 := m4.size
      clear st3 n3 o3 q3 m4
      go_wp2_with fail
      refine (counts_any _ p n x0 s' st4 hM).mono ?_
      rintro e w5 ⟨a5, c5, rfl, o5, m5⟩
      have st5 := st4.new m5
      have n5 := n4.trans m5
      have o35 := o34.new m5
      have o45 := o4.new m5
      have q5 := m5.cell q4
      have z45 := m5.size
      have b05 := n5.cell a0
      have b15 := n5.cell a1
      have hT := st5.tLen
      have hFl := st5.fLen
      have hFk := o35
      have LT := Lib.hid hT
      have LF := Lib.hid hFl
      have d4 : decide ((f : Int) < 0) = false := decide_eq_false (by omega)
      have d5 : decide (xs.length < f) = false := decide_eq_false (by omega)
      have d1 : ((s'.fired.length : Int) != (n : Int)) = false := by simp; omega
      have d2 : ((s'.toks.length : Int) != (x0.length : Int)) = false := by simp; omega
      have hLk : sk.fired.length = n := by have := (HFB.out).1; have e : s'.fired.length = sk.fired.length := by rw [this, bump_len]
                                           omega
      have d3 : ((sk.fired.length : Int) != (n : Int)) = false := by simp; omega
      have LK := Lib.hid hLk
      clear st4 n4 o34 o4 q4 m5 hT hFl hFk hLk
      go_wp2_with fail
      clear d1 d2 d3 d4 d5
      obtain ⟨wo, rfl⟩ : ∃ wo : World, wo = wr := ⟨_, rfl⟩
      have hzA := kA.size
      have hwA : w.heap.size < wA.heap.size := World.block_lt_of_cell? wA _ a0
      have hzlo := st5.rb
      go_loopw [12] (fun i wz => ∃ q : Nat, q ≤ f ∧ i = .int .i64 q ∧ wz.ownsRow wo.heap.size 3 1 (.slice (some ⟨g2, 0, none⟩) sk.fired.length c2) sk.fired.length (Is (bump sk.fired (xs.take q))) ∧ Keeps (fun x => x = g2) w5 wz) (fun i _ => f - (intOf i).toNat)
      case atStart => exact ⟨0, Nat.zero_le _, rfl, by have h := o35; unfold OwnI at h; simpa [bump] using h, Keeps.refl _ _⟩
      case round =>
        clear o35
        obtain ⟨q, hq, rfl, hr, hkz⟩ := hrel
        have hnz : New wA wr := n5.keeps hkz (fun x hx e => by omega)
        by_cases hq1 : q < f
        · obtain ⟨bx, ox, rfl, c6⟩ := Is_at ((hrow.new kA).new hnz) (i := q) (by omega)
          have hvb := HFB.out.2 (xs[q]'(by omega)) (by rw [List.mem_take_iff_getElem]; exact ⟨q, by omega, rfl⟩)
          have hbt := bump_take sk.fired xs q (by omega)
          generalize xs[q]'(by omega) = v at c6 hvb hbt
          obtain ⟨u, rfl⟩ := Int.eq_ofNat_of_zero_le hvb.1
          have hun : u < n := by omega
          have hbb := bump_bd (xs.take q) sk.fired hbd0.2
          have hlen : (bump sk.fired (xs.take q)).length = n := by rw [bump_len, LK.out]
          have hzb := Bd.at hbb (show u < (bump sk.fired (xs.take q)).length by rw [hlen]; exact hun)
          have hc7 := hr.cellAt u (by rw [LK.out]; omega)
          have hfz := hr.frozenAt u
          have hst7 := (hr.stored u (I ((bump sk.fired (xs.take q)).getD u 0 + 1))).1
          rw [show (Is (bump sk.fired (xs.take q))).set u (I ((bump sk.fired (xs.take q)).getD u 0 + 1)) = Is (bump sk.fired (xs.take (q + 1))) by rw [hbt]; simp [List.map_set]] at hst7
          rw [show (Is (bump sk.fired (xs.take q)))[u]? = some (I ((bump sk.fired (xs.take q)).getD u 0)) by simp [show u < (bump sk.fired (xs.take q)).length by omega]] at hc7
          have hkn : Keeps (fun x => x = g2) w5 (wr.setCell ⟨g2, u, none⟩ (I ((bump sk.fired (xs.take q)).getD u 0 + 1))) := hkz.trans (Keeps.setCell (S := fun x => x = g2) wr ⟨g2, u, none⟩ _ rfl) (fun _ _ h => h)
          have H7 := Lib.hid (And.intro hst7 hkn)
          have hql : (xs.take q).length ≤ q := List.length_take_le _ _
          have hz1 : -100000000000000 ≤ (bump sk.fired (xs.take q)).getD u 0 ∧ (bump sk.fired (xs.take q)).getD u 0 ≤ 100000000000000 := by omega
          obtain ⟨hz1, hz2⟩ := hz1
          generalize (bump sk.fired (xs.take q)).getD u 0 = z at hc7 H7 hz1 hz2
          have q5z : wr.cell? ⟨b, off + k, none⟩ = some (.slice (some ⟨bx, ox, none⟩) xs.length rc) := hkz.cell q5 (fun hb => by
            obtain ⟨bb, oo, e1, cc1⟩ := h1.at (i := k) (by simpa using hk1)
            cases e1
            have e2 := World.block_lt_of_cell? w _ cc1
            simp only at e2 hb
            omega)
          have b0z := hkz.cell b05 (fun hb => by simp only at hb; omega)
          have hq0 : (q : Int) < (xs.length : Int) := by omega
          have huI : (u : Int) < (sk.fired.length : Int) := by rw [LK.out]; omega
          have hu0 : (0 : Int) ≤ (u : Int) := by omega
          have huN : (u : Int) < (n : Int) := by omega
          clear hr hkz hst7 hkn hbb hlen hzb hbt hvb hnz hql
          go_wp2
          go_roundw
          case rel => exact ⟨q + 1, by omega, by go_num, H7.out.1, H7.out.2⟩
          case measure => simp [intOf]; omega
        · obtain rfl : q = f := by omega
          rw [← HFB.out.1] at hr
          have o6 : SlAt wr (some ⟨g2, 0, none⟩) (Is s'.fired) := SlAt.of_owns hr
          have o46 : OwnI wr w3.heap.size a4 c4 s'.fired := hkz.owns o45 (fun x hx e => by have := (World.ownsRow.lt o45 x hx).1; omega)
          have o56 : OwnI wr w4.heap.size a5 c5 s'.toks := hkz.owns o5 (fun x hx e => by have := (World.ownsRow.lt o5 x hx).1; omega)
          have st6 : St wr p n x0 s' := st5.keeps hkz (fun x h1 h2 e => by omega)
          have b1z := hkz.cell b15 (fun hb => by simp only at hb; omega)
          clear hr hkz o45 o5 st5 b05 b15 q5 n5
          go_wp2_with fail
          refine (sameI _ _ _ s'.fired s'.fired _ _ _ _ true o6 o46.sl (by rw [LF.out, LK.out]) rfl (by simp) (by rw [LK.out]; omega)).mono ?_
          rintro e w7 ⟨rfl, m7⟩
          have n7 := hnz.trans m7
          have st7 := st6.new m7
          have o47 := o46.new m7
          have o57 := o56.new m7
          have b17 := m7.cell b1z
          clear o6 o46 o56 st6 b1z hnz m7
          go_wp2_with fail
          go_loopw [14] (fun i wy => ∃ j : Nat, j ≤ s'.toks.length ∧ i = .int .i64 j ∧ New w7 wy) (fun i _ => s'.toks.length - (intOf i).toNat)
          case atStart => exact ⟨0, Nat.zero_le _, rfl, New.refl _⟩
          case round =>
            obtain ⟨j, hj, rfl, hny⟩ := hrel
            have LTo := LT.out
            have hj2 : s'.toks.length ≤ x0.length := by omega
            have hj3 : x0.length ≤ s'.toks.length := by omega
            clear LTo
            by_cases hj1 : j < s'.toks.length
            · obtain ⟨ba, oa, rfl, y0, y1, y2, y3, y4⟩ := arcs_at (((h0.new kA).new n7).new hny) (show j < x0.length by omega)
              have hjx : j < x0.length := by omega
              have hat : x0[j]'hjx = arcAt x0 j := by simp [arcAt, hjx]
              rw [hat] at y0 y1 y2 y3 y4
              clear hat
              have hE := HINV.out.1 j hjx
              have hP := HINV.out.2 j hjx
              have hmem := hs.fr _ (arcAt_mem hjx)
              have hmem2 := hs.dst _ (arcAt_mem hjx)
              have hg := hs.give _ (arcAt_mem hjx)
              have ht := hs.take _ (arcAt_mem hjx)
              have hst0 := hs.start _ (arcAt_mem hjx)
              have hct := (o57.new hny).sl
              have hft := (o47.new hny).sl
              obtain ⟨bc, oc, rfl, z0⟩ := Is_at hct hj1
              have hzt : s'.toks[j] = s'.toks.getD j 0 := by simp [hj1]
              rw [hzt] at z0
              clear hzt hct
              have hbT := Bd.at bd3.1 hj1
              generalize s'.toks.getD j 0 = tj at z0 hE hP hbT
              generalize arcAt x0 j = x at y0 y1 y2 y3 y4 hE hmem hmem2 hg ht hst0
              obtain ⟨fr, hfr, hfrn⟩ : ∃ fr : Nat, x.fr = fr ∧ fr < n := ⟨x.fr.toNat, by omega, by omega⟩
              obtain ⟨ds, hds, hdsn⟩ : ∃ ds : Nat, x.dst = ds ∧ ds < n := ⟨x.dst.toNat, by omega, by omega⟩
              rw [hfr] at y0 hE
              rw [hds] at y1 hE
              simp only [Int.toNat_natCast] at hE
              have hL1 : fr < s'.fired.length := by rw [LF.out]; exact hfrn
              have hL2 : ds < s'.fired.length := by rw [LF.out]; exact hdsn
              obtain ⟨bd, od, rfl, z1⟩ := Is_at hft hL1
              obtain ⟨bd', od', e9, z2⟩ := Is_at hft hL2
              cases e9
              have hb1 := Bd.at bd3.2 hL1
              have hb2 := Bd.at bd3.2 hL2
              rw [show s'.fired[fr] = s'.fired.getD fr 0 by simp [hL1]] at z1
              rw [show s'.fired[ds] = s'.fired.getD ds 0 by simp [hL2]] at z2
              generalize s'.fired.getD fr 0 = F1 at z1 hE hb1
              generalize s'.fired.getD ds 0 = F2 at z2 hE hb2
              have hP1 : -10000000000000 ≤ x.give * F1 ∧ x.give * F1 ≤ 10000000000000 := prod_bd (by omega) (by omega)
              have hP2 : -10000000000000 ≤ x.take * F2 ∧ x.take * F2 ≤ 10000000000000 := prod_bd (by omega) (by omega)
              have hsum : tj = x.start + x.give * F1 - x.take * F2 := hE
              have hd1 : decide (tj < 0) = false := decide_eq_false (by omega)
              have hd2 : (tj != x.start + x.give * F1 - x.take * F2) = false := by simpa using hsum
              have w1' : IntKind.i64.wrap (x.give * F1) = x.give * F1 := IntWalk.i64_in _ (by omega)
              have w2' : IntKind.i64.wrap (x.take * F2) = x.take * F2 := IntWalk.i64_in _ (by omega)
              have w3' : IntKind.i64.wrap (x.start + x.give * F1) = x.start + x.give * F1 := IntWalk.i64_in _ (by omega)
              have w4' : IntKind.i64.wrap (x.start + x.give * F1 - x.take * F2) = x.start + x.give * F1 - x.take * F2 := IntWalk.i64_in _ (by omega)
              have hfI : (fr : Int) < (s'.fired.length : Int) := by omega
              have hdI : (ds : Int) < (s'.fired.length : Int) := by omega
              have hj0 : (j : Int) < (s'.toks.length : Int) := by omega
              have hjx0 : (j : Int) < (x0.length : Int) := by omega
              have b1y := hny.cell b17
              clear hE hsum hP hmem hmem2 hg ht hst0 hbT hb1 hb2 hP1 hP2 hfr hds hft
              go_wp2
              have kb : New wr (wr.alloc (.cells #[.int .i64 fr, .int .i64 ds, .int .i64 x.give, .int .i64 x.take, .int .i64 x.start] 36)) := (New.refl wr).alloc _
              have z0' := kb.cell z0
              have z1' := kb.cell z1
              have z2' := kb.cell z2
              have hny' := hny.trans kb
              have g0 : (wr.alloc (.cells #[.int .i64 fr, .int .i64 ds, .int .i64 x.give, .int .i64 x.take, .int .i64 x.start] 36)).cell? ⟨wr.heap.size, 0, none⟩ = some (.int .i64 fr) := by simp
              have g1 : (wr.alloc (.cells #[.int .i64 fr, .int .i64 ds, .int .i64 x.give, .int .i64 x.take, .int .i64 x.start] 36)).cell? ⟨wr.heap.size, 1, none⟩ = some (.int .i64 ds) := by simp
              have g2' : (wr.alloc (.cells #[.int .i64 fr, .int .i64 ds, .int .i64 x.give, .int .i64 x.take, .int .i64 x.start] 36)).cell? ⟨wr.heap.size, 2, none⟩ = some (.int .i64 x.give) := by simp
              have g3 : (wr.alloc (.cells #[.int .i64 fr, .int .i64 ds, .int .i64 x.give, .int .i64 x.take, .int .i64 x.start] 36)).cell? ⟨wr.heap.size, 3, none⟩ = some (.int .i64 x.take) := by simp
              have g4 : (wr.alloc (.cells #[.int .i64 fr, .int .i64 ds, .int .i64 x.give, .int .i64 x.take, .int .i64 x.start] 36)).cell? ⟨wr.heap.size, 4, none⟩ = some (.int .i64 x.start) := by simp
              clear kb z0 z1 z2 y0 y1 y2 y3 y4 b1y
              generalize wr.alloc (.cells #[.int .i64 fr, .int .i64 ds, .int .i64 x.give, .int .i64 x.take, .int .i64 x.start] 36) = W5 at z0' z1' z2' hny' g0 g1 g2' g3 g4 ⊢
              go_quiet (fail)
              go_wp2
              go_roundw
              case rel => exact ⟨j + 1, by omega, by go_num, hny'.drewN _⟩
              case measure => simp [intOf]; omega
            · go_wp2
              have htt : 256 + 12288 * (tot (x1.take (k + 1)) : Int) = 256 + 12288 * (tot (x1.take k) : Int) + 12288 * xs.length := by rw [HT.out]; omega
              go_roundw
              case rel => exact ⟨k + 1, by omega, by go_num, s', st7.new hny, HINV.out.1, HINV.out.2, n7.trans hny, by rw [htt]; exact bd3⟩
              case measure => simp [intOf]; omega
    · go_wp2_with fail
      refine (awake_any _).mono ?_
      rintro e w9 ⟨rfl, m9⟩
      go_wp2
      go_ret
      exact ⟨rfl, (kA.trans hnew).trans m9⟩

theorem walk (w : World) (n0 : Int) (b0 : Option Addr) (c0 : Nat) (x0 : List ArcD) (h0 : SlAt w b0 (arcsCells x0)) (l0 : x0.length ≤ maxLen) (b1 : Option Addr) (c1 : Nat) (x1 : List RowD) (h1 : SlAt w b1 (x1.map RowD.val)) (r1 : ∀ r ∈ x1, SlAt w r.a (Is r.xs)) (l1 : x1.length ≤ maxLen) (t1 : tot x1 ≤ 1048576) :
    Calls Try.prog 5 #[.agg #[I n0, .slice b0 x0.length c0], .slice b1 x1.length c1] w fun e w' => e = .returned (.bool true) ∧ New w w' := by
  by_cases he : netErr n0 x0 = 0
  · obtain ⟨n, rfl, hs⟩ := sound_of he
    exact good w n b0 c0 x0 h0 hs b1 c1 x1 h1 r1 l1 t1
  · exact bad w n0 b0 c0 x0 h0 l0 he b1 c1 _
set_option maxRecDepth 100000 in
theorem lifted (os : Os) (started : os.Started) (H : Type) (enc : TypeId × Value → H) (F : Stop.Interp) :
    ReturnsInHanded {} Try.checked os 5 .any ((Rows.OpenSpec.upto Rows.netEquationSpec).pre6 enc Try.prog Try.f5 Rows.netEquationUptoRow.domain false) (((Rows.OpenSpec.upto Rows.netEquationSpec).at F).post enc Try.prog Try.f5 false true false false) := by
  refine returnsInHanded_of_cond (C := Try.checked) (s := Rows.OpenSpec.upto Rows.netEquationSpec) (k := Rows.uptoSmall) rfl own started (by kernel_rfl) Try.func5
    (OpenSpec.witness (enc := enc) (C := Try.checked) (s := Rows.OpenSpec.upto Rows.netEquationSpec) (k := Rows.uptoSmall) rfl false ⟨#[], #[.agg #[.int .i64 0, .slice none 0 0], .slice none 0 0], []⟩ 8 (by kernel_rfl) (by kernel_rfl) (by kernel_rfl)
      (x := ([.agg [.lit (.int .i64 0), .nil], .nil], [], [])) (by kernel_rfl) rfl (by kernel_rfl)) ?_
  intro W base args ds gs before hval0 hW hcnd hk _
  have hval : ∀ (j : Nat) t v, Try.f5.params[j]? = some t → args[j]? = some v → Value.okWide Try.prog W .any base t v := hval0
  have hW' := hW
  obtain ⟨p, q, hA0, hV, rfl, hfz, hnd⟩ := hW
  have hA : DataW.TrodAll enc Try.prog W 0 (fun _ => true) true Try.f5.params.toList args.toList ds p := hA0
  rw [Try.params5] at hA hval
  obtain ⟨v0, vs0, d0, ds0, p0, q0, hargs, rfl, rfl, h0, r0'⟩ := trodAll_cons hA
  obtain ⟨v1, vs1, d1, ds1, p1, q1, rfl, rfl, rfl, h1, r1'⟩ := trodAll_cons r0'
  obtain ⟨rfl, rfl, rfl⟩ := trodAll_nil r1'
  obtain rfl : args = #[v0, v1] := by cases args; simp_all
  obtain ⟨rfl, rfl⟩ := trodVars_none hV
  have bnd := bulks.bound hk
  simp only [List.append_nil] at bnd
  have mem0 : d0 ∈ ([d0, d1] : List (DataW H)) := by simp
  have mem1 : d1 ∈ ([d0, d1] : List (DataW H)) := by simp
  have k0 := h0
  have lt0 : ∀ x ∈ p0, x.block < W.heap.size := by obtain ⟨m, hm⟩ := k0; exact DataW.trod_lt m _ _ _ hm
  have k1 := h1
  have lt1 : ∀ x ∈ p1, x.block < W.heap.size := by obtain ⟨m, hm⟩ := k1; exact DataW.trod_lt m _ _ _ hm
  obtain ⟨n0, b0, c0, x0, rfl, w0, sl0, l0, e00, e01, rfl, dd0⟩ := read_net (hval 0 24 v0 rfl rfl) h0
  obtain ⟨b1, n1, c1, rfl⟩ := okWide_slice Try.underlying49 (hval 1 49 v1 rfl rfl)
  obtain ⟨x1, rfl, sl1, r1, l1, dd1⟩ := read_rows h1
  have t1' : tot x1 ≤ 1048576 := by
    have hm := bulks.part_le (show d1 ∈ _ from mem1)
    omega
  clear hA0 hval0
  refine (walk W n0 b0 c0 x0 sl0 l0 b1 c1 x1 sl1 r1 l1 t1').mono fun e W' ⟨he, hnew⟩ => ?_
  have bel := hnew.below
  subst he
  exact ⟨_, rfl, _, _, _, [], _, [], hW', trodAll_mk1 (shut_bool Try.underlying4 _), (trodAll_cons_mk (Below.trod laidOut (by kernel_rfl) (of_decide_eq_true (by kernel_rfl)) k0 bel lt0) (trodAll_cons_mk (Below.trod laidOut (by kernel_rfl) (of_decide_eq_true (by kernel_rfl)) k1 bel lt1) trodAll_mk0)), rfl, bel.frame _, fun h => by cases h⟩

theorem over : Rows.netEquationUptoRow.holds Try.pinned (Rows.OpenSpec.upto Rows.netEquationSpec) :=
  OpenClaim.holds_of_cond 5 Try.f5 rfl rfl rfl rfl rfl rfl rfl ⟨rfl, rfl, rfl, rfl, rfl⟩ rfl rfl rfl rfl rfl (by kernel_rfl) Try.func5 (by kernel_rfl)
    (of_decide_eq_true (by kernel_rfl)) (by unfold Func.isWrapper; first | (rw [if_pos (by decide +kernel)]; kernel_rfl) | (rw [if_neg (by decide +kernel)]; exact ⟨rfl, rfl⟩))
    (fun os started H enc _ F => lifted os started H enc F)

/-- THE STATEMENT. -/
theorem proved : Rows.NetEquationUptoSaid := over
end Go.Proofs.Ytijlgcbnoekmeaa.netEquation
