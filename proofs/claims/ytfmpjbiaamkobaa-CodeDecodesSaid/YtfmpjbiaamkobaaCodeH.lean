/-
  Layer 20: the document's answer: steps, Check.
-/
import Derived.Test.YtfmpjbiaamkobaaCodeG
namespace Go.Proofs.Ytfmpjbiaamkobaa
open Go Go.RowKit
set_option linter.all false

theorem rsteps_any (w : World) (p : Pg) (hno : p.ops.length ≤ 131072) (hB : ∀ o ∈ p.ops, o.kind = 1 → 1 ≤ o.b ∧ o.b ≤ 2048) (hx : SlAt w p.oa (p.ops.flatMap opCells)) :
    Calls Try.prog 29 #[p.v] w fun e w' => e = .returned (I (rowsS p.ops p.ops.length 0).1) ∧ New w w' := by
  have h := rrows_any p hno hB p.ops.length (w.alloc (.cells p.cs 26)) 0 hno (by omega) (by omega) (hx.new (Keeps.alloc _ _))
  generalize rowsS p.ops p.ops.length 0 = r at h ⊢
  simp only [Pg.v, Pg.cs] at h ⊢
  clear hB hx
  go_enter Try.func29, Try.ntmps29
  go_wp2_with fail
  refine h.mono ?_
  rintro e w' ⟨rfl, hn⟩
  go_wp2
  go_ret
  exact ⟨rfl, New.trans (Keeps.alloc _ _) hn⟩

set_option maxRecDepth 100000 in
set_option maxHeartbeats 8000000 in
theorem rcheck_big (w : World) (p : Pg) (hl : Lens p) (r : Int) (hr : (stepsR p).2 = r)
    (hs : ¬ ((0 ≤ p.mem ∧ p.mem ≤ 1024) ∧ (0 ≤ p.ctr ∧ p.ctr ≤ 17) ∧ (0 ≤ p.ins ∧ p.ins ≤ 16) ∧ (0 ≤ p.outs ∧ p.outs ≤ 16) ∧ p.parts.length ≤ 32 ∧ p.lines.length ≤ 96 ∧ p.ops.length ≤ 131072)) :
    Calls Try.prog 14 #[p.v] w fun e w' => e = .returned (I r) ∧ New w w' := by
  have hsm : (if ¬ (0 ≤ p.mem ∧ p.mem ≤ 1024) then (1 : Int) else if ¬ (0 ≤ p.ctr ∧ p.ctr ≤ 17) then 1 else if ¬ (0 ≤ p.ins ∧ p.ins ≤ 16) then 1 else if ¬ (0 ≤ p.outs ∧ p.outs ≤ 16) then 1 else if 32 < p.parts.length then 81 else if 96 < p.lines.length then 81 else if 131072 < p.ops.length then 81 else 0) = r := by
    rw [← hr]; unfold stepsR
    (repeat' split) <;> first | rfl | omega
  have hr0 : r ≠ 0 := by rw [← hsm]; (repeat' split) <;> omega
  have h := rsmall_any (w.alloc (.cells p.cs 26)) p hl r hsm
  have e0 : (r != 0) = true := by simpa using hr0
  simp only [Pg.v, Pg.cs] at h ⊢
  clear hr hs hsm hr0 hl
  go_enter Try.func14, Try.ntmps14
  go_wp2_with fail
  refine h.mono ?_
  rintro e w' ⟨rfl, hn⟩
  go_wp2
  go_ret
  exact ⟨rfl, New.trans (Keeps.alloc _ _) hn⟩

theorem walkL_all {L : Lims} {ops : List OpD} : ∀ (r : List OpD) (i : Nat) (fr t : List Nat), walkL L ops r i fr = .ok t → ∀ (k : Nat) (hk : k < r.length), okOp L (i + k) r[k] = true := by
  intro r
  induction r with
  | nil => intro i fr t h k hk; simp at hk
  | cons o r ih =>
    intro i fr t h k hk
    unfold walkL at h
    cases hs : stepL L ops i o fr with
    | error e => rw [hs] at h; cases h
    | ok q =>
      rw [hs] at h
      cases k with
      | zero =>
        simp only [Nat.add_zero, List.getElem_cons_zero]
        unfold stepL at hs
        by_cases h0 : okOp L i o = false
        · rw [if_pos h0] at hs; cases hs
        · simpa using h0
      | succ k =>
        simp only [List.getElem_cons_succ]
        have := ih (i + 1) q t h k (by simpa using hk)
        rw [show i + (k + 1) = i + 1 + k by omega]
        exact this
theorem heads_ok {L : Lims} {ops : List OpD} (h : loopsE L ops = 0) : ∀ o ∈ ops, o.kind = 1 → 1 ≤ o.b ∧ o.b ≤ 2048 := by
  intro o ho h1
  obtain ⟨k, hk, rfl⟩ := List.getElem_of_mem ho
  unfold loopsE at h
  cases hw : walkL L ops ops 0 [] with
  | error e =>
    rw [hw] at h
    simp only at h
    subst h
    exfalso
    have key : ∀ (r : List OpD) (i : Nat) (fr : List Nat), walkL L ops r i fr ≠ .error 0 := by
      intro r
      induction r with
      | nil => intro i fr h; cases h
      | cons o r ih =>
        intro i fr h
        unfold walkL at h
        cases hs : stepL L ops i o fr with
        | ok q => rw [hs] at h; exact ih _ _ h
        | error e' =>
          rw [hs] at h
          simp only [Except.error.injEq] at h
          subst h
          unfold stepL at hs
          revert hs
          (repeat' split) <;> simp
    exact key _ _ _ hw
  | ok t =>
    have := walkL_all ops 0 [] t hw k hk
    have h2 := okOp_head this h1
    exact ⟨h2.2.2.1, h2.2.2.2⟩

set_option maxRecDepth 100000 in
set_option maxHeartbeats 8000000 in
theorem rcheck_body (w : World) (p : Pg) (hb : Bnd p) (hm : 0 ≤ p.mem ∧ p.mem ≤ 1024) (hp : PgAt w p) (hl : Lens p)
    (r : Int) (hr : (stepsR p).2 = r) :
    Calls Try.prog 14 #[p.v] w fun e w' => e = .returned (I r) ∧ New w w' := by
  have hlp : ∀ w1, New w w1 → Calls Try.prog 28 #[.agg #[I p.mem, I p.ctr, I p.ins, I p.outs, .slice p.pa p.parts.length p.pc, .slice p.la p.lines.length p.lc, .slice p.oa p.ops.length p.oc]] w1 fun e w' => e = .returned (I (loopsE p.lims p.ops)) ∧ New w1 w' :=
    fun w1 k => rloops_any w1 p hb (hp.new k)
  have hst : loopsE p.lims p.ops = 0 → ∀ w1, New w w1 → Calls Try.prog 29 #[.agg #[I p.mem, I p.ctr, I p.ins, I p.outs, .slice p.pa p.parts.length p.pc, .slice p.la p.lines.length p.lc, .slice p.oa p.ops.length p.oc]] w1 fun e w' => e = .returned (I (rowsS p.ops p.ops.length 0).1) ∧ New w1 w' :=
    fun h0 w1 k => rsteps_any w1 p hb.no (heads_ok h0) (hp.po.new k)
  have hsl := rsmall_any (w.alloc (.cells p.cs 26)) p hl 0 (by
    obtain ⟨c0, c1, i0, i1, o0, o1, np, nl, no⟩ := hb
    rw [if_neg (by simp [hm]), if_neg (by simp [c0, c1]), if_neg (by simp [i0, i1]), if_neg (by simp [o0, o1]), if_neg (by omega), if_neg (by omega), if_neg (by omega)])
  have hxl := hl.px
  have hyl := hl.lx
  have hpp := hp.pp
  have hpl := hp.pl
  have hpx := hp.px
  obtain ⟨c0, c1, i0, i1, o0, o1, np, nl, no⟩ := hb
  unfold stepsR at hr
  rw [if_neg (by simp [hm]), if_neg (by simp [c0, c1]), if_neg (by simp [i0, i1]), if_neg (by simp [o0, o1]), if_neg (by omega), if_neg (by omega), if_neg (by omega), walkR_eq] at hr
  have HR := Lib.hid hr
  have HLP := Lib.hid hlp
  have HST := Lib.hid hst
  clear hr hp hl hlp hst
  generalize loopsE p.lims p.ops = le at HLP HST HR
  generalize (rowsS p.ops p.ops.length 0).1 = st at HST HR
  obtain ⟨pmem, pctr, pins, pouts, ppa, ppc, pparts, pla, plc, plines, poa, poc, ops⟩ := p
  simp only at *
  simp only [Pg.v, Pg.cs] at hsl ⊢
  obtain ⟨hm0, hm1⟩ := hm
  clear c0 c1 i0 i1 o0 o1
  go_enter Try.func14, Try.ntmps14
  go_wp2_with fail
  refine hsl.mono ?_
  rintro e w' ⟨rfl, hn⟩
  have hN0 : New w w' := New.trans (Keeps.alloc _ _) hn
  have b0 : w'.cell? ⟨w.heap.size, 0, none⟩ = some (I pmem) := hn.cell (by simp)
  have b1 : w'.cell? ⟨w.heap.size, 1, none⟩ = some (I pctr) := hn.cell (by simp)
  have b2 : w'.cell? ⟨w.heap.size, 2, none⟩ = some (I pins) := hn.cell (by simp)
  have b3 : w'.cell? ⟨w.heap.size, 3, none⟩ = some (I pouts) := hn.cell (by simp)
  have b4 : w'.cell? ⟨w.heap.size, 4, none⟩ = some (.slice ppa pparts.length ppc) := hn.cell (by simp)
  have b5 : w'.cell? ⟨w.heap.size, 5, none⟩ = some (.slice pla plines.length plc) := hn.cell (by simp)
  have b6 : w'.cell? ⟨w.heap.size, 6, none⟩ = some (.slice poa ops.length poc) := hn.cell (by simp)
  have hz0 : w.heap.size < w'.heap.size := by have := hn.size; simp at this; omega
  clear hsl hn
  go_wp2_with fail
  obtain ⟨W0, rfl⟩ : ∃ W0 : World, W0 = w' := ⟨_, rfl⟩
  go_loopw [4] (fun i wr => ∃ k : Nat, k ≤ pparts.length ∧ i = .int .i64 k ∧ (∀ j (h : j < pparts.length), j < k → partE pparts[j] = 0) ∧ New W0 wr) (fun i _ => pparts.length - (intOf i).toNat)
  case atStart => exact ⟨0, by omega, rfl, by omega, New.refl _⟩
  case round =>
    obtain ⟨k, hk, rfl, hall, hnew⟩ := hrel
    have HA := Lib.hid hall
    clear hall
    have hsz : w.heap.size < wr.heap.size := by have := hnew.size; omega
    have c0 := hnew.cell b0
    have c4 := hnew.cell b4
    have c5 := hnew.cell b5
    by_cases hk1 : k < pparts.length
    · obtain ⟨b, off, rfl, q0, q1⟩ := parts_at ((hpp.new hN0).new hnew) hk1
      have hxx := ((hpx _ (List.getElem_mem hk1)).new hN0).new hnew
      have hxn := hxl _ (List.getElem_mem hk1)
      have hbad : partE pparts[k] ≠ 0 → r = partE pparts[k] := fun h => by
        rw [← HR.out]
        have := partsE_at hk1 (fun j hj hjk => HA.out j hj hjk) h
        rw [this, if_pos h]
      have hgood : partE pparts[k] = 0 → ∀ j (h : j < pparts.length), j < k + 1 → partE pparts[j] = 0 := fun h j hj hjk => by
        by_cases e : j < k
        · exact HA.out j hj e
        · obtain rfl : j = k := by omega
          exact h
      have hcs : ∀ w1, New wr w1 → Calls Try.prog 27 #[.int .u8 pparts[k].tag, .slice pparts[k].a pparts[k].xs.length pparts[k].c] w1 (Rates w1 (shapeS pparts[k].tag pparts[k].xs)) := fun w1 kk => refOf_any pparts[k].tag pparts[k].a pparts[k].c pparts[k].xs w1 (hxx.new kk) hxn
      have hpe : partE pparts[k] = (shapeS pparts[k].tag pparts[k].xs).1 := rfl
      rw [hpe] at hbad hgood
      generalize shapeS pparts[k].tag pparts[k].xs = sh at hcs hbad hgood
      have HB := Lib.hid hbad
      have HG := Lib.hid hgood
      have hk0 : (k : Int) < (pparts.length : Int) := by omega
      clear hbad hgood hpe hxx
      generalize pparts[k] = x at q0 q1 hcs hxn
      by_cases hz : sh.1 = 0
      · have e0 : (sh.1 != 0) = false := by simpa using hz
        have hG2 := Lib.hid (HG.out hz)
        clear hz
        go_wp2_with fail
        go_region_held3 (fun w' => w'.cell? ⟨w.heap.size, 4, none⟩ = some (.slice (some ⟨b, off, none⟩) pparts.length ppc) ∧ w'.cell? ⟨b, off + k * 2, none⟩ = some (.int .u8 x.tag) ∧ w'.cell? ⟨b, off + k * 2 + 1, none⟩ = some (.slice x.a x.xs.length x.c))
          ((first | (refine ⟨New.cell (w := wr) ?_ c4, New.cell (w := wr) ?_ q0, New.cell (w := wr) ?_ q1⟩ <;> (repeat (first | exact New.refl wr | refine New.drew ?_ | refine New.trans ?_ n2)))))
          ((go_at_call 27; refine (hcs _ ((New.refl wr).drew)).mono ?_; rintro e w2 ⟨a1, ca, a2, cb, rfl, _, _, _, n2⟩))
        have hN2 : New W0 w2 := hnew.trans (((New.refl wr).drew).trans n2)
        simp only [Exit.then]
        go_wp2_with fail
        go_roundw
        case rel => exact ⟨k + 1, by omega, by go_num, hG2.out, hN2⟩
        case measure => simp [intOf]; omega
      · have e0 : (sh.1 != 0) = true := by simpa using hz
        have hB2 := Lib.hid (HB.out hz)
        clear hz
        go_wp2_with fail
        go_region_held3 (fun w' => w'.cell? ⟨w.heap.size, 4, none⟩ = some (.slice (some ⟨b, off, none⟩) pparts.length ppc) ∧ w'.cell? ⟨b, off + k * 2, none⟩ = some (.int .u8 x.tag) ∧ w'.cell? ⟨b, off + k * 2 + 1, none⟩ = some (.slice x.a x.xs.length x.c))
          ((first | (refine ⟨New.cell (w := wr) ?_ c4, New.cell (w := wr) ?_ q0, New.cell (w := wr) ?_ q1⟩ <;> (repeat (first | exact New.refl wr | refine New.drew ?_ | refine New.trans ?_ n2)))))
          ((go_at_call 27; refine (hcs _ ((New.refl wr).drew)).mono ?_; rintro e w2 ⟨a1, ca, a2, cb, rfl, _, _, _, n2⟩))
        have hN2 : New W0 w2 := hnew.trans (((New.refl wr).drew).trans n2)
        simp only [Exit.then]
        go_wp2
        go_ret
        exact ⟨ret_i hB2.out.symm, hN0.trans hN2⟩
    · have hke : k = pparts.length := by omega
      have hpz : partsE pparts = 0 := partsE_all (fun j hj => HA.out j hj (by omega))
      have HR2 : (if linesE pmem plines ≠ 0 then (0, linesE pmem plines) else if le = 0 then if 131072 < st then (0, 5) else (st, 0) else (0, le)).2 = r := by
        have h := HR.out
        rw [if_neg (nnot hpz)] at h
        exact h
      have HQ := Lib.hid HR2
      clear hke hpz HR2 HR HA hpp hpx hxl
      go_wp2_with fail
      have hsz0 := hsz
      obtain ⟨wo, rfl⟩ : ∃ wo : World, wo = wr := ⟨_, rfl⟩
      clear hk hk1
      go_loopw [8] (fun i wr => ∃ k : Nat, k ≤ plines.length ∧ i = .int .i64 k ∧ (∀ j (h : j < plines.length), j < k → lineE pmem plines[j] = 0) ∧ New wo wr) (fun i _ => plines.length - (intOf i).toNat)
      case atStart => exact ⟨0, by omega, rfl, by omega, New.refl _⟩
      case round =>
        obtain ⟨k, hk, rfl, hall, hnew2⟩ := hrel
        have HA := Lib.hid hall
        clear hall
        have hsz : w.heap.size < wr.heap.size := by have := hnew2.size; omega
        have e0 := hnew2.cell c0
        have e5 := hnew2.cell c5
        by_cases hk1 : k < plines.length
        · obtain ⟨b, off, rfl, q0, q1, q2⟩ := lines_at (((hpl.new hN0).new hnew).new hnew2) hk1
          have hxn := hyl _ (List.getElem_mem hk1)
          have hbad : lineE pmem plines[k] ≠ 0 → r = lineE pmem plines[k] := fun h => by
            rw [← HQ.out]
            have := linesE_at hk1 (fun j hj hjk => HA.out j hj hjk) h
            rw [this, if_pos h]
          have hgood : lineE pmem plines[k] = 0 → ∀ j (h : j < plines.length), j < k + 1 → lineE pmem plines[j] = 0 := fun h j hj hjk => by
            by_cases e : j < k
            · exact HA.out j hj e
            · obtain rfl : j = k := by omega
              exact h
          have HB := Lib.hid hbad
          have HG := Lib.hid hgood
          have hk0 : (k : Int) < (plines.length : Int) := by omega
          clear hbad hgood
          generalize plines[k] = x at q0 q1 q2 hxn HB HG
          have hN2 : New w (wr.alloc (.cells #[I x.base, I x.size] 47)) := ((hN0.trans hnew).trans hnew2).alloc _
          have hN3 : New wo (wr.alloc (.cells #[I x.base, I x.size] 47)) := hnew2.alloc _
          have hle : lineE pmem x = if x.base < 0 then 190 else if x.size < 0 then 190 else if pmem < x.base then 190 else if pmem - x.base < x.size then 190 else if x.size < (x.xs.length : Int) then 88 else 0 := by
            unfold lineE; (repeat' split) <;> first | rfl | omega
          have HLE := Lib.hid hle
          clear hle
          by_cases z1 : x.base < 0
          · have hz : lineE pmem x = 190 := by rw [HLE.out, if_pos z1]
            have HZ := Lib.hid (HB.out (by rw [hz]; decide))
            have HZ2 := Lib.hid hz
            clear hz
            go_wp2
            go_ret
            exact ⟨ret_i (by rw [HZ.out, HZ2.out]), hN2⟩
          by_cases z2 : x.size < 0
          · have hz : lineE pmem x = 190 := by rw [HLE.out, if_neg z1, if_pos z2]
            have HZ := Lib.hid (HB.out (by rw [hz]; decide))
            have HZ2 := Lib.hid hz
            clear hz
            go_wp2
            go_ret
            exact ⟨ret_i (by rw [HZ.out, HZ2.out]), hN2⟩
          by_cases z3 : pmem < x.base
          · have hz : lineE pmem x = 190 := by rw [HLE.out, if_neg z1, if_neg z2, if_pos z3]
            have HZ := Lib.hid (HB.out (by rw [hz]; decide))
            have HZ2 := Lib.hid hz
            clear hz
            go_wp2
            go_ret
            exact ⟨ret_i (by rw [HZ.out, HZ2.out]), hN2⟩
          have hsub : IntKind.i64.wrap (pmem - x.base) = pmem - x.base := IntWalk.i64_in _ (by omega)
          by_cases z4 : pmem - x.base < x.size
          · have hz : lineE pmem x = 190 := by rw [HLE.out, if_neg z1, if_neg z2, if_neg z3, if_pos z4]
            have HZ := Lib.hid (HB.out (by rw [hz]; decide))
            have HZ2 := Lib.hid hz
            clear hz
            go_wp2
            go_ret
            exact ⟨ret_i (by rw [HZ.out, HZ2.out]), hN2⟩
          have al : New wr (wr.alloc (.cells #[I x.base, I x.size] 47)) := (New.refl wr).alloc _
          have e5r := al.cell e5
          have q2r := al.cell q2
          have r1 : (wr.alloc (.cells #[I x.base, I x.size] 47)).cell? ⟨wr.heap.size, 1, none⟩ = some (I x.size) := by simp
          clear al
          by_cases z5 : x.size < (x.xs.length : Int)
          · have hz : lineE pmem x = 88 := by rw [HLE.out, if_neg z1, if_neg z2, if_neg z3, if_neg z4, if_pos z5]
            have HZ := Lib.hid (HB.out (by rw [hz]; decide))
            have HZ2 := Lib.hid hz
            clear hz
            go_wp2_with fail
            go_quiet (fail)
            go_wp2
            go_ret
            exact ⟨ret_i (by rw [HZ.out, HZ2.out]), hN2.drewN _⟩
          · have hz : lineE pmem x = 0 := by rw [HLE.out, if_neg z1, if_neg z2, if_neg z3, if_neg z4, if_neg z5]
            have HZ := Lib.hid (HG.out hz)
            clear hz
            go_wp2_with fail
            go_quiet (fail)
            go_wp2_with fail
            go_roundw
            case rel => exact ⟨k + 1, by omega, by go_num, HZ.out, hN3.drewN _⟩
            case measure => simp [intOf]; omega
        · have hke : k = plines.length := by omega
          have hpz : linesE pmem plines = 0 := linesE_all (fun j hj => HA.out j hj (by omega))
          have HR2 : (if le = 0 then if 131072 < st then ((0 : Int), (5 : Int)) else (st, 0) else (0, le)).2 = r := by
            have h := HQ.out
            rw [if_neg (nnot hpz)] at h
            exact h
          have HQ2 := Lib.hid HR2
          have hNw : New w wr := (hN0.trans hnew).trans hnew2
          have hcl := HLP.out wr hNw
          have g1 := hnew2.cell (hnew.cell b1)
          have g2 := hnew2.cell (hnew.cell b2)
          have g3 := hnew2.cell (hnew.cell b3)
          have g4 := hnew2.cell (hnew.cell b4)
          have g6 := hnew2.cell (hnew.cell b6)
          clear hke hpz HR2 HQ HA
          go_wp2_with fail
          refine hcl.mono ?_
          rintro e w2 ⟨rfl, n2⟩
          by_cases hle : le = 0
          · have hcs := HST.out hle w2 (hNw.trans n2)
            have h := HQ2.out
            rw [if_pos hle] at h
            have HQ3 := Lib.hid h
            have l0 : (le != 0) = false := by simpa using hle
            have v0 := n2.cell e0
            have v1 := n2.cell g1
            have v2 := n2.cell g2
            have v3 := n2.cell g3
            have v4 := n2.cell g4
            have v5 := n2.cell e5
            have v6 := n2.cell g6
            clear h hle
            go_wp2_with fail
            refine hcs.mono ?_
            rintro e w3 ⟨rfl, n3⟩
            by_cases hbig : 131072 < st
            · have h := HQ3.out
              rw [if_pos hbig] at h
              have HQ4 := Lib.hid h
              clear h
              go_wp2
              go_ret
              exact ⟨ret_i HQ4.out, (hNw.trans n2).trans n3⟩
            · have h := HQ3.out
              rw [if_neg hbig] at h
              have HQ4 := Lib.hid h
              clear h
              go_wp2
              go_ret
              exact ⟨ret_i HQ4.out, (hNw.trans n2).trans n3⟩
          · have h := HQ2.out
            rw [if_neg hle] at h
            have HQ3 := Lib.hid h
            have l0 : (le != 0) = true := by simpa using hle
            clear h hle
            go_wp2
            go_ret
            exact ⟨ret_i HQ3.out, hNw.trans n2⟩

end Go.Proofs.Ytfmpjbiaamkobaa
