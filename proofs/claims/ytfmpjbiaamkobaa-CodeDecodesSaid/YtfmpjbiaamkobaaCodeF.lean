/-
  Layer 20: the document's answer: the loops.
-/
import Derived.Test.YtfmpjbiaamkobaaCodeE
import Derived.Test.YtfmpjbiaamkobaaMem2
namespace Go.Proofs.Ytfmpjbiaamkobaa
open Go Go.RowKit
set_option linter.all false

set_option maxRecDepth 100000 in
set_option maxHeartbeats 8000000 in
theorem rsmall_any (w : World) (p : Pg) (hl : Lens p) (r : Int) (hr : (if ¬ (0 ≤ p.mem ∧ p.mem ≤ 1024) then (1 : Int) else if ¬ (0 ≤ p.ctr ∧ p.ctr ≤ 17) then 1 else if ¬ (0 ≤ p.ins ∧ p.ins ≤ 16) then 1 else if ¬ (0 ≤ p.outs ∧ p.outs ≤ 16) then 1 else if 32 < p.parts.length then 81 else if 96 < p.lines.length then 81 else if 131072 < p.ops.length then 81 else 0) = r) :
    Calls Try.prog 26 #[p.v] w fun e w' => e = .returned (I r) ∧ New w w' := by
  obtain ⟨hpl, hll, hol, _, _⟩ := hl
  obtain ⟨pmem, pctr, pins, pouts, ppa, ppc, pparts, pla, plc, plines, poa, poc, ops⟩ := p
  simp only at hpl hll hol hr
  simp only [Pg.v, Pg.cs]
  have HR := Lib.hid hr
  clear hr
  go_enter Try.func26, Try.ntmps26
  go_wp2
  all_goals (go_ret; refine ⟨ret_i ?_, by first | exact Keeps.alloc _ _ | exact New.drewN (Keeps.alloc _ _) _⟩; rw [← HR.out]; clear HR)
  all_goals ((repeat' split) <;> omega)

def openI (fr : List Nat) : List Int := fr.reverse.map Int.ofNat
theorem openI_push (k : Nat) (fr : List Nat) : openI (k :: fr) = openI fr ++ [(k : Int)] := by simp [openI]
theorem openI_len (fr : List Nat) : (openI fr).length = fr.length := by simp [openI]
theorem openI_at (fr : List Nat) (q : Nat) (hq : q < fr.length) : (Is (openI fr))[q]? = some (I ((fr.reverse[q]'(by simpa using hq) : Nat) : Int)) := by
  unfold Is openI
  rw [List.getElem?_map, List.getElem?_map, List.getElem?_eq_getElem (by simpa using hq)]
  rfl
theorem walkL_cons {L : Lims} {ops : List OpD} {k : Nat} (hk : k < ops.length) (fr : List Nat) : walkL L ops (ops.drop k) k fr = match stepL L ops k ops[k] fr with | .error e => .error e | .ok τ => walkL L ops (ops.drop (k + 1)) (k + 1) τ := by
  rw [List.drop_eq_getElem_cons hk]; rfl
theorem loopsE_err {L : Lims} {ops : List OpD} {e : Int} (h : walkL L ops ops 0 [] = .error e) : loopsE L ops = e := by unfold loopsE; rw [h]
theorem anyN_rev (l : List Nat) (p : Nat → Bool) : l.any p = l.reverse.any p := by simp
def Opn (w : World) (B : Nat) (v : Value) (fr : List Nat) : Prop := ∃ a c m, fr.length = m ∧ v = .slice a m c ∧ w.ownsRow B 3 1 (.slice a m c) m (Is (openI fr))
theorem openI_top (a : Nat) (r : List Nat) : (Is (openI (a :: r)))[r.length]? = some (I (a : Int)) := by
  rw [openI_push]
  unfold Is
  rw [List.map_append, List.getElem?_append_right (by simp [openI_len])]
  simp [openI_len]
theorem openI_pop (a : Nat) (r : List Nat) : (Is (openI (a :: r))).take (r.length * 1) = Is (openI r) := by
  rw [openI_push]
  unfold Is
  rw [List.map_append, List.take_append_of_le_length (by simp [openI_len]), List.take_of_length_le (by simp [openI_len])]

set_option maxRecDepth 100000 in
set_option maxHeartbeats 8000000 in
theorem rloops_any (w : World) (p : Pg) (hb : Bnd p) (hp : PgAt w p) :
    Calls Try.prog 28 #[p.v] w fun e w' => e = .returned (I (loopsE p.lims p.ops)) ∧ New w w' := by
  have hno := hb.no
  obtain ⟨iI, hiI, hzI, hsI, hbI⟩ := info_parts Try.infoInt
  have hx := hp.po
  have hsd : ∀ w1 i, New w w1 → (hi : i < p.ops.length) → Calls Try.prog 49 #[.agg #[I p.mem, I p.ctr, I p.ins, I p.outs, .slice p.pa p.parts.length p.pc, .slice p.la p.lines.length p.lc, .slice p.oa p.ops.length p.oc], I (i : Int)] w1 fun e w' => e = .returned (.bool (okOp p.lims i p.ops[i])) ∧ New w1 w' :=
    fun w1 i k hi => allow_any w1 p i hb (hx.new k) hi
  clear hb hp
  obtain ⟨L, hL⟩ : ∃ L, p.lims = L := ⟨_, rfl⟩
  rw [hL] at hsd ⊢
  clear hL
  obtain ⟨pmem, pctr, pins, pouts, ppa, ppc, pparts, pla, plc, plines, poa, poc, ops⟩ := p
  simp only at hno hx hsd
  simp only [Pg.v, Pg.cs]
  go_enter Try.func28, Try.ntmps28
  go_wp2_with fail
  have hN0 : New w (w.alloc (.cells #[I pmem, I pctr, I pins, I pouts, .slice ppa pparts.length ppc, .slice pla plines.length plc, .slice poa ops.length poc] 26)) := (New.refl w).alloc _
  have b0 : (w.alloc (.cells #[I pmem, I pctr, I pins, I pouts, .slice ppa pparts.length ppc, .slice pla plines.length plc, .slice poa ops.length poc] 26)).cell? ⟨w.heap.size, 0, none⟩ = some (I pmem) := by simp
  have b1 : (w.alloc (.cells #[I pmem, I pctr, I pins, I pouts, .slice ppa pparts.length ppc, .slice pla plines.length plc, .slice poa ops.length poc] 26)).cell? ⟨w.heap.size, 1, none⟩ = some (I pctr) := by simp
  have b2 : (w.alloc (.cells #[I pmem, I pctr, I pins, I pouts, .slice ppa pparts.length ppc, .slice pla plines.length plc, .slice poa ops.length poc] 26)).cell? ⟨w.heap.size, 2, none⟩ = some (I pins) := by simp
  have b3 : (w.alloc (.cells #[I pmem, I pctr, I pins, I pouts, .slice ppa pparts.length ppc, .slice pla plines.length plc, .slice poa ops.length poc] 26)).cell? ⟨w.heap.size, 3, none⟩ = some (I pouts) := by simp
  have b4 : (w.alloc (.cells #[I pmem, I pctr, I pins, I pouts, .slice ppa pparts.length ppc, .slice pla plines.length plc, .slice poa ops.length poc] 26)).cell? ⟨w.heap.size, 4, none⟩ = some (.slice ppa pparts.length ppc) := by simp
  have b5 : (w.alloc (.cells #[I pmem, I pctr, I pins, I pouts, .slice ppa pparts.length ppc, .slice pla plines.length plc, .slice poa ops.length poc] 26)).cell? ⟨w.heap.size, 5, none⟩ = some (.slice pla plines.length plc) := by simp
  have b6 : (w.alloc (.cells #[I pmem, I pctr, I pins, I pouts, .slice ppa pparts.length ppc, .slice pla plines.length plc, .slice poa ops.length poc] 26)).cell? ⟨w.heap.size, 6, none⟩ = some (.slice poa ops.length poc) := by simp
  have hz0 : w.heap.size < (w.alloc (.cells #[I pmem, I pctr, I pins, I pouts, .slice ppa pparts.length ppc, .slice pla plines.length plc, .slice poa ops.length poc] 26)).heap.size := by simp
  generalize (w.alloc (.cells #[I pmem, I pctr, I pins, I pouts, .slice ppa pparts.length ppc, .slice pla plines.length plc, .slice poa ops.length poc] 26)) = W0 at hN0 b0 b1 b2 b3 b4 b5 b6 hz0 ⊢
  obtain ⟨B, hB⟩ : ∃ B, B = W0.heap.size := ⟨_, rfl⟩
  have hB1 : w.heap.size < B := by omega
  have hB2 : B ≤ W0.heap.size := by omega
  have hO0 : Opn W0 B (.slice none 0 0) [] := ⟨none, 0, 0, rfl, rfl, World.ownsRow_nil _ _ _ _⟩
  clear hB hz0
  go_loopw [3, 4] (fun v i wr => ∃ k : Nat, k ≤ ops.length ∧ i = .int .i64 k ∧ ∃ fr : List Nat, walkL L ops ops 0 [] = walkL L ops (ops.drop k) k fr ∧ Opn wr B v fr ∧ (∀ f ∈ fr, f < k) ∧ fr.length ≤ k ∧ Keeps (fun x => B ≤ x) W0 wr) (fun _ i _ => ops.length - (intOf i).toNat)
  case atStart => exact ⟨0, by omega, rfl, [], rfl, hO0, by simp, by simp, Keeps.refl _ _⟩
  case round =>
    clear hO0
    obtain ⟨k, hk, rfl, fr, heq, ⟨oa0, oc0, m, hm, rfl, hr⟩, hlt, hfl, hkp⟩ := hrel
    have HM := Lib.hid hm
    rw [hm] at hfl
    clear hm
    have hNw : New w wr := hN0.keeps hkp (fun x hx hb => by omega)
    have HEQ := Lib.hid heq
    clear heq
    by_cases hk1 : k < ops.length
    · have hs1 := hsd wr k hNw hk1
      have hcons := walkL_cons (L := L) hk1 fr
      have c0 := hkp.cell b0 (by simp only; omega)
      have c1 := hkp.cell b1 (by simp only; omega)
      have c2 := hkp.cell b2 (by simp only; omega)
      have c3 := hkp.cell b3 (by simp only; omega)
      have c4 := hkp.cell b4 (by simp only; omega)
      have c5 := hkp.cell b5 (by simp only; omega)
      have c6 := hkp.cell b6 (by simp only; omega)
      have hk0 : (k : Int) < (ops.length : Int) := by omega
      go_wp2_with fail
      refine hs1.mono ?_
      rintro e w2 ⟨rfl, m2⟩
      obtain ⟨bx, ox, rfl, q0, q1, q2⟩ := ops_at (hx.new (hNw.trans m2)) hk1
      generalize ho : ops[k] = o at q0 q1 q2 hcons
      obtain ⟨kind, oa, ob⟩ := o
      simp only at q0 q1 q2
      have HC := Lib.hid hcons
      have hr2 := m2.owns hr
      have hkp2 := hkp.trans m2 (fun _ _ h => h.elim)
      have hNw2 := hNw.trans m2
      have hz2 := m2.size
      clear hr hkp hs1 hcons c0 c1 c2 c3 c4 c5 c6 ho
      have c62 := hkp2.cell b6 (by simp only; omega)
      cases hok : okOp L k ⟨kind, oa, ob⟩ with
      | false =>
        have hres : loopsE L ops = 200 := loopsE_err (by rw [HEQ.out, HC.out]; unfold stepL; rw [if_pos hok])
        have HR := Lib.hid hres
        clear hres hok
        go_wp2
        go_ret
        exact ⟨ret_i HR.out.symm, hNw2⟩
      | true =>
        have hnok : ¬ okOp L k ⟨kind, oa, ob⟩ = false := by rw [hok]; decide
        have HNK := Lib.hid hnok
        clear hnok hok
        have al : New w2 (w2.alloc (.cells #[.int .u8 kind, I oa, I ob] 53)) := (New.refl w2).alloc _
        have d0 : (w2.alloc (.cells #[.int .u8 kind, I oa, I ob] 53)).cell? ⟨w2.heap.size, 0, none⟩ = some (.int .u8 kind) := by simp
        have d1 : (w2.alloc (.cells #[.int .u8 kind, I oa, I ob] 53)).cell? ⟨w2.heap.size, 1, none⟩ = some (I oa) := by simp
        have d2 : (w2.alloc (.cells #[.int .u8 kind, I oa, I ob] 53)).cell? ⟨w2.heap.size, 2, none⟩ = some (I ob) := by simp
        have c63 := al.cell c62
        have hr3 := al.owns hr2
        have hkp3 := hkp2.trans al (fun _ _ h => h.elim)
        have hNw3 := hNw2.trans al
        have hz3 : w2.heap.size < (w2.alloc (.cells #[.int .u8 kind, I oa, I ob] 53)).heap.size := by simp
        have hob : ∀ x, blk oa0 x → B ≤ x ∧ x < w2.heap.size := fun x hx => own_of_blk hr2 hx
        have HLT := Lib.hid hlt
        have hml : m ≤ 131072 := by omega
        clear hlt hr2 hkp2 al
        by_cases hk1' : kind = 1
        · subst hk1'
          have f2 : ((1 : Int) == 2) = false := rfl
          go_wp2_with fail
          obtain ⟨wo, rfl⟩ : ∃ wo : World, wo = wr := ⟨_, rfl⟩
          go_loopw [6] (fun j wz => ∃ q : Nat, q ≤ m ∧ j = .int .i64 q ∧ (∀ t (ht : t < fr.reverse.length), t < q → (opAt ops fr.reverse[t]).a ≠ oa) ∧ New (w2.alloc (.cells #[.int .u8 1, I oa, I ob] 53)) wz) (fun j _ => m - (intOf j).toNat)
          case atStart => exact ⟨0, Nat.zero_le _, rfl, by omega, New.refl _⟩
          case round =>
            obtain ⟨q, hq, rfl, hall, hn⟩ := hrel
            have HA := Lib.hid hall
            clear hall
            by_cases hq1 : q < m
            · have hql : q < fr.length := by rw [HM.out]; exact hq1
              obtain ⟨g, rfl, hgB⟩ := own_addr2 hr3 (by omega)
              have y0 := hr3.cellAt q (by omega)
              rw [openI_at fr q hql] at y0
              obtain ⟨y, hy⟩ : ∃ y, y = fr.reverse[q]'(by simpa using hql) := ⟨_, rfl⟩
              have hmem : y ∈ fr := by rw [hy]; exact List.mem_reverse.1 (List.getElem_mem _)
              have hyl := HLT.out y hmem
              rw [← hy] at y0
              have hnext : (opAt ops y).a ≠ oa → ∀ t (ht : t < fr.reverse.length), t < q + 1 → (opAt ops fr.reverse[t]).a ≠ oa := fun h t ht htq => by
                by_cases e : t < q
                · exact HA.out t ht e
                · obtain rfl : t = q := by omega
                  rw [← hy]; exact h
              have hhit : (opAt ops y).a = oa → loopsE L ops = 201 := fun h => loopsE_err (by
                rw [HEQ.out, HC.out]
                unfold stepL
                rw [if_neg HNK.out, if_pos rfl, if_pos (List.any_eq_true.2 ⟨y, hmem, by simpa using h⟩)])
              have HN := Lib.hid hnext
              have HH := Lib.hid hhit
              clear hnext hhit hy hmem
              obtain ⟨bx2, ox2, hbx, p0, p1, p2⟩ := ops_at (hx.new (hNw3.trans hn)) (show y < ops.length by omega)
              simp only [Option.some.injEq, Addr.mk.injEq, and_true] at hbx
              obtain ⟨rfl, rfl⟩ := hbx
              rw [show ops[y]'(by omega) = opAt ops y by unfold opAt; simp [show y < ops.length by omega]] at p1
              generalize (opAt ops y).a = yA at p1 HN HH
              have yr0 := hn.cell y0
              have c6r := hn.cell c63
              have d1r := hn.cell d1
              have hq0 : (q : Int) < (m : Int) := by omega
              have hya0 : (y : Int) < (ops.length : Int) := by omega
              have hya1 : (0 : Int) ≤ (y : Int) := by omega
              clear p0 p2 y0 d0 d1 d2 c62 c63 hr3 hob
              by_cases hA : yA = oa
              · have hres := HH.out hA
                have HR := Lib.hid hres
                subst hA
                clear hres
                go_wp2_with fail
                go_quiet (fail)
                go_wp2
                go_ret
                exact ⟨ret_i HR.out.symm, (hNw3.trans hn).drewN _⟩
              · have g1 : decide (yA = oa) = false := by simpa using hA
                have g2 : (yA == oa) = false := by simpa using hA
                have HNN := Lib.hid (HN.out hA)
                clear hA
                go_wp2_with fail
                go_quiet (fail)
                go_wp2
                go_roundw
                case rel => exact ⟨q + 1, by omega, by go_num, HNN.out, hn.drewN _⟩
                case measure => simp [intOf]; omega
            · obtain rfl : q = m := by omega
              have hany : fr.any (fun f => decide ((opAt ops f).a = oa)) = false := by
                rw [anyN_rev, List.any_eq_false]
                intro y hy
                obtain ⟨t, ht, rfl⟩ := List.getElem_of_mem hy
                have hlr : fr.reverse.length = q := by rw [List.length_reverse]; exact HM.out
                simpa using HA.out t ht (by omega)
              have hst : stepL L ops k ⟨1, oa, ob⟩ fr = .ok (k :: fr) := by
                unfold stepL
                rw [if_neg HNK.out, if_pos rfl, if_neg (by simp only [hany]; simp)]
              have HST := Lib.hid hst
              have hr4 := hn.owns hr3
              have hkp4 := hkp3.trans hn (fun _ _ h => h.elim)
              have ka : New wr (wr.alloc (.cells #[I k] 3)) := (New.refl wr).alloc _
              have hBz : B ≤ wr.heap.size := by have := hkp4.size; omega
              have d0r := ka.cell (hn.cell d0)
              clear hany hst hr3 hkp3
              go_wp2_with (at_builtin; refine wpList_app rfl _ _ 43 rfl B 3 iI (.int .i64 0) 1 8 Try.underlying43 hiI hzI hsI hbI rfl (by decide) oa0 q oc0 (Is (openI fr)) rfl (ka.owns hr4) _ 1 1 [I k] rfl rfl (SlAt.lit _ _ _) (oneCell_ints .i64 [(k : Int)]) (by unfold maxLen; omega) (by omega) (Nat.le_trans hBz ka.size) ?_)
              intro a9 c9 w9 hown9 hk9 hmv9 _
              have hO9 : Opn w9 B (.slice a9 (q + 1) c9) (k :: fr) := ⟨a9, c9, q + 1, by simp only [List.length_cons]; rw [HM.out], rfl, by rw [openI_push]; unfold Is; rw [List.map_append]; exact hown9⟩
              have hkp9 : Keeps (fun x => B ≤ x) W0 w9 := (hkp4.trans ka (fun _ _ h => h.elim)).trans hk9 (fun x _ hb => (hob x hb).1)
              have d09 := hk9.cell d0r (fun hb => by have := (hob _ hb).2; simp only at this; omega)
              have H9 := Lib.hid (And.intro hO9 hkp9)
              clear hO9 hkp9 hown9 hk9 hmv9 hr4 hkp4 ka hn hob d0r d0 d1 d2
              go_wp2
              go_roundw
              case rel =>
                refine ⟨k + 1, by omega, by go_num, k :: fr, by rw [HEQ.out, HC.out, HST.out], H9.out.1, fun f hf => ?_, by simp only [List.length_cons]; rw [HM.out]; omega, H9.out.2⟩
                rcases List.mem_cons.1 hf with rfl | hf
                · omega
                · have := HLT.out f hf; omega
              case measure => simp [intOf]; omega
        · have f1 : (kind == 1) = false := by simpa using hk1'
          have f1d : decide (kind = 1) = false := by simpa using hk1'
          by_cases hk2 : kind = 2
          · subst hk2
            clear hk1'
            cases fr with
            | nil =>
              obtain rfl : m = 0 := by have := HM.out; simpa using this.symm
              have hst : stepL L ops k ⟨2, oa, ob⟩ [] = .error 201 := by
                unfold stepL
                rw [if_neg HNK.out, if_neg (by simp), if_pos rfl]
              have hres : loopsE L ops = 201 := loopsE_err (by rw [HEQ.out, HC.out, hst])
              have HR := Lib.hid hres
              clear hres hst
              go_wp2_with fail
              go_quiet (fail)
              go_wp2
              go_ret
              exact ⟨ret_i HR.out.symm, hNw3.drewN _⟩
            | cons a r =>
              obtain ⟨n, hn⟩ : ∃ n, r.length = n := ⟨_, rfl⟩
              obtain rfl : m = n + 1 := by have := HM.out; simp at this; omega
              have hak := HLT.out a (by simp)
              obtain ⟨g, rfl, hgB⟩ := own_addr2 hr3 (by omega)
              have y0 := hr3.cellAt n (by omega)
              have htp := openI_top a r
              rw [hn] at htp
              rw [htp] at y0
              obtain ⟨bx2, ox2, hbx, p0, p1, p2⟩ := ops_at (hx.new hNw3) (show a < ops.length by omega)
              simp only [Option.some.injEq, Addr.mk.injEq, and_true] at hbx
              obtain ⟨rfl, rfl⟩ := hbx
              rw [show ops[a]'(by omega) = opAt ops a by unfold opAt; simp [show a < ops.length by omega]] at p1
              have hst : stepL L ops k ⟨2, oa, ob⟩ (a :: r) = if (opAt ops a).a ≠ oa ∨ ob ≠ (a : Int) + 1 then .error 201 else .ok r := by
                unfold stepL
                rw [if_neg HNK.out, if_neg (by simp), if_pos rfl]
              generalize (opAt ops a).a = ohA at p1 hst
              have HST := Lib.hid hst
              have HN := Lib.hid hn
              have ha0 : (a : Int) < (ops.length : Int) := by omega
              have ha1 : (0 : Int) ≤ (a : Int) := by omega
              have hM1 : ((n : Int) + 1 == 0) = false := by rw [beq_eq_false_iff_ne]; omega
              have hno1 : n ≤ 131072 := by omega
              have hr4 : (w2.alloc (.cells #[.int .u8 2, I oa, I ob] 53)).ownsRow B 3 1 (.slice (some ⟨g, 0, none⟩) n oc0) n (Is (openI r)) := by
                have h := ownsRow_trunc hr3 (m := n) (by omega)
                have e := openI_pop a r
                rw [hn] at e
                rw [e] at h
                exact h
              have hmc : (n : Int) + 1 ≤ (oc0 : Int) := by
                rcases hr3.2 with ⟨h0, _⟩ | ⟨g', cap', cur', h0, _, _, hnc, _⟩
                · simp at h0
                · simp only [Value.slice.injEq] at h0; omega
              have H4 := Lib.hid (And.intro hr4 hkp3)
              clear hst htp p0 p2 hn hr3 hr4 hkp3 hob
              by_cases hA : ohA = oa
              · by_cases hBk : ob = (a : Int) + 1
                · have hs2 := HST.out
                  rw [if_neg (by simp [hA, hBk])] at hs2
                  have HS2 := Lib.hid hs2
                  subst hA
                  subst hBk
                  clear hs2
                  go_wp2_with fail
                  go_quiet (fail)
                  go_wp2_with fail
                  go_roundw
                  case rel => exact ⟨k + 1, by omega, by go_num, r, by rw [HEQ.out, HC.out, HS2.out], ⟨_, _, n, HN.out, rfl, (Keeps.drewN (S := fun _ => False) _ _).owns H4.out.1 (fun _ _ h => h)⟩, fun f hf => by have := HLT.out f (by simp [hf]); omega, by rw [HN.out]; omega, H4.out.2.trans (Keeps.drewN (S := fun x => B ≤ x) _ _) (fun _ _ h => h)⟩
                  case measure => simp [intOf]; omega
                · have hs2 := HST.out
                  rw [if_pos (.inr hBk)] at hs2
                  have hres : loopsE L ops = 201 := loopsE_err (by rw [HEQ.out, HC.out, hs2])
                  have HR := Lib.hid hres
                  have g1 : (ohA != oa) = false := by simpa using hA
                  have g2 : (ob != (a : Int) + 1) = true := by simpa using hBk
                  subst hA
                  clear hres hs2 hBk
                  go_wp2_with fail
                  go_quiet (fail)
                  go_wp2
                  go_ret
                  exact ⟨ret_i HR.out.symm, hNw3.drewN _⟩
              · have hs2 := HST.out
                rw [if_pos (.inl hA)] at hs2
                have hres : loopsE L ops = 201 := loopsE_err (by rw [HEQ.out, HC.out, hs2])
                have HR := Lib.hid hres
                have g1 : (ohA != oa) = true := by simpa using hA
                clear hres hs2 hA
                go_wp2_with fail
                go_quiet (fail)
                go_wp2
                go_ret
                exact ⟨ret_i HR.out.symm, hNw3.drewN _⟩
          · have f2 : (kind == 2) = false := by simpa using hk2
            have f2d : decide (kind = 2) = false := by simpa using hk2
            by_cases hk3 : kind = 0
            · subst hk3
              cases m with
              | succ m' =>
                have hst : stepL L ops k ⟨0, oa, ob⟩ fr = .error 201 := by
                  unfold stepL
                  rw [if_neg HNK.out, if_neg (by omega), if_neg (by omega), if_pos rfl, if_neg (by intro h; have := HM.out; rw [h] at this; simp at this)]
                have hres : loopsE L ops = 201 := loopsE_err (by rw [HEQ.out, HC.out, hst])
                have HR := Lib.hid hres
                clear hres hst hk1' hk2
                go_wp2
                go_ret
                exact ⟨ret_i HR.out.symm, hNw3⟩
              | zero =>
                have hst : stepL L ops k ⟨0, oa, ob⟩ fr = .ok fr := by
                  unfold stepL
                  rw [if_neg HNK.out, if_neg (by omega), if_neg (by omega), if_pos rfl, if_pos (List.length_eq_zero_iff.1 HM.out)]
                have HST := Lib.hid hst
                have H3 := Lib.hid (And.intro hr3 hkp3)
                clear hk1' hk2 hst hr3 hkp3
                go_wp2_with fail
                go_roundw
                case rel => exact ⟨k + 1, by omega, by go_num, fr, by rw [HEQ.out, HC.out, HST.out], ⟨_, _, 0, HM.out, rfl, H3.out.1⟩, fun f hf => by have := HLT.out f hf; omega, by rw [HM.out]; omega, H3.out.2⟩
                case measure => simp [intOf]; omega
            · have f3 : (kind == 0) = false := by simpa using hk3
              have f3d : decide (kind = 0) = false := by simpa using hk3
              have hst : stepL L ops k ⟨kind, oa, ob⟩ fr = .ok fr := by
                unfold stepL
                rw [if_neg HNK.out, if_neg hk1', if_neg hk2, if_neg hk3]
              have HST := Lib.hid hst
              have H3 := Lib.hid (And.intro hr3 hkp3)
              clear hk1' hk2 hk3 hst hr3 hkp3
              go_wp2_with fail
              go_roundw
              case rel => exact ⟨k + 1, by omega, by go_num, fr, by rw [HEQ.out, HC.out, HST.out], ⟨_, _, m, HM.out, rfl, H3.out.1⟩, fun f hf => by have := HLT.out f hf; omega, by rw [HM.out]; omega, H3.out.2⟩
              case measure => simp [intOf]; omega
    · have hke : k = ops.length := by omega
      have hws : walkL L ops ops 0 [] = .ok fr := by rw [HEQ.out, hke, List.drop_length]; rfl
      have c6 := hkp.cell b6 (by simp only; omega)
      have hR : loopsE L ops = if lastEnd ops = false then 200 else 0 := by unfold loopsE; rw [hws]
      have hge : ops.length ≤ k := by omega
      have HRR := Lib.hid hR
      clear hR hke hws hr hkp hlt
      by_cases hz : ops.length = 0
      · have hl : lastEnd ops = false := by rw [List.length_eq_zero_iff.1 hz]; rfl
        have hR2 := HRR.out
        rw [if_pos hl] at hR2
        have HR := Lib.hid hR2
        have hz2 : ((ops.length : Int) == 0) = true := by simp [hz]
        have hz3 : decide (ops.length = 0) = true := by simp [hz]
        have hz4 : (ops.length == 0) = true := by simp [hz]
        clear hR2 hl hz
        go_wp2
        go_ret
        exact ⟨ret_i HR.out.symm, hNw⟩
      · obtain ⟨bx, ox, rfl, q0, q1, q2⟩ := ops_at (hx.new hNw) (show ops.length - 1 < ops.length by omega)
        have hlast : lastEnd ops = decide ((ops[ops.length - 1]'(by omega)).kind = 0) := by
          unfold lastEnd
          rw [List.getLast?_eq_getElem?, List.getElem?_eq_getElem (by omega)]
        have HLA := Lib.hid hlast
        clear hlast
        generalize (ops[ops.length - 1]'(by omega)).kind = kd at q0 HLA
        have hz2 : ((ops.length : Int) == 0) = false := by rw [beq_eq_false_iff_ne]; omega
        have hz3 : decide (ops.length = 0) = false := decide_eq_false hz
        have hz4 : (ops.length == 0) = false := by rw [beq_eq_false_iff_ne]; exact hz
        have hl1 : (1 : Int) ≤ (ops.length : Int) := by omega
        clear q1 q2 hz
        by_cases hkd : kd = 0
        · subst hkd
          have hR2 := HRR.out
          rw [HLA.out, if_neg (by simp)] at hR2
          have HR := Lib.hid hR2
          clear hR2
          go_wp2
          go_ret
          exact ⟨ret_i HR.out.symm, hNw⟩
        · have hR2 := HRR.out
          rw [HLA.out, if_pos (by simpa using hkd)] at hR2
          have HR := Lib.hid hR2
          have g1 : (kd != 0) = true := by simpa using hkd
          have g2 : decide (kd = 0) = false := by simpa using hkd
          clear hR2 hkd
          go_wp2
          go_ret
          exact ⟨ret_i HR.out.symm, hNw⟩

end Go.Proofs.Ytfmpjbiaamkobaa
