/-
  Layer 20: the document's answer: rows, and the steps.
-/
import Derived.Test.YtfmpjbiaamkobaaCodeF
namespace Go.Proofs.Ytfmpjbiaamkobaa
open Go Go.RowKit
set_option linter.all false

theorem rowsS_past {ops : List OpD} {f a : Nat} (h : ops.length ≤ a) : rowsS ops f a = (0, a) := by
  cases f with
  | zero => rfl
  | succ f => unfold rowsS; rw [if_pos (.inl h)]
theorem rowsS_le {ops : List OpD} : ∀ (f a : Nat), a ≤ ops.length → (rowsS ops f a).2 ≤ ops.length + f := by
  intro f
  induction f with
  | zero => intro a h; exact h
  | succ f ih =>
    intro a h
    unfold rowsS
    by_cases h1 : ops.length ≤ a ∨ (opAt ops a).kind = 2
    · rw [if_pos h1]; simp only; omega
    · rw [if_neg h1]
      have ha : a < ops.length := by omega
      have i1 := ih (a + 1) (by omega)
      by_cases h2 : (opAt ops a).kind = 1
      · rw [if_pos h2]
        simp only
        by_cases h3 : (rowsS ops f (a + 1)).2 + 1 ≤ ops.length
        · have := ih _ h3; omega
        · rw [rowsS_past (by omega)]; simp only; omega
      · rw [if_neg h2]; simp only; omega
theorem opAt_mem {ops : List OpD} {a : Nat} (h : a < ops.length) : opAt ops a ∈ ops := by unfold opAt; rw [List.getD_eq_getElem?_getD, List.getElem?_eq_getElem h]; exact List.getElem_mem h
theorem capS_two {s k x : Int} (hs : 0 ≤ s) (hk : 0 ≤ k) (hx : 0 ≤ x) : capS (s + capS (k + x)) = capS (capS (s + k) + x) := by
  rw [capS_add' hs (by omega), capS_add (by omega) hx]; congr 1; omega
theorem rowsS_end {ops : List OpD} {g a : Nat} (h : ops.length ≤ a ∨ (opAt ops a).kind = 2) : rowsS ops g a = (0, a) := by
  cases g with
  | zero => rfl
  | succ g => unfold rowsS; rw [if_pos h]
theorem rowsS_head {ops : List OpD} {g a : Nat} {s : Int} (hB : ∀ o ∈ ops, o.kind = 1 → 1 ≤ o.b) (hs : 0 ≤ s) (h : a < ops.length) (h1 : (opAt ops a).kind = 1) {i : Int} {b : Nat} (hi : rowsS ops g (a + 1) = (i, b)) :
    (capS (s + (rowsS ops (g + 1) a).1), (rowsS ops (g + 1) a).2) = (capS (capS (s + loopR (opAt ops a).b i) + (rowsS ops g (b + 1)).1), (rowsS ops g (b + 1)).2) := by
  have e : rowsS ops (g + 1) a = (capS (loopR (opAt ops a).b i + (rowsS ops g (b + 1)).1), (rowsS ops g (b + 1)).2) := by
    show (if ops.length ≤ a ∨ (opAt ops a).kind = 2 then (0, a) else if (opAt ops a).kind = 1 then (capS (loopR (opAt ops a).b (rowsS ops g (a + 1)).1 + (rowsS ops g ((rowsS ops g (a + 1)).2 + 1)).1), (rowsS ops g ((rowsS ops g (a + 1)).2 + 1)).2) else (capS (1 + (rowsS ops g (a + 1)).1), (rowsS ops g (a + 1)).2)) = _
    rw [if_neg (by omega), if_pos h1, hi]
  have hn := rowsS_nn hB g (a + 1)
  rw [hi] at hn
  rw [e]
  simp only
  rw [capS_two hs (loopR_nn (hB _ (opAt_mem h) h1) hn.1) (rowsS_nn hB g (b + 1)).1]
theorem rowsS_one {ops : List OpD} {g a : Nat} {s : Int} (hB : ∀ o ∈ ops, o.kind = 1 → 1 ≤ o.b) (hs : 0 ≤ s) (h : a < ops.length) (h1 : (opAt ops a).kind ≠ 1) (h2 : (opAt ops a).kind ≠ 2) :
    (capS (s + (rowsS ops (g + 1) a).1), (rowsS ops (g + 1) a).2) = (capS (capS (s + 1) + (rowsS ops g (a + 1)).1), (rowsS ops g (a + 1)).2) := by
  have e : rowsS ops (g + 1) a = (capS (1 + (rowsS ops g (a + 1)).1), (rowsS ops g (a + 1)).2) := by
    show (if ops.length ≤ a ∨ (opAt ops a).kind = 2 then (0, a) else if (opAt ops a).kind = 1 then (capS (loopR (opAt ops a).b (rowsS ops g (a + 1)).1 + (rowsS ops g ((rowsS ops g (a + 1)).2 + 1)).1), (rowsS ops g ((rowsS ops g (a + 1)).2 + 1)).2) else (capS (1 + (rowsS ops g (a + 1)).1), (rowsS ops g (a + 1)).2)) = _
    rw [if_neg (by omega), if_neg h1]
  rw [e]
  simp only
  rw [capS_two hs (by omega) (rowsS_nn hB g (a + 1)).1]
theorem ret_2p {a b : Int} {c : Nat} {r : Int × Nat} (h : r = (a, c)) (hb : b = (c : Int)) : Ending.returned (.tuple #[I a, I b]) = .returned (.tuple #[I r.1, I (r.2 : Int)]) := by subst h hb; rfl

set_option maxRecDepth 100000 in
set_option maxHeartbeats 8000000 in
theorem rrows_any (p : Pg) (hno : p.ops.length ≤ 131072) (hB : ∀ o ∈ p.ops, o.kind = 1 → 1 ≤ o.b ∧ o.b ≤ 2048) : ∀ (F : Nat) (w : World) (at0 : Nat), F ≤ 131072 → at0 ≤ p.ops.length → p.ops.length - at0 ≤ F → SlAt w p.oa (p.ops.flatMap opCells) →
    Calls Try.prog 50 #[p.v, I (at0 : Int)] w fun e w' => e = .returned (.tuple #[I (rowsS p.ops F at0).1, I ((rowsS p.ops F at0).2 : Int)]) ∧ New w w' := by
  intro F
  induction F using Nat.strongRecOn with
  | ind F ih =>
  intro w at0 hF hat hfu hx
  have IH : ∀ g, g < F → ∀ (w1 : World) (a : Nat), New w w1 → a ≤ p.ops.length → p.ops.length - a ≤ g → Calls Try.prog 50 #[.agg #[I p.mem, I p.ctr, I p.ins, I p.outs, .slice p.pa p.parts.length p.pc, .slice p.la p.lines.length p.lc, .slice p.oa p.ops.length p.oc], I (a : Int)] w1 fun e w' => e = .returned (.tuple #[I (rowsS p.ops g a).1, I ((rowsS p.ops g a).2 : Int)]) ∧ New w1 w' :=
    fun g hg w1 a k h1 h2 => ih g hg w1 a (by omega) h1 h2 (hx.new k)
  clear ih
  obtain ⟨pmem, pctr, pins, pouts, ppa, ppc, pparts, pla, plc, plines, poa, poc, ops⟩ := p
  simp only at hno hx hB hat hfu IH
  simp only [Pg.v, Pg.cs]
  have HBI := Lib.hid hB
  have HIH := Lib.hid IH
  obtain ⟨R, hR⟩ : ∃ R, rowsS ops F at0 = R := ⟨_, rfl⟩
  rw [hR]
  have HR := Lib.hid hR
  clear hB IH hR
  go_enter Try.func50, Try.ntmps50
  go_wp2_with fail
  have hN0 : New w (w.alloc (.cells #[I pmem, I pctr, I pins, I pouts, .slice ppa pparts.length ppc, .slice pla plines.length plc, .slice poa ops.length poc] 26)) := (New.refl w).alloc _
  have b0 : (w.alloc (.cells #[I pmem, I pctr, I pins, I pouts, .slice ppa pparts.length ppc, .slice pla plines.length plc, .slice poa ops.length poc] 26)).cell? ⟨w.heap.size, 0, none⟩ = some (I pmem) := by simp
  have b1 : (w.alloc (.cells #[I pmem, I pctr, I pins, I pouts, .slice ppa pparts.length ppc, .slice pla plines.length plc, .slice poa ops.length poc] 26)).cell? ⟨w.heap.size, 1, none⟩ = some (I pctr) := by simp
  have b2 : (w.alloc (.cells #[I pmem, I pctr, I pins, I pouts, .slice ppa pparts.length ppc, .slice pla plines.length plc, .slice poa ops.length poc] 26)).cell? ⟨w.heap.size, 2, none⟩ = some (I pins) := by simp
  have b3 : (w.alloc (.cells #[I pmem, I pctr, I pins, I pouts, .slice ppa pparts.length ppc, .slice pla plines.length plc, .slice poa ops.length poc] 26)).cell? ⟨w.heap.size, 3, none⟩ = some (I pouts) := by simp
  have b4 : (w.alloc (.cells #[I pmem, I pctr, I pins, I pouts, .slice ppa pparts.length ppc, .slice pla plines.length plc, .slice poa ops.length poc] 26)).cell? ⟨w.heap.size, 4, none⟩ = some (.slice ppa pparts.length ppc) := by simp
  have b5 : (w.alloc (.cells #[I pmem, I pctr, I pins, I pouts, .slice ppa pparts.length ppc, .slice pla plines.length plc, .slice poa ops.length poc] 26)).cell? ⟨w.heap.size, 5, none⟩ = some (.slice pla plines.length plc) := by simp
  have b6 : (w.alloc (.cells #[I pmem, I pctr, I pins, I pouts, .slice ppa pparts.length ppc, .slice pla plines.length plc, .slice poa ops.length poc] 26)).cell? ⟨w.heap.size, 6, none⟩ = some (.slice poa ops.length poc) := by simp
  have hz0 : w.heap.size < (w.alloc (.cells #[I pmem, I pctr, I pins, I pouts, .slice ppa pparts.length ppc, .slice pla plines.length plc, .slice poa ops.length poc] 26)).heap.size := by simp
  generalize (w.alloc (.cells #[I pmem, I pctr, I pins, I pouts, .slice ppa pparts.length ppc, .slice pla plines.length plc, .slice poa ops.length poc] 26)) = W0 at hN0 b0 b1 b2 b3 b4 b5 b6 hz0 ⊢
  go_loopw [1, 6] (fun at_ n wr => ∃ (g a : Nat) (s : Int), at_ = .int .i64 a ∧ n = .int .i64 s ∧ g ≤ F ∧ 0 ≤ s ∧ s ≤ 131073 ∧ R = (capS (s + (rowsS ops g a).1), (rowsS ops g a).2) ∧ ops.length - a ≤ g ∧ a ≤ ops.length + F ∧ New W0 wr) (fun at_ _ _ => ops.length + F + 1 - (intOf at_).toNat)
  case atStart =>
    refine ⟨F, at0, 0, rfl, rfl, Nat.le_refl _, by omega, by omega, ?_, hfu, by omega, New.refl _⟩
    have hn := rowsS_nn (fun o h1 h2 => (HBI.out o h1 h2).1) F at0
    rw [← HR.out, Int.zero_add, capS_id hn.2.1]
  case round =>
    obtain ⟨g, a, s, rfl, rfl, hg, hs0, hs1, hRs, hlg, haf, hnew⟩ := hrel
    have HRS := Lib.hid hRs
    have hNw := hN0.trans hnew
    have c0 := hnew.cell b0
    have c1 := hnew.cell b1
    have c2 := hnew.cell b2
    have c3 := hnew.cell b3
    have c4 := hnew.cell b4
    have c5 := hnew.cell b5
    have c6 := hnew.cell b6
    clear hRs
    have fin : ∀ r, rowsS ops g a = (0, a) → r = R → r = (s, a) := fun r h e => by rw [e, HRS.out, h]; simp only [Int.add_zero]; rw [capS_id hs1]
    have HF := Lib.hid (fin R · rfl)
    clear fin
    by_cases ha : a < ops.length
    · obtain ⟨bx, ox, rfl, q0, q1, q2⟩ := ops_at (hx.new hNw) ha
      have hop : ops[a] = opAt ops a := by unfold opAt; simp [ha]
      rw [hop] at q0 q1 q2
      have ha0 : (a : Int) < (ops.length : Int) := by omega
      cases g with
      | zero => omega
      | succ g =>
        by_cases hk2 : (opAt ops a).kind = 2
        · have hfin := HF.out (rowsS_end (.inr hk2))
          rw [hk2] at q0
          have HR2 := Lib.hid hfin
          clear hk2 hfin hop q1 q2
          go_wp2
          go_ret2
          exact ⟨ret_2p HR2.out rfl, hNw⟩
        · by_cases hk1 : (opAt ops a).kind = 1
          · obtain ⟨i, b, hib⟩ : ∃ i b, rowsS ops g (a + 1) = (i, b) := ⟨_, _, rfl⟩
            have hst := rowsS_head (s := s) (fun o h1 h2 => (HBI.out o h1 h2).1) hs0 ha hk1 hib
            have hnn := rowsS_nn (fun o h1 h2 => (HBI.out o h1 h2).1) g (a + 1)
            have hle := rowsS_le (ops := ops) g (a + 1) (by omega)
            rw [hib] at hnn hle
            simp only at hnn hle
            obtain ⟨hi0, hi1, hi2⟩ := hnn
            have hb12 := HBI.out _ (opAt_mem ha) hk1
            have hcall := HIH.out g (by omega) wr (a + 1) hNw (by omega) (by omega)
            rw [hib] at hcall
            rw [hk1] at q0
            generalize (opAt ops a).b = oB at q2 hst hb12
            obtain ⟨hb1, hb2⟩ := hb12
            have HST := Lib.hid hst
            have hwa : IntKind.i64.wrap ((a : Int) + 1) = (a : Int) + 1 := IntWalk.i64_in _ (by omega)
            have hbb : (b : Int) + 1 ≤ 300000 := by omega
            clear hk1 hk2 hop hst hib q1
            have hcast : ((a + 1 : Nat) : Int) = (a : Int) + 1 := by omega
            rw [hcast] at hcall
            clear hcast
            go_wp2_with fail
            refine hcall.mono ?_
            rintro e w2 ⟨rfl, m2⟩
            have c6r := m2.cell c6
            have q2r := m2.cell q2
            have hN2 := hnew.trans m2
            have hfuel : ops.length - (b + 1) ≤ g := by omega
            clear hcall c0 c1 c2 c3 c4 c5 c6 q2 q0 hwa
            by_cases hI : i < 131073
            · by_cases hq : i + 1 ≤ 131073 / oB
              · have hle2 := (Int.le_ediv_iff_mul_le (by omega)).1 hq
                rw [Int.mul_comm] at hle2
                have hge : 0 ≤ oB * (i + 1) := Int.mul_nonneg (by omega) (by omega)
                have hlk : loopR oB i = 1 + oB * (i + 1) := by unfold loopR; rw [if_pos ⟨hI, hq⟩]
                have HLK := Lib.hid hlk
                clear hlk
                by_cases hcl : s + (1 + oB * (i + 1)) ≤ 131073
                · have hcs := Lib.hid (capS_id hcl)
                  have dcl : decide (131073 < s + (1 + oB * (i + 1))) = false := decide_eq_false (by omega)
                  have HCL := Lib.hid hcl
                  clear hcl
                  go_wp2_with fail
                  go_roundw
                  case rel =>
                    have hcl := HCL.out
                    exact ⟨g, b + 1, s + (1 + oB * (i + 1)), by go_num, by go_num, by omega, by omega, by omega, by rw [HRS.out, HST.out, HLK.out, hcs.out], hfuel, by omega, hN2⟩
                  case measure => simp [intOf]; omega
                · have hcs' : capS (s + (1 + oB * (i + 1))) = 131073 := by unfold capS; rw [if_neg hcl]
                  have hcs := Lib.hid hcs'
                  clear hcs'
                  have dcl : decide (131073 < s + (1 + oB * (i + 1))) = true := decide_eq_true (by omega)
                  have HCL := Lib.hid hcl
                  clear hcl
                  go_wp2_with fail
                  go_roundw
                  case rel =>
                    have hcl := HCL.out
                    exact ⟨g, b + 1, 131073, by go_num, by go_num, by omega, by omega, by omega, by rw [HRS.out, HST.out, HLK.out, hcs.out], hfuel, by omega, hN2⟩
                  case measure => simp [intOf]; omega
              · have hlk : loopR oB i = 131073 := by unfold loopR; rw [if_neg (by omega)]
                have HLK := Lib.hid hlk
                have dI : decide (i < 131073) = true := decide_eq_true hI
                have dq : decide (i + 1 ≤ 131073 / oB) = false := decide_eq_false hq
                have hi3 : i ≤ 131072 := by omega
                clear hlk hq hI hi1
                by_cases hcl : s = 0
                · subst hcl
                  have hcs := Lib.hid (show capS (0 + 131073) = 131073 from rfl)
                  go_wp2_with fail
                  go_roundw
                  case rel =>
                    exact ⟨g, b + 1, 131073, by go_num, rfl, by omega, by omega, by omega, by rw [HRS.out, HST.out, HLK.out, hcs.out], hfuel, by omega, hN2⟩
                  case measure => simp [intOf]; omega
                · obtain ⟨t, rfl⟩ : ∃ t, s = t - 131073 := ⟨s + 131073, by omega⟩
                  have hcs' : capS (t - 131073 + 131073) = 131073 := by unfold capS; rw [if_neg (by omega)]
                  have hcs := Lib.hid hcs'
                  have dcl : decide (131073 < t) = true := decide_eq_true (by omega)
                  have hsum : t - 131073 + 131073 = t := by omega
                  have hw3 : IntKind.i64.wrap (t - 131073 + 131073) = t := by rw [hsum]; exact IntWalk.i64_in _ (by omega)
                  clear hcs' hcl
                  go_wp2_with fail
                  go_roundw
                  case rel =>
                    exact ⟨g, b + 1, 131073, by go_num, by go_num, by omega, by omega, by omega, by rw [HRS.out, HST.out, HLK.out, hcs.out], hfuel, by omega, hN2⟩
                  case measure => simp [intOf]; omega
            · have hlk : loopR oB i = 131073 := by unfold loopR; rw [if_neg (by omega)]
              have HLK := Lib.hid hlk
              have dI : decide (i < 131073) = false := decide_eq_false hI
              have hi3 : i ≤ 200000 := by omega
              clear hlk hI hi1
              by_cases hcl : s = 0
              · subst hcl
                have hcs := Lib.hid (show capS (0 + 131073) = 131073 from rfl)
                go_wp2_with fail
                go_roundw
                case rel =>
                  exact ⟨g, b + 1, 131073, by go_num, rfl, by omega, by omega, by omega, by rw [HRS.out, HST.out, HLK.out, hcs.out], hfuel, by omega, hN2⟩
                case measure => simp [intOf]; omega
              · obtain ⟨t, rfl⟩ : ∃ t, s = t - 131073 := ⟨s + 131073, by omega⟩
                have hcs' : capS (t - 131073 + 131073) = 131073 := by unfold capS; rw [if_neg (by omega)]
                have hcs := Lib.hid hcs'
                have dcl : decide (131073 < t) = true := decide_eq_true (by omega)
                have hsum : t - 131073 + 131073 = t := by omega
                have hw3 : IntKind.i64.wrap (t - 131073 + 131073) = t := by rw [hsum]; exact IntWalk.i64_in _ (by omega)
                clear hcs' hcl
                go_wp2_with fail
                go_roundw
                case rel =>
                  exact ⟨g, b + 1, 131073, by go_num, by go_num, by omega, by omega, by omega, by rw [HRS.out, HST.out, HLK.out, hcs.out], hfuel, by omega, hN2⟩
                case measure => simp [intOf]; omega
          · have hst := rowsS_one (g := g) (s := s) (fun o h1 h2 => (HBI.out o h1 h2).1) hs0 ha hk1 hk2
            have e1 : ((opAt ops a).kind == 1) = false := by simpa using hk1
            have e2 : ((opAt ops a).kind != 2) = true := by simpa using hk2
            have e3 : decide ((opAt ops a).kind = 1) = false := by simpa using hk1
            have e4 : decide ((opAt ops a).kind = 2) = false := by simpa using hk2
            generalize (opAt ops a).kind = kd at q0 e1 e2 e3 e4
            have HST := Lib.hid hst
            clear hk1 hk2 hop hst q1 q2
            by_cases hcl : s + 1 ≤ 131073
            · have hcs := Lib.hid (capS_id hcl)
              go_wp2_with fail
              go_roundw
              case rel => exact ⟨g, a + 1, s + 1, by go_num, by go_num, by omega, by omega, by omega, by rw [HRS.out, HST.out, hcs.out], by omega, by omega, hnew⟩
              case measure => simp [intOf]; omega
            · have hcs' : capS (s + 1) = 131073 := by unfold capS; rw [if_neg hcl]
              have hcs := Lib.hid hcs'
              clear hcs'
              go_wp2_with fail
              go_roundw
              case rel => exact ⟨g, a + 1, 131073, by go_num, by go_num, by omega, by omega, by omega, by rw [HRS.out, HST.out, hcs.out], by omega, by omega, hnew⟩
              case measure => simp [intOf]; omega
    · have hfin := HF.out (rowsS_end (.inl (by omega)))
      have HR2 := Lib.hid hfin
      have ha0 : (ops.length : Int) ≤ (a : Int) := by omega
      clear hfin
      go_wp2
      go_ret2
      exact ⟨ret_2p HR2.out rfl, hNw⟩

end Go.Proofs.Ytfmpjbiaamkobaa
