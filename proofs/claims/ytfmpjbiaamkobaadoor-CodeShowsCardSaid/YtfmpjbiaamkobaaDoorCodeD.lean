/-
  Layer 20: a program's steps.
-/
import Derived.Test.YtfmpjbiaamkobaaDoorCodeC
import Derived.Test.YtfmpjbiaamkobaaDoorShapeO
namespace Go.Proofs.YtfmpjbiaamkobaaDoor
open Go Go.RowKit
set_option linter.all false

def inB (n m : Int) : Bool := decide (0 ≤ n ∧ n ≤ m)
def partE (x : PartD) : Int := (shapeS x.tag x.xs).1
def partsE : List PartD → Int
  | [] => 0
  | x :: r => if partE x ≠ 0 then partE x else partsE r
def lineE (m : Int) (l : LineD) : Int := if ¬ (0 ≤ l.base ∧ l.base ≤ m) then 190 else if ¬ (0 ≤ l.size ∧ l.size ≤ m - l.base) then 190 else if l.size < (l.xs.length : Int) then 88 else 0
def linesE (m : Int) : List LineD → Int
  | [] => 0
  | l :: r => if lineE m l ≠ 0 then lineE m l else linesE m r
def stepsR (p : Pg) : Int × Int :=
  if ¬ (0 ≤ p.mem ∧ p.mem ≤ 1024) then (0, 1)
  else if ¬ (0 ≤ p.ctr ∧ p.ctr ≤ 17) then (0, 1)
  else if ¬ (0 ≤ p.ins ∧ p.ins ≤ 16) then (0, 1)
  else if ¬ (0 ≤ p.outs ∧ p.outs ≤ 16) then (0, 1)
  else if 32 < p.parts.length then (0, 81)
  else if 96 < p.lines.length then (0, 81)
  else if 131072 < p.ops.length then (0, 81)
  else if partsE p.parts ≠ 0 then (0, partsE p.parts)
  else if linesE p.mem p.lines ≠ 0 then (0, linesE p.mem p.lines)
  else walkR p.lims p.ops

theorem partsE_at {l : List PartD} {k : Nat} (hk : k < l.length) (h : ∀ j (hj : j < l.length), j < k → partE l[j] = 0) (hb : partE l[k] ≠ 0) : partsE l = partE l[k] := by
  induction l generalizing k with
  | nil => simp at hk
  | cons x r ih =>
    unfold partsE
    cases k with
    | zero => simp only [List.getElem_cons_zero] at hb ⊢; rw [if_pos hb]
    | succ k =>
      have h0 : partE x = 0 := h 0 (by simp) (by omega)
      rw [if_neg (by simp [h0])]
      simp only [List.getElem_cons_succ] at hb ⊢
      exact ih (by simpa using hk) (fun j hj hjk => by have := h (j + 1) (by simp; omega) (by omega); simpa using this) hb
theorem partsE_all {l : List PartD} (h : ∀ j (hj : j < l.length), partE l[j] = 0) : partsE l = 0 := by
  induction l with
  | nil => rfl
  | cons x r ih =>
    unfold partsE
    rw [if_neg (by have := h 0 (by simp); simpa using this)]
    exact ih (fun j hj => by have := h (j + 1) (by simp; omega); simpa using this)
theorem linesE_at {m : Int} {l : List LineD} {k : Nat} (hk : k < l.length) (h : ∀ j (hj : j < l.length), j < k → lineE m l[j] = 0) (hb : lineE m l[k] ≠ 0) : linesE m l = lineE m l[k] := by
  induction l generalizing k with
  | nil => simp at hk
  | cons x r ih =>
    unfold linesE
    cases k with
    | zero => simp only [List.getElem_cons_zero] at hb ⊢; rw [if_pos hb]
    | succ k =>
      have h0 : lineE m x = 0 := h 0 (by simp) (by omega)
      rw [if_neg (by simp [h0])]
      simp only [List.getElem_cons_succ] at hb ⊢
      exact ih (by simpa using hk) (fun j hj hjk => by have := h (j + 1) (by simp; omega) (by omega); simpa using this) hb
theorem linesE_all {m : Int} {l : List LineD} (h : ∀ j (hj : j < l.length), lineE m l[j] = 0) : linesE m l = 0 := by
  induction l with
  | nil => rfl
  | cons x r ih =>
    unfold linesE
    rw [if_neg (by have := h 0 (by simp); simpa using this)]
    exact ih (fun j hj => by have := h (j + 1) (by simp; omega); simpa using this)

theorem parts_at {w : World} {ao : Option Addr} {l : List PartD} (h : SlAt w ao (l.flatMap partCells)) {i : Nat} (hi : i < l.length) :
    ∃ b off, ao = some ⟨b, off, none⟩ ∧ w.cell? ⟨b, off + i * 2, none⟩ = some (.int .u8 l[i].tag) ∧ w.cell? ⟨b, off + i * 2 + 1, none⟩ = some (.slice l[i].a l[i].xs.length l[i].c) := by
  have hl := flat_len partCells 2 partCells_len l
  obtain ⟨b, off, e, _⟩ := h (i * 2) (by omega)
  have key : ∀ f, f < 2 → w.cell? ⟨b, off + i * 2 + f, none⟩ = (partCells l[i])[f]? := by
    intro f hf
    obtain ⟨b', off', e', c⟩ := h.at (i := i * 2 + f) (by omega)
    rw [e] at e'
    simp only [Option.some.injEq, Addr.mk.injEq, and_true] at e'
    obtain ⟨rfl, rfl⟩ := e'
    rw [Nat.add_assoc, c, ← flat_at partCells 2 partCells_len l i f hi hf]
    exact (List.getElem?_eq_getElem _).symm
  exact ⟨b, off, e, key 0 (by omega), key 1 (by omega)⟩
theorem lines_at {w : World} {ao : Option Addr} {l : List LineD} (h : SlAt w ao (l.flatMap lineCells)) {i : Nat} (hi : i < l.length) :
    ∃ b off, ao = some ⟨b, off, none⟩ ∧ w.cell? ⟨b, off + i * 3, none⟩ = some (I l[i].base) ∧ w.cell? ⟨b, off + i * 3 + 1, none⟩ = some (I l[i].size) ∧ w.cell? ⟨b, off + i * 3 + 2, none⟩ = some (.slice l[i].a l[i].xs.length l[i].c) := by
  have hl := flat_len lineCells 3 lineCells_len l
  obtain ⟨b, off, e, _⟩ := h (i * 3) (by omega)
  have key : ∀ f, f < 3 → w.cell? ⟨b, off + i * 3 + f, none⟩ = (lineCells l[i])[f]? := by
    intro f hf
    obtain ⟨b', off', e', c⟩ := h.at (i := i * 3 + f) (by omega)
    rw [e] at e'
    simp only [Option.some.injEq, Addr.mk.injEq, and_true] at e'
    obtain ⟨rfl, rfl⟩ := e'
    rw [Nat.add_assoc, c, ← flat_at lineCells 3 lineCells_len l i f hi hf]
    exact (List.getElem?_eq_getElem _).symm
  exact ⟨b, off, e, key 0 (by omega), key 1 (by omega), key 2 (by omega)⟩
theorem nnot {p : Prop} (h : p) : ¬ ¬ p := fun f => f h

set_option maxRecDepth 100000 in
set_option maxHeartbeats 8000000 in
theorem csteps_head (w : World) (p : Pg) (hpl : p.parts.length ≤ 9223372036854775807) (hll : p.lines.length ≤ 9223372036854775807) (hol : p.ops.length ≤ 9223372036854775807)
    (r : Int × Int) (hr : stepsR p = r)
    (hs : ¬ ((0 ≤ p.mem ∧ p.mem ≤ 1024) ∧ (0 ≤ p.ctr ∧ p.ctr ≤ 17) ∧ (0 ≤ p.ins ∧ p.ins ≤ 16) ∧ (0 ≤ p.outs ∧ p.outs ≤ 16) ∧ p.parts.length ≤ 32 ∧ p.lines.length ≤ 96 ∧ p.ops.length ≤ 131072)) :
    Calls Tryd.prog 9 #[p.v] w fun e w' => e = .returned (.tuple #[I r.1, I r.2]) ∧ New w w' := by
  unfold stepsR at hr
  obtain ⟨pmem, pctr, pins, pouts, ppa, ppc, pparts, pla, plc, plines, poa, poc, ops⟩ := p
  simp only at hs hpl hll hol hr
  simp only [Pg.v, Pg.cs]
  by_cases c1 : 0 ≤ pmem ∧ pmem ≤ 1024
  · have d1 : decide (0 ≤ pmem ∧ pmem ≤ 1024) = true := by simpa using c1
    rw [if_neg (by simp [c1])] at hr
    by_cases c2 : 0 ≤ pctr ∧ pctr ≤ 17
    · have d2 : decide (0 ≤ pctr ∧ pctr ≤ 17) = true := by simpa using c2
      rw [if_neg (by simp [c2])] at hr
      by_cases c3 : 0 ≤ pins ∧ pins ≤ 16
      · have d3 : decide (0 ≤ pins ∧ pins ≤ 16) = true := by simpa using c3
        rw [if_neg (by simp [c3])] at hr
        by_cases c4 : 0 ≤ pouts ∧ pouts ≤ 16
        · have d4 : decide (0 ≤ pouts ∧ pouts ≤ 16) = true := by simpa using c4
          rw [if_neg (by simp [c4])] at hr
          by_cases c5 : 32 < pparts.length
          · rw [if_pos c5] at hr
            subst hr
            clear hs c1 c2 c3 c4
            go_enter Tryd.func9, Tryd.ntmps9
            go_wp2_with (go_at_call 15; refine (cwithin_any _ _ _).mono ?_; rintro e w' ⟨rfl, rfl⟩)
            go_ret2
            exact ⟨rfl, Keeps.alloc _ _⟩
          · rw [if_neg c5] at hr
            by_cases c6 : 96 < plines.length
            · rw [if_pos c6] at hr
              subst hr
              clear hs c1 c2 c3 c4
              go_enter Tryd.func9, Tryd.ntmps9
              go_wp2_with (go_at_call 15; refine (cwithin_any _ _ _).mono ?_; rintro e w' ⟨rfl, rfl⟩)
              go_ret2
              exact ⟨rfl, Keeps.alloc _ _⟩
            · rw [if_neg c6] at hr
              have c7 : 131072 < ops.length := by omega
              rw [if_pos c7] at hr
              subst hr
              clear hs c1 c2 c3 c4
              go_enter Tryd.func9, Tryd.ntmps9
              go_wp2_with (go_at_call 15; refine (cwithin_any _ _ _).mono ?_; rintro e w' ⟨rfl, rfl⟩)
              go_ret2
              exact ⟨rfl, Keeps.alloc _ _⟩
        · have d4 : decide (0 ≤ pouts ∧ pouts ≤ 16) = false := decide_eq_false c4
          rw [if_pos (by simpa using c4)] at hr
          subst hr
          clear hs c1 c2 c3 c4
          go_enter Tryd.func9, Tryd.ntmps9
          go_wp2_with (go_at_call 15; refine (cwithin_any _ _ _).mono ?_; rintro e w' ⟨rfl, rfl⟩)
          all_goals (go_ret2; exact ⟨rfl, Keeps.alloc _ _⟩)
      · have d3 : decide (0 ≤ pins ∧ pins ≤ 16) = false := decide_eq_false c3
        rw [if_pos (by simpa using c3)] at hr
        subst hr
        clear hs c1 c2 c3
        go_enter Tryd.func9, Tryd.ntmps9
        go_wp2_with (go_at_call 15; refine (cwithin_any _ _ _).mono ?_; rintro e w' ⟨rfl, rfl⟩)
        all_goals (go_ret2; exact ⟨rfl, Keeps.alloc _ _⟩)
    · have d2 : decide (0 ≤ pctr ∧ pctr ≤ 17) = false := decide_eq_false c2
      rw [if_pos (by simpa using c2)] at hr
      subst hr
      clear hs c1 c2
      go_enter Tryd.func9, Tryd.ntmps9
      go_wp2_with (go_at_call 15; refine (cwithin_any _ _ _).mono ?_; rintro e w' ⟨rfl, rfl⟩)
      all_goals (go_ret2; exact ⟨rfl, Keeps.alloc _ _⟩)
  · have d1 : decide (0 ≤ pmem ∧ pmem ≤ 1024) = false := decide_eq_false c1
    rw [if_pos (by simpa using c1)] at hr
    subst hr
    clear hs c1
    go_enter Tryd.func9, Tryd.ntmps9
    go_wp2_with (go_at_call 15; refine (cwithin_any _ _ _).mono ?_; rintro e w' ⟨rfl, rfl⟩)
    all_goals (go_ret2; exact ⟨rfl, Keeps.alloc _ _⟩)

set_option maxRecDepth 100000 in
set_option maxHeartbeats 8000000 in
theorem csteps_body (w : World) (p : Pg) (hb : Bnd p) (hm : 0 ≤ p.mem ∧ p.mem ≤ 1024) (hp : PgAt w p) (hxl : ∀ x ∈ p.parts, x.xs.length ≤ 9223372036854775807) (hyl : ∀ l ∈ p.lines, l.xs.length ≤ 9223372036854775807)
    (r : Int × Int) (hr : stepsR p = r) :
    Calls Tryd.prog 9 #[p.v] w fun e w' => e = .returned (.tuple #[I r.1, I r.2]) ∧ New w w' := by
  have hwk : ∀ w1, New w w1 → Calls Tryd.prog 17 #[.agg #[I p.mem, I p.ctr, I p.ins, I p.outs, .slice p.pa p.parts.length p.pc, .slice p.la p.lines.length p.lc, .slice p.oa p.ops.length p.oc]] w1 fun e w' => e = .returned (.tuple #[I (walkR p.lims p.ops).1, I (walkR p.lims p.ops).2]) ∧ New w1 w' :=
    fun w1 k => cwalk_any w1 p hb (hp.new k)
  have hpp := hp.pp
  have hpl := hp.pl
  have hpx := hp.px
  obtain ⟨c0, c1, i0, i1, o0, o1, np, nl, no⟩ := hb
  unfold stepsR at hr
  rw [if_neg (by simp [hm]), if_neg (by simp [c0, c1]), if_neg (by simp [i0, i1]), if_neg (by simp [o0, o1]), if_neg (by omega), if_neg (by omega), if_neg (by omega)] at hr
  have HR := Lib.hid hr
  clear hr hp
  generalize walkR p.lims p.ops = wk at hwk HR
  obtain ⟨pmem, pctr, pins, pouts, ppa, ppc, pparts, pla, plc, plines, poa, poc, ops⟩ := p
  simp only at *
  simp only [Pg.v, Pg.cs]
  have d1 : decide (0 ≤ pmem ∧ pmem ≤ 1024) = true := decide_eq_true hm
  have d2 : decide (0 ≤ pctr ∧ pctr ≤ 17) = true := decide_eq_true ⟨c0, c1⟩
  have d3 : decide (0 ≤ pins ∧ pins ≤ 16) = true := decide_eq_true ⟨i0, i1⟩
  have d4 : decide (0 ≤ pouts ∧ pouts ≤ 16) = true := decide_eq_true ⟨o0, o1⟩
  obtain ⟨hm0, hm1⟩ := hm
  clear c0 c1 i0 i1 o0 o1
  go_enter Tryd.func9, Tryd.ntmps9
  go_wp2_with (go_at_call 15; refine (cwithin_any _ _ _).mono ?_; rintro e w' ⟨rfl, rfl⟩)
  have hN0 : New w (w.alloc (.cells #[I pmem, I pctr, I pins, I pouts, .slice ppa pparts.length ppc, .slice pla plines.length plc, .slice poa ops.length poc] 39)) := (New.refl w).alloc _
  have b0 : (w.alloc (.cells #[I pmem, I pctr, I pins, I pouts, .slice ppa pparts.length ppc, .slice pla plines.length plc, .slice poa ops.length poc] 39)).cell? ⟨w.heap.size, 0, none⟩ = some (I pmem) := by simp
  have b1 : (w.alloc (.cells #[I pmem, I pctr, I pins, I pouts, .slice ppa pparts.length ppc, .slice pla plines.length plc, .slice poa ops.length poc] 39)).cell? ⟨w.heap.size, 1, none⟩ = some (I pctr) := by simp
  have b2 : (w.alloc (.cells #[I pmem, I pctr, I pins, I pouts, .slice ppa pparts.length ppc, .slice pla plines.length plc, .slice poa ops.length poc] 39)).cell? ⟨w.heap.size, 2, none⟩ = some (I pins) := by simp
  have b3 : (w.alloc (.cells #[I pmem, I pctr, I pins, I pouts, .slice ppa pparts.length ppc, .slice pla plines.length plc, .slice poa ops.length poc] 39)).cell? ⟨w.heap.size, 3, none⟩ = some (I pouts) := by simp
  have b4 : (w.alloc (.cells #[I pmem, I pctr, I pins, I pouts, .slice ppa pparts.length ppc, .slice pla plines.length plc, .slice poa ops.length poc] 39)).cell? ⟨w.heap.size, 4, none⟩ = some (.slice ppa pparts.length ppc) := by simp
  have b5 : (w.alloc (.cells #[I pmem, I pctr, I pins, I pouts, .slice ppa pparts.length ppc, .slice pla plines.length plc, .slice poa ops.length poc] 39)).cell? ⟨w.heap.size, 5, none⟩ = some (.slice pla plines.length plc) := by simp
  have b6 : (w.alloc (.cells #[I pmem, I pctr, I pins, I pouts, .slice ppa pparts.length ppc, .slice pla plines.length plc, .slice poa ops.length poc] 39)).cell? ⟨w.heap.size, 6, none⟩ = some (.slice poa ops.length poc) := by simp
  have hz0 : w.heap.size < (w.alloc (.cells #[I pmem, I pctr, I pins, I pouts, .slice ppa pparts.length ppc, .slice pla plines.length plc, .slice poa ops.length poc] 39)).heap.size := by simp
  generalize (w.alloc (.cells #[I pmem, I pctr, I pins, I pouts, .slice ppa pparts.length ppc, .slice pla plines.length plc, .slice poa ops.length poc] 39)) = W0 at hN0 b0 b1 b2 b3 b4 b5 b6 hz0 ⊢
  go_loopw [53] (fun i wr => ∃ k : Nat, k ≤ pparts.length ∧ i = .int .i64 k ∧ (∀ j (h : j < pparts.length), j < k → partE pparts[j] = 0) ∧ New W0 wr) (fun i _ => pparts.length - (intOf i).toNat)
  case atStart => exact ⟨0, by omega, rfl, by omega, New.refl _⟩
  case round =>
    obtain ⟨k, hk, rfl, hall, hnew⟩ := hrel
    have HA := Lib.hid hall
    clear hall
    have hsz : w.heap.size < wr.heap.size := by have := hnew.size; omega
    by_cases hk1 : k < pparts.length
    · obtain ⟨b, off, rfl, q0, q1⟩ := parts_at ((hpp.new hN0).new hnew) hk1
      have hxx := ((hpx _ (List.getElem_mem hk1)).new hN0).new hnew
      have hxn := hxl _ (List.getElem_mem hk1)
      have hbad : partE pparts[k] ≠ 0 → r = (0, partE pparts[k]) := fun h => by
        rw [← HR.out]
        have := partsE_at hk1 (fun j hj hjk => HA.out j hj hjk) h
        rw [this, if_pos h]
      have hgood : partE pparts[k] = 0 → ∀ j (h : j < pparts.length), j < k + 1 → partE pparts[j] = 0 := fun h j hj hjk => by
        by_cases e : j < k
        · exact HA.out j hj e
        · obtain rfl : j = k := by omega
          exact h
      obtain ⟨sh, hsh⟩ : ∃ sh, shapeS pparts[k].tag pparts[k].xs = sh := ⟨_, rfl⟩
      have hpe : partE pparts[k] = sh.1 := by unfold partE; rw [hsh]
      rw [hpe] at hbad hgood
      have HB := Lib.hid hbad
      have HG := Lib.hid hgood
      have hcs := shOf_is pparts[k].tag pparts[k].a pparts[k].c pparts[k].xs (wr.alloc (.cells #[.int .u8 pparts[k].tag, .slice pparts[k].a pparts[k].xs.length pparts[k].c] 52)) sh hsh (hxx.new (Keeps.alloc _ _)) hxn
      clear hbad hgood hsh hpe hxx
      generalize pparts[k] = x at q0 q1 hcs hxn
      go_wp2_with fail
      refine hcs.mono ?_
      rintro e w2 ⟨a1, ca, a2, cb, rfl, _, _, _, n2⟩
      clear hcs
      have hN2 : New W0 w2 := (hnew.alloc _).trans n2
      by_cases hz : sh.1 = 0
      · have e0 : (sh.1 != 0) = false := by simpa using hz
        have hG2 := Lib.hid (HG.out hz)
        clear hz
        go_wp2_with fail
        go_roundw
        case rel => exact ⟨k + 1, by omega, by go_num, hG2.out, hN2⟩
        case measure => simp [intOf]; omega
      · have e0 : (sh.1 != 0) = true := by simpa using hz
        have hB2 := Lib.hid (HB.out hz)
        clear hz
        go_wp2
        go_ret2
        rw [hB2.out]
        exact ⟨rfl, hN0.trans hN2⟩
    · have hke : k = pparts.length := by omega
      have hpz : partsE pparts = 0 := partsE_all (fun j hj => HA.out j hj (by omega))
      have HR2 : (if linesE pmem plines ≠ 0 then (0, linesE pmem plines) else wk) = r := by
        have h := HR.out
        rw [if_neg (nnot hpz)] at h
        exact h
      have HQ := Lib.hid HR2
      have c5 := hnew.cell b5
      have c0 := hnew.cell b0
      clear hke hpz HR2 HR HA hpp hpx hxl
      go_wp2_with fail
      have hsz0 := hsz
      obtain ⟨wo, rfl⟩ : ∃ wo : World, wo = wr := ⟨_, rfl⟩
      clear hk hk1
      go_loopw [73] (fun i wr => ∃ k : Nat, k ≤ plines.length ∧ i = .int .i64 k ∧ (∀ j (h : j < plines.length), j < k → lineE pmem plines[j] = 0) ∧ New wo wr) (fun i _ => plines.length - (intOf i).toNat)
      case atStart => exact ⟨0, by omega, rfl, by omega, New.refl _⟩
      case round =>
        obtain ⟨k, hk, rfl, hall, hnew2⟩ := hrel
        have HA := Lib.hid hall
        clear hall
        have hsz : w.heap.size < wr.heap.size := by have := hnew2.size; omega
        have e0 := hnew2.cell c0
        by_cases hk1 : k < plines.length
        · obtain ⟨b, off, rfl, q0, q1, q2⟩ := lines_at (((hpl.new hN0).new hnew).new hnew2) hk1
          have hxn := hyl _ (List.getElem_mem hk1)
          have hbad : lineE pmem plines[k] ≠ 0 → r = (0, lineE pmem plines[k]) := fun h => by
            rw [← HQ.out]
            have := linesE_at hk1 (fun j hj hjk => HA.out j hj hjk) h
            rw [this, if_pos h]
          have hgood : lineE pmem plines[k] = 0 → ∀ j (h : j < plines.length), j < k + 1 → lineE pmem plines[j] = 0 := fun h j hj hjk => by
            by_cases e : j < k
            · exact HA.out j hj e
            · obtain rfl : j = k := by omega
              exact h
          have HB := Lib.hid hbad
          have HG := Lib.hid hgood
          clear hbad hgood
          generalize plines[k] = x at q0 q1 q2 hxn HB HG
          have hN2 : New w ((wr.alloc (.cells #[I x.base, I x.size, .slice x.a x.xs.length x.c] 58)).alloc (.cells #[I x.base, I x.size] 56)) := (((hN0.trans hnew).trans hnew2).alloc _).alloc _
          have hN3 : New wo ((wr.alloc (.cells #[I x.base, I x.size, .slice x.a x.xs.length x.c] 58)).alloc (.cells #[I x.base, I x.size] 56)) := (hnew2.alloc _).alloc _
          by_cases z1 : 0 ≤ x.base ∧ x.base ≤ pmem
          · have f1 : decide (0 ≤ x.base ∧ x.base ≤ pmem) = true := decide_eq_true z1
            have hsub : IntKind.i64.wrap (pmem - x.base) = pmem - x.base := IntWalk.i64_in _ (by omega)
            by_cases z2 : 0 ≤ x.size ∧ x.size ≤ pmem - x.base
            · have f2 : decide (0 ≤ x.size ∧ x.size ≤ pmem - x.base) = true := decide_eq_true z2
              by_cases z3 : x.size < (x.xs.length : Int)
              · have hz : lineE pmem x = 88 := by unfold lineE; rw [if_neg (nnot z1), if_neg (nnot z2), if_pos z3]
                have HZ := Lib.hid (HB.out (by rw [hz]; decide))
                have HZ2 := Lib.hid hz
                clear hz z1 z2
                go_wp2_with (go_at_call 15; refine (cwithin_any _ _ _).mono ?_; rintro e w' ⟨rfl, rfl⟩)
                go_ret2
                rw [HZ.out, HZ2.out]
                exact ⟨rfl, hN2⟩
              · have hz : lineE pmem x = 0 := by unfold lineE; rw [if_neg (nnot z1), if_neg (nnot z2), if_neg z3]
                have HZ := Lib.hid (HG.out hz)
                clear hz z1 z2
                go_wp2_with (go_at_call 15; refine (cwithin_any _ _ _).mono ?_; rintro e w' ⟨rfl, rfl⟩)
                go_roundw
                case rel => exact ⟨k + 1, by omega, by go_num, HZ.out, hN3⟩
                case measure => simp [intOf]; omega
            · have f2 : decide (0 ≤ x.size ∧ x.size ≤ pmem - x.base) = false := decide_eq_false z2
              have hz : lineE pmem x = 190 := by unfold lineE; rw [if_neg (nnot z1), if_pos z2]
              have HZ := Lib.hid (HB.out (by rw [hz]; decide))
              have HZ2 := Lib.hid hz
              clear hz z1 z2
              go_wp2_with (go_at_call 15; refine (cwithin_any _ _ _).mono ?_; rintro e w' ⟨rfl, rfl⟩)
              go_ret2
              rw [HZ.out, HZ2.out]
              exact ⟨rfl, hN2⟩
          · have f1 : decide (0 ≤ x.base ∧ x.base ≤ pmem) = false := decide_eq_false z1
            have hz : lineE pmem x = 190 := by unfold lineE; rw [if_pos z1]
            have HZ := Lib.hid (HB.out (by rw [hz]; decide))
            have HZ2 := Lib.hid hz
            clear hz z1
            go_wp2_with (go_at_call 15; refine (cwithin_any _ _ _).mono ?_; rintro e w' ⟨rfl, rfl⟩)
            go_ret2
            rw [HZ.out, HZ2.out]
            exact ⟨rfl, hN2⟩
        · have hke : k = plines.length := by omega
          have hpz : linesE pmem plines = 0 := linesE_all (fun j hj => HA.out j hj (by omega))
          have HR2 : wk = r := by
            have h := HQ.out
            rw [if_neg (nnot hpz)] at h
            exact h
          have HQ2 := Lib.hid HR2
          have hNw : New w wr := (hN0.trans hnew).trans hnew2
          have hcw := hwk wr hNw
          have g1 := hnew2.cell (hnew.cell b1)
          have g2 := hnew2.cell (hnew.cell b2)
          have g3 := hnew2.cell (hnew.cell b3)
          have g4 := hnew2.cell (hnew.cell b4)
          have g5 := hnew2.cell (hnew.cell b5)
          have g6 := hnew2.cell (hnew.cell b6)
          clear hke hpz HR2 HQ HA
          go_wp2_with fail
          refine hcw.mono ?_
          rintro e w2 ⟨rfl, n2⟩
          go_wp2
          go_ret2
          rw [← HQ2.out]
          exact ⟨rfl, hNw.trans n2⟩

/-- The lengths that a slice may have. -/
structure Lens (p : Pg) : Prop where
  np : p.parts.length ≤ 9223372036854775807
  nl : p.lines.length ≤ 9223372036854775807
  no : p.ops.length ≤ 9223372036854775807
  px : ∀ x ∈ p.parts, x.xs.length ≤ 9223372036854775807
  lx : ∀ l ∈ p.lines, l.xs.length ≤ 9223372036854775807
theorem csteps_any (w : World) (p : Pg) (hp : PgAt w p) (hl : Lens p) :
    Calls Tryd.prog 9 #[p.v] w fun e w' => e = .returned (.tuple #[I (stepsR p).1, I (stepsR p).2]) ∧ New w w' := by
  by_cases hs : (0 ≤ p.mem ∧ p.mem ≤ 1024) ∧ (0 ≤ p.ctr ∧ p.ctr ≤ 17) ∧ (0 ≤ p.ins ∧ p.ins ≤ 16) ∧ (0 ≤ p.outs ∧ p.outs ≤ 16) ∧ p.parts.length ≤ 32 ∧ p.lines.length ≤ 96 ∧ p.ops.length ≤ 131072
  · obtain ⟨c1, ⟨c2, c2'⟩, ⟨c3, c3'⟩, ⟨c4, c4'⟩, c5, c6, c7⟩ := hs
    exact csteps_body w p ⟨c2, c2', c3, c3', c4, c4', c5, c6, c7⟩ c1 hp hl.px hl.lx _ rfl
  · exact csteps_head w p hl.np hl.nl hl.no _ rfl hs
theorem ccheck_any (w : World) (p : Pg) (hp : PgAt w p) (hl : Lens p) :
    Calls Tryd.prog 18 #[p.v] w fun e w' => e = .returned (I (stepsR p).2) ∧ New w w' := by
  have h := csteps_any (w.alloc (.cells p.cs 39)) p (hp.new (Keeps.alloc _ _)) hl
  generalize stepsR p = r at h ⊢
  simp only [Pg.v, Pg.cs] at h ⊢
  go_enter Tryd.func18, Tryd.ntmps18
  go_wp2_with fail
  refine h.mono ?_
  rintro e w' ⟨rfl, hn⟩
  go_wp2
  go_ret
  exact ⟨rfl, New.trans (Keeps.alloc _ _) hn⟩

end Go.Proofs.YtfmpjbiaamkobaaDoor
