/-
  'CodeLines': the law returns true at every input; what it is handed reads afterwards as before.
-/
import Derived.Test.YtfmpjbiaamkobaaRead
import Derived.Test.YtfmpjbiaamkobaaReadProg
import Derived.Test.YtfmpjbiaamkobaaCodeZ2
namespace Go.Proofs.Ytfmpjbiaamkobaa.codeLines
open Go Go.RowKit Go.Joins Go.ChangeShapes Go.WideShapes Go.ChangeAt
open Go.ChangeMaps (open_string shut_string)
set_option linter.all false

set_option maxRecDepth 100000 in
set_option maxHeartbeats 4000000 in
theorem bad (w : World) (p0 : Pg) (hp0 : PgAt w p0) (hl0 : Lens p0) (hw0 : PgWf p0) (h0 : (stepsR p0).2 ≠ 0) :
    Calls Try.prog 11 #[p0.v] w fun e w' => e = .returned (.bool true) ∧ New w w' := by
  have ka : New w (w.alloc (.cells p0.cs 26)) := Keeps.alloc _ _
  have h2 := fun W k => ccheck_any W p0 (hp0.new k) hl0
  generalize (stepsR p0).2 = r at h0 h2
  have e0 : (r != 0) = true := by simpa using h0
  simp only [Pg.v, Pg.cs] at h2 ka ⊢
  clear hp0 hl0 hw0 h0
  go_enter Try.func11, Try.ntmps11
  go_wp2_with fail
  refine (h2 _ ka).mono ?_
  rintro e w1 ⟨rfl, n1⟩
  go_wp2_with fail
  refine (awake_any _).mono ?_
  rintro e w9 ⟨rfl, n9⟩
  go_wp2_with fail
  go_ret
  exact ⟨rfl, (ka.trans n1).trans n9⟩

set_option maxRecDepth 100000 in
set_option maxHeartbeats 8000000 in
theorem good (w : World) (p0 : Pg) (hp0 : PgAt w p0) (hl0 : Lens p0) (hw0 : PgWf p0) (h0 : (stepsR p0).2 = 0) :
    Calls Try.prog 11 #[p0.v] w fun e w' => e = .returned (.bool true) ∧ New w w' := by
  have ka : New w (w.alloc (.cells p0.cs 26)) := Keeps.alloc _ _
  have h2 := fun W k => ccheck_any W p0 (hp0.new k) hl0
  rw [h0] at h2
  have HOK := Lib.hid (ops_ok h0)
  have HLE := Lib.hid (linesE_zero (stepsR_all h0).2.2.2.2.2.2.2.2.1)
  have hall := stepsR_all h0
  obtain ⟨hpos, hlast⟩ := last_kind h0
  have HLA := Lib.hid hlast
  obtain ⟨⟨m0, m1⟩, ⟨c0, c1⟩, ⟨i0, i1⟩, ⟨o0, o1⟩, np, nl, no, _⟩ := hall
  have hpo := hp0.po
  have hpl := hp0.pl
  clear hlast h0 hl0 hw0 hp0
  obtain ⟨pmem, pctr, pins, pouts, ppa, ppc, pparts, pla, plc, plines, poa, poc, pops⟩ := p0
  simp only [Pg.lims] at HOK
  simp only at *
  simp only [Pg.v, Pg.cs] at h2 ka ⊢
  go_enter Try.func11, Try.ntmps11
  go_wp2_with fail
  refine (h2 _ ka).mono ?_
  rintro e w1 ⟨rfl, n1⟩
  have x0 := n1.cell (p := ⟨w.heap.size, 0, none⟩) (v := I pmem) (by simp)
  have x1 := n1.cell (p := ⟨w.heap.size, 1, none⟩) (v := I pctr) (by simp)
  have x2 := n1.cell (p := ⟨w.heap.size, 2, none⟩) (v := I pins) (by simp)
  have x3 := n1.cell (p := ⟨w.heap.size, 3, none⟩) (v := I pouts) (by simp)
  have x4 := n1.cell (p := ⟨w.heap.size, 4, none⟩) (v := .slice ppa pparts.length ppc) (by simp)
  have x5 := n1.cell (p := ⟨w.heap.size, 5, none⟩) (v := .slice pla plines.length plc) (by simp)
  have x6 := n1.cell (p := ⟨w.heap.size, 6, none⟩) (v := .slice poa pops.length poc) (by simp)
  have hN1 := ka.trans n1
  clear h2 n1 ka
  go_wp2_with fail
  go_loopw [3] (fun i wr => ∃ k : Nat, k ≤ plines.length ∧ i = .int .i64 k ∧ New w1 wr) (fun i _ => plines.length - (intOf i).toNat)
  case atStart => exact ⟨0, by omega, rfl, New.refl _⟩
  case round =>
    obtain ⟨k, hk, rfl, hN⟩ := hrel
    have y5 := hN.cell x5
    by_cases hk1 : k < plines.length
    · have y0 := hN.cell x0
      obtain ⟨b, off, rfl, q0, q1, q2⟩ := lines_at (hpl.new (hN1.trans hN)) hk1
      have he := lineE_ok (HLE.out _ (List.getElem_mem hk1))
      have hk0 : (k : Int) < (plines.length : Int) := by omega
      have hsz : w.heap.size < wr.heap.size := World.block_lt_of_cell? wr _ y0
      have hqb : b < wr.heap.size := World.block_lt_of_cell? wr _ q0
      generalize plines[k] = x at q0 q1 q2 he
      obtain ⟨e1, e2, e3, e4, e5⟩ := he
      have e6 : x.base + x.size ≤ pmem := by omega
      have e7 : x.base ≤ x.base + x.size := by omega
      have e8 : IntKind.i64.wrap (x.base + x.size) = x.base + x.size := IntWalk.i64_in _ (by omega)
      have e9 : (0 : Int) ≤ (k : Int) := by omega
      go_wp2_with fail
      go_quiet (fail)
      go_wp2_with fail
      go_roundw
      case rel => exact ⟨k + 1, by omega, by go_num, by first | exact hN.alloc _ | exact (hN.alloc _).drewN _⟩
      case measure => simp [intOf]; omega
    · have hk9 : plines.length ≤ k := by omega
      have hd9 : decide (k < plines.length) = false := decide_eq_false (by omega)
      clear hk hk1
      go_wp2_with fail
      obtain ⟨wo, rfl⟩ : ∃ wo : World, wo = wr := ⟨_, rfl⟩
      have hNo := hN1.trans hN
      replace x0 := hN.cell x0
      replace x1 := hN.cell x1
      replace x2 := hN.cell x2
      replace x3 := hN.cell x3
      replace x4 := hN.cell x4
      replace x5 := hN.cell x5
      replace x6 := hN.cell x6
      clear y5 hN
      go_loopw [5, 7] (fun i _ wr => ∃ k : Nat, k ≤ pops.length ∧ i = .int .i64 k ∧ New wo wr) (fun i _ _ => pops.length - (intOf i).toNat)
      case atStart => exact ⟨0, by omega, rfl, New.refl _⟩
      case round =>
        obtain ⟨k, hk, rfl, hN⟩ := hrel
        have y6 := hN.cell x6
        by_cases hk1 : k < pops.length
        · obtain ⟨b, off, rfl, q0, q1, q2⟩ := ops_at (hpo.new (hNo.trans hN)) hk1
          have hc := okOp_cases (HOK.out k hk1)
          have hk0 : (k : Int) < (pops.length : Int) := by omega
          have hsz : w.heap.size < wr.heap.size := World.block_lt_of_cell? wr _ y6
          have hlk := HLA.out k hk1
          generalize pops[k] = x at q0 q1 q2 hc hlk
          obtain ⟨xk, xa, xb⟩ := x
          simp only at hc hlk q0 q1 q2
          have y0 := hN.cell x0
          have y1 := hN.cell x1
          have y2 := hN.cell x2
          have y3 := hN.cell x3
          have y4 := hN.cell x4
          have y5 := hN.cell x5
          replace y6 := hN.cell x6
          rcases hc with ⟨rfl, rfl, rfl, hl⟩ | ⟨rfl, h1, h2, h3, h4⟩ | ⟨rfl, h1, h2, h3, h4⟩ | ⟨rfl, h1, h2, h3, h4⟩ | ⟨rfl, h1, h2, h3, h4⟩ | ⟨rfl, h1, h2, rfl⟩ | ⟨rfl, h1, h2, h3, h4⟩ | ⟨rfl, h1, h2, h3, h4⟩
          · have hl2 : ((k : Int) == (pops.length : Int) - 1) = true := by simpa using hl
            clear hl hlk
            go_wp2_with fail
            go_roundw
            case rel => exact ⟨k + 1, by omega, by go_num, hN.alloc _⟩
            case measure => simp [intOf]; omega
          all_goals
            have hl2 : ((k : Int) == (pops.length : Int) - 1) = false := by
              have := hlk (by decide)
              simp; omega
            clear hlk
            go_wp2_with fail
            go_roundw
            case rel => exact ⟨k + 1, by omega, by go_num, hN.alloc _⟩
            case measure => simp [intOf]; omega
        · have y0 := hN.cell x0
          have hk9 : pops.length ≤ k := by omega
          have hp9 : (0 : Int) < (pops.length : Int) := by omega
          clear hk hk1
          go_wp2_with fail
          refine (awake_any _).mono ?_
          rintro e w9 ⟨rfl, n9⟩
          go_wp2_with fail
          go_ret
          exact ⟨rfl, (hNo.trans hN).trans n9⟩

set_option maxRecDepth 100000 in
set_option maxHeartbeats 4000000 in
theorem walk (w : World) (p0 : Pg) (hp0 : PgAt w p0) (hl0 : Lens p0) (hw0 : PgWf p0) :
    Calls Try.prog 11 #[p0.v] w fun e w' => e = .returned (.bool true) ∧ New w w' := by
  by_cases h0 : (stepsR p0).2 = 0
  · exact good w p0 hp0 hl0 hw0 h0
  · exact bad w p0 hp0 hl0 hw0 h0
set_option maxRecDepth 100000 in
theorem lifted (os : Os) (started : os.Started) (H : Type) (enc : TypeId × Value → H) :
    ReturnsInHanded {} Try.checked os 11 .any (Rows.codeLinesSpec.pre6 enc Try.prog Try.f11 Rows.codeLinesRow.domain false) (Rows.codeLinesSpec.post enc Try.prog Try.f11 false true false false) := by
  refine returnsInHanded_of_change (C := Try.checked) own started (by kernel_rfl) Try.func11
    (ChangeSpec.witness6 (enc := enc) (C := Try.checked) false ⟨#[], #[.agg #[.int .i64 0, .int .i64 0, .int .i64 0, .int .i64 0, .slice none 0 0, .slice none 0 0, .slice none 0 0]], []⟩ 8 (by kernel_rfl) (by kernel_rfl) (by kernel_rfl) (by kernel_rfl)) ?_
  intro W base args ds gs before hval0 hW hcnd _
  have hval : ∀ (j : Nat) t v, Try.f11.params[j]? = some t → args[j]? = some v → Value.okWide Try.prog W .any base t v := hval0
  have hW' := hW
  obtain ⟨p, q, hA0, hV, rfl, hfz, hnd⟩ := hW
  have hA : DataW.TrodAll enc Try.prog W 0 (fun _ => true) true Try.f11.params.toList args.toList ds p := hA0
  rw [Try.params11] at hA hval
  obtain ⟨v0, vs0, d0, ds0, p0, q0, hargs, rfl, rfl, h0, r0'⟩ := trodAll_cons hA
  obtain ⟨rfl, rfl, rfl⟩ := trodAll_nil r0'
  obtain rfl : args = #[v0] := by cases args; simp_all
  obtain ⟨rfl, rfl⟩ := trodVars_none hV
  have k0 := h0
  have lt0 : ∀ x ∈ p0, x.block < W.heap.size := by obtain ⟨m, hm⟩ := k0; exact DataW.trod_lt m _ _ _ hm
  obtain ⟨p0', rfl, hp0, hl0, hw0⟩ := read_prog (hval 0 26 v0 rfl rfl) h0
  clear hA0 hval0
  refine (walk W p0' hp0 hl0 hw0).mono fun e W' ⟨he, hnew⟩ => ?_
  have bel := hnew.below
  subst he
  exact ⟨_, rfl, _, _, _, [], _, [], hW', trodAll_mk1 (shut_bool Try.underlying4 _), (trodAll_cons_mk (Below.trod laidOut (by kernel_rfl) (of_decide_eq_true (by kernel_rfl)) k0 bel lt0) trodAll_mk0), rfl, bel.frame _, fun h => by cases h⟩

theorem over : Rows.codeLinesRow.holds Try.pinned (OpenSpec.ofChange Rows.codeLinesSpec) :=
  OpenClaim.holds_of_wide 11 Try.f11 rfl rfl rfl rfl rfl rfl rfl ⟨rfl, rfl, rfl, rfl, rfl⟩ rfl rfl rfl rfl rfl (by kernel_rfl) Try.func11 (by kernel_rfl)
    (of_decide_eq_true (by kernel_rfl)) (by unfold Func.isWrapper; first | (rw [if_pos (by decide +kernel)]; kernel_rfl) | (rw [if_neg (by decide +kernel)]; exact ⟨rfl, rfl⟩))
    (fun os started H enc _ => lifted os started H enc)

/-- THE STATEMENT. -/
theorem proved : Rows.CodeLinesSaid := over
end Go.Proofs.Ytfmpjbiaamkobaa.codeLines
