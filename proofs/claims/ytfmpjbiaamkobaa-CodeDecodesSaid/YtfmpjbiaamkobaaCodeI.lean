/-
  Layer 20: the document's Check and the program's are one.
-/
import Derived.Test.YtfmpjbiaamkobaaCodeH
namespace Go.Proofs.Ytfmpjbiaamkobaa
open Go Go.RowKit
set_option linter.all false

theorem rcheck_any (w : World) (p : Pg) (hp : PgAt w p) (hl : Lens p) :
    Calls Try.prog 14 #[p.v] w fun e w' => e = .returned (I (stepsR p).2) ∧ New w w' := by
  by_cases hs : (0 ≤ p.mem ∧ p.mem ≤ 1024) ∧ (0 ≤ p.ctr ∧ p.ctr ≤ 17) ∧ (0 ≤ p.ins ∧ p.ins ≤ 16) ∧ (0 ≤ p.outs ∧ p.outs ≤ 16) ∧ p.parts.length ≤ 32 ∧ p.lines.length ≤ 96 ∧ p.ops.length ≤ 131072
  · obtain ⟨c1, ⟨c2, c2'⟩, ⟨c3, c3'⟩, ⟨c4, c4'⟩, c5, c6, c7⟩ := hs
    exact rcheck_body w p ⟨c2, c2', c3, c3', c4, c4', c5, c6, c7⟩ c1 hp hl _ rfl
  · exact rcheck_big w p hl _ rfl hs

theorem stepsR_ok {p : Pg} (h : (stepsR p).2 = 0) : stepsR p = ((rowsS p.ops p.ops.length 0).1, 0) ∧ loopsE p.lims p.ops = 0 ∧ p.ops.length ≤ 131072 := by
  unfold stepsR at h ⊢
  rw [walkR_eq] at h ⊢
  revert h
  repeat' split
  all_goals intro h
  all_goals first
    | (exfalso; simp only at h; omega)
    | exact ⟨rfl, by assumption, by omega⟩
theorem stepsR_bad {p : Pg} (h : (stepsR p).2 ≠ 0) : stepsR p = (0, (stepsR p).2) := by
  unfold stepsR at h ⊢
  rw [walkR_eq] at h ⊢
  revert h
  repeat' split
  all_goals intro h
  all_goals first
    | rfl
    | (exfalso; exact h rfl)

theorem rSteps_any (w : World) (p : Pg) (hp : PgAt w p) (hl : Lens p) :
    Calls Try.prog 17 #[p.v] w fun e w' => e = .returned (.tuple #[I (stepsR p).1, I (stepsR p).2]) ∧ New w w' := by
  have ka : New w (w.alloc (.cells p.cs 26)) := Keeps.alloc _ _
  have hc := rcheck_any (w.alloc (.cells p.cs 26)) p (hp.new ka) hl
  by_cases h0 : (stepsR p).2 = 0
  · obtain ⟨h1, h2, h3⟩ := stepsR_ok h0
    have hs : ∀ w1, New w w1 → Calls Try.prog 29 #[p.v] w1 fun e w' => e = .returned (I (rowsS p.ops p.ops.length 0).1) ∧ New w1 w' := fun w1 k => rsteps_any w1 p h3 (heads_ok h2) (hp.po.new k)
    rw [h0] at hc
    rw [h1]
    generalize (rowsS p.ops p.ops.length 0).1 = st at hs ⊢
    clear hp hl h0 h1 h2 h3
    simp only [Pg.v, Pg.cs] at hc hs ka ⊢
    go_enter Try.func17, Try.ntmps17
    go_wp2_with fail
    refine hc.mono ?_
    rintro e w2 ⟨rfl, n2⟩
    have c0 := n2.cell (p := ⟨w.heap.size, 0, none⟩) (v := I p.mem) (by simp)
    have c1 := n2.cell (p := ⟨w.heap.size, 1, none⟩) (v := I p.ctr) (by simp)
    have c2 := n2.cell (p := ⟨w.heap.size, 2, none⟩) (v := I p.ins) (by simp)
    have c3 := n2.cell (p := ⟨w.heap.size, 3, none⟩) (v := I p.outs) (by simp)
    have c4 := n2.cell (p := ⟨w.heap.size, 4, none⟩) (v := .slice p.pa p.parts.length p.pc) (by simp)
    have c5 := n2.cell (p := ⟨w.heap.size, 5, none⟩) (v := .slice p.la p.lines.length p.lc) (by simp)
    have c6 := n2.cell (p := ⟨w.heap.size, 6, none⟩) (v := .slice p.oa p.ops.length p.oc) (by simp)
    go_wp2_with fail
    refine (hs w2 (ka.trans n2)).mono ?_
    rintro e w3 ⟨rfl, n3⟩
    go_wp2
    go_ret2
    exact ⟨rfl, (ka.trans n2).trans n3⟩
  · rw [stepsR_bad h0]
    generalize (stepsR p).2 = r at hc h0 ⊢
    have e0 : (r != 0) = true := by simpa using h0
    clear hp hl h0
    simp only [Pg.v, Pg.cs] at hc ka ⊢
    go_enter Try.func17, Try.ntmps17
    go_wp2_with fail
    refine hc.mono ?_
    rintro e w2 ⟨rfl, n2⟩
    go_wp2
    go_ret2
    exact ⟨rfl, ka.trans n2⟩

end Go.Proofs.Ytfmpjbiaamkobaa
