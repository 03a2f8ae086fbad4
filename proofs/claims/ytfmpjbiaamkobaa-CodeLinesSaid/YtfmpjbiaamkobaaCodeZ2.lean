/-
  Layer 20, plain: what is known of each operation of a sound program.
-/
import Derived.Test.YtfmpjbiaamkobaaCodeZ
namespace Go.Proofs.Ytfmpjbiaamkobaa
open Go Go.RowKit
set_option linter.all false

theorem okOp_cases {L : Lims} {i : Nat} {o : OpD} (h : okOp L i o = true) :
    (o.kind = 0 ∧ o.a = 0 ∧ o.b = 0 ∧ (i : Int) = L.ops - 1) ∨ (o.kind = 1 ∧ 0 ≤ o.a ∧ o.a < L.ctr ∧ 1 ≤ o.b ∧ o.b ≤ 2048) ∨ (o.kind = 2 ∧ 0 ≤ o.a ∧ o.a < L.ctr ∧ 0 ≤ o.b ∧ o.b < L.ops) ∨
    (o.kind = 3 ∧ 0 ≤ o.a ∧ o.a < L.lines ∧ 1 ≤ o.b ∧ o.b ≤ 64) ∨ (o.kind = 4 ∧ 0 ≤ o.a ∧ o.a < L.ins ∧ 1 ≤ o.b ∧ o.b ≤ 64) ∨ (o.kind = 5 ∧ 0 ≤ o.a ∧ o.a < L.parts ∧ o.b = 0) ∨
    (o.kind = 6 ∧ 0 ≤ o.a ∧ o.a < L.lines ∧ 1 ≤ o.b ∧ o.b ≤ 64) ∨ (o.kind = 7 ∧ 0 ≤ o.a ∧ o.a < L.outs ∧ 1 ≤ o.b ∧ o.b ≤ 64) := by
  unfold okOp at h
  repeat' split at h
  all_goals (try (simp only [decide_eq_true_eq] at h))
  all_goals (first | omega | (exfalso; revert h; decide))
theorem last_kind {p : Pg} (h : (stepsR p).2 = 0) : 0 < p.ops.length ∧ ∀ (k : Nat) (hk : k < p.ops.length), p.ops[k].kind ≠ 0 → k + 1 < p.ops.length := by
  obtain ⟨_, h1, _⟩ := stepsR_ok h
  rw [loopsE_eq] at h1
  have hl : lastEnd p.ops = true := by
    cases hw : walkS p.lims p.ops p.ops 0 ⟨[], 0⟩ with
    | error e =>
      rw [hw] at h1
      simp only at h1
      exact absurd h1 (walkS_err _ _ _ _ _ _ hw)
    | ok τ =>
      rw [hw] at h1
      simp only at h1
      cases hx : lastEnd p.ops with
      | true => rfl
      | false => rw [hx] at h1; simp at h1
  obtain ⟨o, ho, hk⟩ := (lastEnd_iff p.ops).1 hl
  have hne : p.ops ≠ [] := by rintro e; rw [e] at ho; cases ho
  have hpos : 0 < p.ops.length := List.length_pos_iff.2 hne
  refine ⟨hpos, fun k hk1 hk2 => ?_⟩
  rcases Nat.lt_or_ge (k + 1) p.ops.length with h2 | h2
  · exact h2
  · exfalso
    have e : k = p.ops.length - 1 := by omega
    rw [List.getLast?_eq_getElem?] at ho
    rw [← e, List.getElem?_eq_getElem hk1] at ho
    cases ho
    exact hk2 hk
end Go.Proofs.Ytfmpjbiaamkobaa
