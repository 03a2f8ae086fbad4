/-
  Layer 20: the document's answer: steps, Check.
-/
import Derived.Test.YtfmpjbiaamkobaaDoorCodeG
namespace Go.Proofs.YtfmpjbiaamkobaaDoor
open Go Go.RowKit
set_option linter.all false

theorem walkL_all {L : Lims} {ops : List OpD} : ∀ (r : List OpD) (i : Nat) (fr t : List Nat), walkL L ops r i fr = .ok t → ∀ (k : Nat) (hk : k < r.length), okOp L (i + k) r[k] = true := by
  intro r
  induction r with
  | nil => intro i fr t h k hk; simp at hk
  | cons o r ih =>
    intro i fr t h k hk
    unfold walkL at h
    cases hs : stepL L ops i o fr with
    | error e => rw [hs] at h; cases h
    | ok q =>
      rw [hs] at h
      cases k with
      | zero =>
        simp only [Nat.add_zero, List.getElem_cons_zero]
        unfold stepL at hs
        by_cases h0 : okOp L i o = false
        · rw [if_pos h0] at hs; cases hs
        · simpa using h0
      | succ k =>
        simp only [List.getElem_cons_succ]
        have := ih (i + 1) q t h k (by simpa using hk)
        rw [show i + (k + 1) = i + 1 + k by omega]
        exact this
theorem heads_ok {L : Lims} {ops : List OpD} (h : loopsE L ops = 0) : ∀ o ∈ ops, o.kind = 1 → 1 ≤ o.b ∧ o.b ≤ 2048 := by
  intro o ho h1
  obtain ⟨k, hk, rfl⟩ := List.getElem_of_mem ho
  unfold loopsE at h
  cases hw : walkL L ops ops 0 [] with
  | error e =>
    rw [hw] at h
    simp only at h
    subst h
    exfalso
    have key : ∀ (r : List OpD) (i : Nat) (fr : List Nat), walkL L ops r i fr ≠ .error 0 := by
      intro r
      induction r with
      | nil => intro i fr h; cases h
      | cons o r ih =>
        intro i fr h
        unfold walkL at h
        cases hs : stepL L ops i o fr with
        | ok q => rw [hs] at h; exact ih _ _ h
        | error e' =>
          rw [hs] at h
          simp only [Except.error.injEq] at h
          subst h
          unfold stepL at hs
          revert hs
          (repeat' split) <;> simp
    exact key _ _ _ hw
  | ok t =>
    have := walkL_all ops 0 [] t hw k hk
    have h2 := okOp_head this h1
    exact ⟨h2.2.2.1, h2.2.2.2⟩


end Go.Proofs.YtfmpjbiaamkobaaDoor
