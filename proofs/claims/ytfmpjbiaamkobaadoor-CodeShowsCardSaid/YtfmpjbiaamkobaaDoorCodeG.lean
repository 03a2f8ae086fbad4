/-
  Layer 20: the document's answer: rows, and the steps.
-/
import Derived.Test.YtfmpjbiaamkobaaDoorCodeF
namespace Go.Proofs.YtfmpjbiaamkobaaDoor
open Go Go.RowKit
set_option linter.all false

theorem rowsS_past {ops : List OpD} {f a : Nat} (h : ops.length ≤ a) : rowsS ops f a = (0, a) := by
  cases f with
  | zero => rfl
  | succ f => unfold rowsS; rw [if_pos (.inl h)]
theorem rowsS_le {ops : List OpD} : ∀ (f a : Nat), a ≤ ops.length → (rowsS ops f a).2 ≤ ops.length + f := by
  intro f
  induction f with
  | zero => intro a h; exact h
  | succ f ih =>
    intro a h
    unfold rowsS
    by_cases h1 : ops.length ≤ a ∨ (opAt ops a).kind = 2
    · rw [if_pos h1]; simp only; omega
    · rw [if_neg h1]
      have ha : a < ops.length := by omega
      have i1 := ih (a + 1) (by omega)
      by_cases h2 : (opAt ops a).kind = 1
      · rw [if_pos h2]
        simp only
        by_cases h3 : (rowsS ops f (a + 1)).2 + 1 ≤ ops.length
        · have := ih _ h3; omega
        · rw [rowsS_past (by omega)]; simp only; omega
      · rw [if_neg h2]; simp only; omega
theorem opAt_mem {ops : List OpD} {a : Nat} (h : a < ops.length) : opAt ops a ∈ ops := by unfold opAt; rw [List.getD_eq_getElem?_getD, List.getElem?_eq_getElem h]; exact List.getElem_mem h
theorem capS_two {s k x : Int} (hs : 0 ≤ s) (hk : 0 ≤ k) (hx : 0 ≤ x) : capS (s + capS (k + x)) = capS (capS (s + k) + x) := by
  rw [capS_add' hs (by omega), capS_add (by omega) hx]; congr 1; omega
theorem rowsS_end {ops : List OpD} {g a : Nat} (h : ops.length ≤ a ∨ (opAt ops a).kind = 2) : rowsS ops g a = (0, a) := by
  cases g with
  | zero => rfl
  | succ g => unfold rowsS; rw [if_pos h]
theorem rowsS_head {ops : List OpD} {g a : Nat} {s : Int} (hB : ∀ o ∈ ops, o.kind = 1 → 1 ≤ o.b) (hs : 0 ≤ s) (h : a < ops.length) (h1 : (opAt ops a).kind = 1) {i : Int} {b : Nat} (hi : rowsS ops g (a + 1) = (i, b)) :
    (capS (s + (rowsS ops (g + 1) a).1), (rowsS ops (g + 1) a).2) = (capS (capS (s + loopR (opAt ops a).b i) + (rowsS ops g (b + 1)).1), (rowsS ops g (b + 1)).2) := by
  have e : rowsS ops (g + 1) a = (capS (loopR (opAt ops a).b i + (rowsS ops g (b + 1)).1), (rowsS ops g (b + 1)).2) := by
    show (if ops.length ≤ a ∨ (opAt ops a).kind = 2 then (0, a) else if (opAt ops a).kind = 1 then (capS (loopR (opAt ops a).b (rowsS ops g (a + 1)).1 + (rowsS ops g ((rowsS ops g (a + 1)).2 + 1)).1), (rowsS ops g ((rowsS ops g (a + 1)).2 + 1)).2) else (capS (1 + (rowsS ops g (a + 1)).1), (rowsS ops g (a + 1)).2)) = _
    rw [if_neg (by omega), if_pos h1, hi]
  have hn := rowsS_nn hB g (a + 1)
  rw [hi] at hn
  rw [e]
  simp only
  rw [capS_two hs (loopR_nn (hB _ (opAt_mem h) h1) hn.1) (rowsS_nn hB g (b + 1)).1]
theorem rowsS_one {ops : List OpD} {g a : Nat} {s : Int} (hB : ∀ o ∈ ops, o.kind = 1 → 1 ≤ o.b) (hs : 0 ≤ s) (h : a < ops.length) (h1 : (opAt ops a).kind ≠ 1) (h2 : (opAt ops a).kind ≠ 2) :
    (capS (s + (rowsS ops (g + 1) a).1), (rowsS ops (g + 1) a).2) = (capS (capS (s + 1) + (rowsS ops g (a + 1)).1), (rowsS ops g (a + 1)).2) := by
  have e : rowsS ops (g + 1) a = (capS (1 + (rowsS ops g (a + 1)).1), (rowsS ops g (a + 1)).2) := by
    show (if ops.length ≤ a ∨ (opAt ops a).kind = 2 then (0, a) else if (opAt ops a).kind = 1 then (capS (loopR (opAt ops a).b (rowsS ops g (a + 1)).1 + (rowsS ops g ((rowsS ops g (a + 1)).2 + 1)).1), (rowsS ops g ((rowsS ops g (a + 1)).2 + 1)).2) else (capS (1 + (rowsS ops g (a + 1)).1), (rowsS ops g (a + 1)).2)) = _
    rw [if_neg (by omega), if_neg h1]
  rw [e]
  simp only
  rw [capS_two hs (by omega) (rowsS_nn hB g (a + 1)).1]
theorem ret_2p {a b : Int} {c : Nat} {r : Int × Nat} (h : r = (a, c)) (hb : b = (c : Int)) : Ending.returned (.tuple #[I a, I b]) = .returned (.tuple #[I r.1, I (r.2 : Int)]) := by subst h hb; rfl


end Go.Proofs.YtfmpjbiaamkobaaDoor
