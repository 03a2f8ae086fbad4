/-
  Layer 20: the open loops in memory.
-/
import Derived.Test.YtfmpjbiaamkobaaDoorCodeA
namespace Go.Proofs.YtfmpjbiaamkobaaDoor
open Go Go.RowKit
set_option linter.all false

def oneFr (f : Nat × Int) : List Value := [I (f.1 : Int), I f.2]
/-- The frames' cells, the outermost first. -/
def frCells (σ : Stk) : List Value := [I (-1), I σ.b] ++ σ.fr.reverse.flatMap oneFr
def topAt (σ : Stk) : Int := match σ.fr with | [] => -1 | f :: _ => f.1
def topS (σ : Stk) : Int := match σ.fr with | [] => σ.b | f :: _ => f.2

theorem oneFr_len (f : Nat × Int) : (oneFr f).length = 2 := rfl
theorem frCells_len (σ : Stk) : (frCells σ).length = (σ.fr.length + 1) * 2 := by
  unfold frCells
  rw [List.length_append, flat_len oneFr 2 oneFr_len]; simp; omega
theorem frCells_push (σ : Stk) (a : Nat) (s : Int) : frCells ⟨(a, s) :: σ.fr, σ.b⟩ = frCells σ ++ [I (a : Int), I s] := by
  unfold frCells
  simp [oneFr]
theorem frCells_top (σ : Stk) : (frCells σ)[σ.fr.length * 2]? = some (I (topAt σ)) ∧ (frCells σ)[σ.fr.length * 2 + 1]? = some (I (topS σ)) := by
  obtain ⟨fr, b⟩ := σ
  cases fr with
  | nil => exact ⟨rfl, rfl⟩
  | cons x r =>
    obtain ⟨a, s⟩ := x
    have e := frCells_push ⟨r, b⟩ a s
    simp only at e
    have hl := frCells_len ⟨r, b⟩
    simp only at hl
    rw [e]
    refine ⟨?_, ?_⟩
    · rw [List.getElem?_append_right (by simp only [List.length_cons]; omega)]
      rw [show (⟨(a, s) :: r, b⟩ : Stk).fr.length * 2 - (frCells ⟨r, b⟩).length = 0 by simp only [List.length_cons]; omega]; rfl
    · rw [List.getElem?_append_right (by simp only [List.length_cons]; omega)]
      rw [show (⟨(a, s) :: r, b⟩ : Stk).fr.length * 2 + 1 - (frCells ⟨r, b⟩).length = 1 by simp only [List.length_cons]; omega]; rfl
theorem frCells_bump (σ : Stk) (k : Int) : frCells (bumpS k σ) = (frCells σ).set (σ.fr.length * 2 + 1) (I (capS (topS σ + k))) := by
  obtain ⟨fr, b⟩ := σ
  cases fr with
  | nil => rfl
  | cons x r =>
    obtain ⟨a, s⟩ := x
    have e := frCells_push ⟨r, b⟩ a s
    have e2 := frCells_push ⟨r, b⟩ a (capS (s + k))
    simp only at e e2
    have hl := frCells_len ⟨r, b⟩
    simp only at hl
    simp only [bumpS, topS]
    rw [e, e2, List.set_append_right _ _ (by simp only [List.length_cons]; omega)]
    rw [show (⟨(a, s) :: r, b⟩ : Stk).fr.length * 2 + 1 - (frCells ⟨r, b⟩).length = 1 by simp only [List.length_cons]; omega]; rfl
theorem bumpS_len (k : Int) (σ : Stk) : (bumpS k σ).fr.length = σ.fr.length := by
  have := congrArg List.length (bumpS_fr k σ); simpa using this
/-- The frame number j from below, behind the outermost. -/
theorem frCells_at (σ : Stk) (j : Nat) (hj : j < σ.fr.length) : (frCells σ)[(j + 1) * 2]? = some (I ((σ.fr.reverse[j]'(by simpa using hj)).1 : Int)) ∧ (frCells σ)[(j + 1) * 2 + 1]? = some (I (σ.fr.reverse[j]'(by simpa using hj)).2) := by
  have h := flat_at oneFr 2 oneFr_len σ.fr.reverse
  have h0 := h j 0 (by simpa using hj) (by omega)
  have h1 := h j 1 (by simpa using hj) (by omega)
  unfold frCells
  refine ⟨?_, ?_⟩
  · rw [List.getElem?_append_right (by simp; omega)]
    rw [show (j + 1) * 2 - [I (-1), I σ.b].length = j * 2 + 0 by simp; omega, h0]; rfl
  · rw [List.getElem?_append_right (by simp; omega)]
    rw [show (j + 1) * 2 + 1 - [I (-1), I σ.b].length = j * 2 + 1 by simp; omega, h1]; rfl

/-- A row cut short. -/
theorem ownsRow_trunc {w : World} {B e size n c m : Nat} {g : Nat} {xs : List Value} (h : w.ownsRow B e size (.slice (some ⟨g, 0, none⟩) n c) n xs) (hm : m ≤ n) : w.ownsRow B e size (.slice (some ⟨g, 0, none⟩) m c) m (xs.take (m * size)) := by
  rcases h.2 with ⟨h0, h1⟩ | ⟨g', cap, cur, h0, hb, hg, hnc, hcm, hcs, htake⟩
  · simp at h0
  · simp only [Value.slice.injEq, Option.some.injEq, Addr.mk.injEq, and_true, true_and] at h0
    obtain ⟨rfl, rfl⟩ := h0
    have hms : m * size ≤ n * size := Nat.mul_le_mul_right _ hm
    refine ⟨by rw [List.length_take, h.1]; omega, .inr ⟨g, c, cur, rfl, hb, hg, by omega, hcm, hcs, ?_⟩⟩
    rw [← htake, List.take_take, Nat.min_eq_left hms]

/-- The open loops' row. -/
def Fr (w : World) (B : Nat) (v : Value) (σ : Stk) : Prop := ∃ g c m, σ.fr.length = m ∧ v = .slice (some ⟨g, 0, none⟩) (m + 1) c ∧ w.ownsRow B 77 2 (.slice (some ⟨g, 0, none⟩) (m + 1) c) (m + 1) (frCells σ)
theorem Fr.new {w w' : World} {B : Nat} {v : Value} {σ : Stk} (h : Fr w B v σ) (k : New w w') : Fr w' B v σ := by
  obtain ⟨g, c, m, h1, h2, h3⟩ := h
  exact ⟨g, c, m, h1, h2, k.owns h3⟩
theorem fr_pop {w : World} {B g c : Nat} {a : Nat} {s b : Int} {r : List (Nat × Int)} (h : w.ownsRow B 77 2 (.slice (some ⟨g, 0, none⟩) (r.length + 1 + 1) c) (r.length + 1 + 1) (frCells ⟨(a, s) :: r, b⟩)) :
    w.ownsRow B 77 2 (.slice (some ⟨g, 0, none⟩) (r.length + 1) c) (r.length + 1) (frCells ⟨r, b⟩) := by
  have h1 := ownsRow_trunc h (m := r.length + 1) (by omega)
  have e := frCells_push ⟨r, b⟩ a s
  have hl := frCells_len ⟨r, b⟩
  simp only at e hl
  rw [e, List.take_append_of_le_length (by omega), List.take_of_length_le (by omega)] at h1
  exact h1

theorem fr_bump {w : World} {B g c m : Nat} {σ : Stk} (hr : w.ownsRow B 77 2 (.slice (some ⟨g, 0, none⟩) (m + 1) c) (m + 1) (frCells σ)) (hm : σ.fr.length = m) (k : Int) :
    Fr (w.setCell ⟨g, m * 2 + 1, none⟩ (I (capS (topS σ + k)))) B (.slice (some ⟨g, 0, none⟩) (m + 1) c) (bumpS k σ) ∧ Keeps (fun x => B ≤ x) w (w.setCell ⟨g, m * 2 + 1, none⟩ (I (capS (topS σ + k)))) := by
  have hg := (World.ownsRow.lt hr g rfl).1
  refine ⟨⟨g, c, m, by rw [bumpS_len]; exact hm, rfl, ?_⟩, Keeps.setCell (S := fun x => B ≤ x) w ⟨g, m * 2 + 1, none⟩ _ hg⟩
  rw [frCells_bump, hm]
  exact (hr.stored (m * 2 + 1) (I (capS (topS σ + k)))).1
theorem topS_bd {σ : Stk} (h : Small σ) : 0 ≤ topS σ ∧ topS σ ≤ 131073 := by
  obtain ⟨fr, b⟩ := σ
  cases fr with
  | nil => exact h.2
  | cons x r => exact h.1 x (by simp)
theorem any_rev (l : List (Nat × Int)) (p : Nat × Int → Bool) : l.any p = l.reverse.any p := by simp
end Go.Proofs.YtfmpjbiaamkobaaDoor
