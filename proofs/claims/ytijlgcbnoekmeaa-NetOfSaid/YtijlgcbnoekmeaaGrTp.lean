/-
  Layer 8: what a sound graph has (plain).
-/
import Derived.Test.YtijlgcbnoekmeaaGrR
namespace Go.Proofs.Ytijlgcbnoekmeaa
open Go Go.RowKit Go.Joins
set_option linter.all false

theorem firstE_all_of {α : Type} {E : Nat → α → Int × Int} : ∀ (l : List α) (i : Nat), firstE E i l = none → ∀ j (hj : j < l.length), (E (i + j) l[j]).1 = 0 := by
  intro l
  induction l with
  | nil => intro i _ j hj; simp at hj
  | cons x r ih =>
    intro i h j hj
    unfold firstE at h
    split at h
    · cases h
    · rename_i h0
      cases j with
      | zero => simpa using h0
      | succ j =>
        have := ih (i + 1) h j (by simpa using hj)
        rw [show i + (j + 1) = i + 1 + j by omega]; simpa using this
theorem nextS_zero {r : Option (Nat × Int × Int)} {kd : Int} {rest : Int × Int × Int × Int} (hr : ∀ k ed, r = some (k, ed) → ed.1 ≠ 0) (h : (nextS r kd rest).1 = 0) : r = none ∧ rest.1 = 0 := by
  cases r with
  | some x => obtain ⟨i, e, d⟩ := x; exact absurd h (hr i (e, d) rfl)
  | none => exact ⟨rfl, h⟩
structure GSound (g : Gr) : Prop where
  nm : nameB g.name = true
  na1 : 1 ≤ g.acts.length
  na : g.acts.length ≤ 32
  ne : g.edges.length ≤ 96
  ni : g.ins.length ≤ 16
  no : g.outs.length ≤ 16
  act : ∀ i (hi : i < g.acts.length), nameE (namesOf g i 0 0) g.acts[i].name = 0 ∧ (shapeS g.acts[i].tag g.acts[i].xs).1 = 0
  edge : ∀ i (hi : i < g.edges.length), endE g nOut (outTk g i 0 g.edges[i].f g.edges[i].fp) g.edges[i].f g.edges[i].fp = 0 ∧ endE g nIn (inTk g i 0 g.edges[i].t g.edges[i].tp) g.edges[i].t g.edges[i].tp = 0 ∧ g.edges[i].xs.length ≤ 256
  inp : ∀ i (hi : i < g.ins.length), nameE (namesOf g g.acts.length i 0) g.ins[i].name = 0 ∧ endE g nIn (inTk g g.edges.length i g.ins[i].ac g.ins[i].po) g.ins[i].ac g.ins[i].po = 0
  out : ∀ i (hi : i < g.outs.length), nameE (namesOf g g.acts.length g.ins.length i) g.outs[i].name = 0 ∧ endE g nOut (outTk g g.edges.length i g.outs[i].ac g.outs[i].po) g.outs[i].ac g.outs[i].po = 0
  opn : ∀ i (hi : i < g.acts.length), openE g i g.acts[i] = false
theorem gsound_of {g : Gr} (h : (findG g).1 = 0) : GSound g := by
  rw [findG_tail] at h
  by_cases hh : (headG g).1 ≠ 0
  · rw [if_pos hh] at h; exact absurd h hh
  rw [if_neg hh] at h
  have hd : nameB g.name = true ∧ 1 ≤ g.acts.length ∧ g.acts.length ≤ 32 ∧ g.edges.length ≤ 96 ∧ g.ins.length ≤ 16 ∧ g.outs.length ≤ 16 := by
    unfold headG manyG at hh
    by_cases h0 : nameB g.name = false
    · simp [h0] at hh
    by_cases h1 : g.acts.length = 0
    · simp [h0, h1] at hh
    by_cases h2 : 32 < g.acts.length
    · simp [h0, h1, h2] at hh
    by_cases h3 : 96 < g.edges.length
    · simp [h0, h1, h2, h3] at hh
    by_cases h4 : 16 < g.ins.length
    · simp [h0, h1, h2, h3, h4] at hh
    by_cases h5 : 16 < g.outs.length
    · simp [h0, h1, h2, h3, h4, h5] at hh
    exact ⟨by simpa using h0, by omega, by omega, by omega, by omega, by omega⟩
  unfold tailG at h
  obtain ⟨r1, h⟩ := nextS_zero (fun k ed e => (firstE_some _ _ _ _ e).1) h
  obtain ⟨r2, h⟩ := nextS_zero (fun k ed e => (firstE_some _ _ _ _ e).1) h
  obtain ⟨r3, h⟩ := nextS_zero (fun k ed e => (firstE_some _ _ _ _ e).1) h
  obtain ⟨r4, h⟩ := nextS_zero (fun k ed e => (firstE_some _ _ _ _ e).1) h
  obtain ⟨r5, h⟩ := nextS_zero (fun k ed e => (firstE_some _ _ _ _ e).1) h
  refine ⟨hd.1, hd.2.1, hd.2.2.1, hd.2.2.2.1, hd.2.2.2.2.1, hd.2.2.2.2.2, fun i hi => ?_, fun i hi => ?_, fun i hi => ?_, fun i hi => ?_, fun i hi => ?_⟩
  · have := firstE_all_of _ _ r1 i hi
    rw [Nat.zero_add, actE_eq] at this
    by_cases e : nameE (namesOf g i 0 0) g.acts[i].name = 0
    · rw [if_neg (fun h => h e)] at this; exact ⟨e, this⟩
    · rw [if_pos e] at this; exact absurd this e
  · have := firstE_all_of _ _ r2 i hi
    rw [Nat.zero_add] at this
    unfold edgeE at this
    by_cases e : endE g nOut (outTk g i 0 g.edges[i].f g.edges[i].fp) g.edges[i].f g.edges[i].fp = 0
    · rw [if_neg (fun h => h e)] at this
      by_cases e2 : endE g nIn (inTk g i 0 g.edges[i].t g.edges[i].tp) g.edges[i].t g.edges[i].tp = 0
      · rw [if_neg (fun h => h e2)] at this
        by_cases e3 : 256 < g.edges[i].xs.length
        · rw [if_pos e3] at this; simp at this
        · exact ⟨e, e2, by omega⟩
      · rw [if_pos e2] at this; exact absurd this e2
    · rw [if_pos e] at this; exact absurd this e
  · have := firstE_all_of _ _ r3 i hi
    rw [Nat.zero_add] at this
    unfold inE at this
    by_cases e : nameE (namesOf g g.acts.length i 0) g.ins[i].name = 0
    · rw [if_neg (fun h => h e)] at this; exact ⟨e, this⟩
    · rw [if_pos e] at this; exact absurd this e
  · have := firstE_all_of _ _ r4 i hi
    rw [Nat.zero_add] at this
    unfold outE at this
    by_cases e : nameE (namesOf g g.acts.length g.ins.length i) g.outs[i].name = 0
    · rw [if_neg (fun h => h e)] at this; exact ⟨e, this⟩
    · rw [if_pos e] at this; exact absurd this e
  · have := firstE_all_of _ _ r5 i hi
    rw [Nat.zero_add] at this
    unfold openF at this
    cases e : openE g i g.acts[i] with
    | false => rfl
    | true => rw [e] at this; simp at this
theorem endE_zero {g : Gr} {n : GAct → Nat} {tk : Bool} {a p : Int} (h : endE g n tk a p = 0) : ∃ (x : Nat) (hx : x < g.acts.length), a = x ∧ 0 ≤ p ∧ p < n g.acts[x] ∧ tk = false := by
  unfold endE at h
  split at h
  · rename_i ha
    split at h
    · rename_i hp
      split at h
      · cases h
      · rename_i ht
        exact ⟨a.toNat, by omega, by omega, hp.1, hp.2, by simpa using ht⟩
    · cases h
  · cases h
theorem shape_good {tag : Int} {ps : List Int} (h : (shapeS tag ps).1 = 0) : 1 ≤ tag ∧ tag ≤ 11 ∧ ps.length ≤ 16 := by
  unfold shapeS at h
  split at h
  · rename_i ht
    split at h
    · rename_i hg
      refine ⟨ht.1, ht.2, ?_⟩
      rcases tag_cases ht.1 ht.2 with rfl | rfl | rfl | rfl | rfl | rfl | rfl | rfl | rfl | rfl | rfl
      · have : 1 ≤ ps.length ∧ ps.length ≤ 16 := by simpa [goodS] using hg
        omega
      · obtain ⟨n, rfl, _⟩ := oneS_true (ps := ps) (k := 64) (by simpa [goodS] using hg); simp
      · obtain ⟨n, rfl, _⟩ := oneS_true (ps := ps) (k := 64) (by simpa [goodS] using hg); simp
      · obtain ⟨n, m, rfl, _⟩ := twoS_true (ps := ps) (by simpa [goodS] using hg); simp
      · obtain ⟨n, m, rfl, _⟩ := twoS_true (ps := ps) (by simpa [goodS] using hg); simp
      · obtain ⟨n, rfl, _⟩ := oneS_true (ps := ps) (k := 16) (by simpa [goodS] using hg); simp
      · have : ps.length = 0 := by simpa [goodS] using hg
        omega
      · have : ps.length = 0 := by simpa [goodS] using hg
        omega
      · obtain ⟨n, rfl, _⟩ := oneS_true (ps := ps) (k := 16) (by simpa [goodS] using hg); simp
      · have : ps.length = 2 := by simpa [goodS] using hg
        omega
      · obtain ⟨n, rfl, _⟩ := oneS_true (ps := ps) (k := 64) (by simpa [goodS] using hg); simp
    · simp at h
  · simp at h

theorem gr_cells {w : World} {C : Nat} {a0 a1 a2 a3 a4 : Value} (h : w.heap[C]? = some (.cells #[a0, a1, a2, a3, a4] 63 (0, 0))) :
    w.cell? ⟨C, 0, none⟩ = some a0 ∧ w.cell? ⟨C, 1, none⟩ = some a1 ∧ w.cell? ⟨C, 2, none⟩ = some a2 ∧ w.cell? ⟨C, 3, none⟩ = some a3 ∧ w.cell? ⟨C, 4, none⟩ = some a4 ∧ C < w.heap.size := by
  refine ⟨?_, ?_, ?_, ?_, ?_, (Array.getElem?_eq_some_iff.1 h).1⟩
  all_goals rw [cell_of_block h]; rfl
end Go.Proofs.Ytijlgcbnoekmeaa
