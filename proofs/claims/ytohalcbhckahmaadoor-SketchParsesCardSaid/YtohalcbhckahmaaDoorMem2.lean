/-
  More plain laws on memory: structs of two and more cells stored into a block.
-/
import Derived.Test.YtohalcbhckahmaaDoorMem
namespace Go.Proofs.YtohalcbhckahmaaDoor
open Go Go.RowKit
set_option linter.all false

theorem store1 {w : World} {B o : Nat} {x u : Value} (h0 : w.cell? ⟨B, o, none⟩ = some x) :
    (w.setCell ⟨B, o, none⟩ u).cell? ⟨B, o, none⟩ = some u ∧ Keeps (fun k => k = B) w (w.setCell ⟨B, o, none⟩ u) ∧ ∀ o', o' ≠ o → (w.setCell ⟨B, o, none⟩ u).cell? ⟨B, o', none⟩ = w.cell? ⟨B, o', none⟩ :=
  ⟨World.cell?_setCell_same w ⟨B, o, none⟩ u h0, Keeps.setCell (S := fun k => k = B) w ⟨B, o, none⟩ u rfl, fun o' h => World.cell?_setCell_other w ⟨B, o, none⟩ ⟨B, o', none⟩ u (by intro e; cases e; exact h rfl)⟩

theorem store2 {w : World} {B : Nat} {x y u v : Value} (h0 : w.cell? ⟨B, 0, none⟩ = some x) (h1 : w.cell? ⟨B, 1, none⟩ = some y) :
    ((w.setCell ⟨B, 0, none⟩ u).setCell ⟨B, 1, none⟩ v).cell? ⟨B, 0, none⟩ = some u ∧ ((w.setCell ⟨B, 0, none⟩ u).setCell ⟨B, 1, none⟩ v).cell? ⟨B, 1, none⟩ = some v ∧
      Keeps (fun k => k = B) w ((w.setCell ⟨B, 0, none⟩ u).setCell ⟨B, 1, none⟩ v) := by
  obtain ⟨a1, a2, a3⟩ := store1 (u := u) h0
  obtain ⟨b1, b2, b3⟩ := store1 (w := w.setCell ⟨B, 0, none⟩ u) (u := v) ((a3 1 (by omega)).trans h1)
  exact ⟨(b3 0 (by omega)).trans a1, b1, a2.trans b2 (fun _ _ h => h)⟩

theorem store3 {w : World} {B : Nat} {x y z u v t : Value} (h0 : w.cell? ⟨B, 0, none⟩ = some x) (h1 : w.cell? ⟨B, 1, none⟩ = some y) (h2 : w.cell? ⟨B, 2, none⟩ = some z) :
    (((w.setCell ⟨B, 0, none⟩ u).setCell ⟨B, 1, none⟩ v).setCell ⟨B, 2, none⟩ t).cell? ⟨B, 0, none⟩ = some u ∧ (((w.setCell ⟨B, 0, none⟩ u).setCell ⟨B, 1, none⟩ v).setCell ⟨B, 2, none⟩ t).cell? ⟨B, 1, none⟩ = some v ∧
      (((w.setCell ⟨B, 0, none⟩ u).setCell ⟨B, 1, none⟩ v).setCell ⟨B, 2, none⟩ t).cell? ⟨B, 2, none⟩ = some t ∧
      Keeps (fun k => k = B) w (((w.setCell ⟨B, 0, none⟩ u).setCell ⟨B, 1, none⟩ v).setCell ⟨B, 2, none⟩ t) := by
  obtain ⟨a1, a2, a3⟩ := store1 (u := u) h0
  obtain ⟨b1, b2, b3⟩ := store1 (w := w.setCell ⟨B, 0, none⟩ u) (u := v) ((a3 1 (by omega)).trans h1)
  obtain ⟨c1, c2, c3⟩ := store1 (w := (w.setCell ⟨B, 0, none⟩ u).setCell ⟨B, 1, none⟩ v) (u := t) (((b3 2 (by omega)).trans (a3 2 (by omega))).trans h2)
  exact ⟨((c3 0 (by omega)).trans (b3 0 (by omega))).trans a1, (c3 1 (by omega)).trans b1, c1, (a2.trans b2 (fun _ _ h => h)).trans c2 (fun _ _ h => h)⟩

/-- Slices of slices of the call's own: a table at block L whose row j is (A j, N j, C j) and holds X j. -/
structure Tab (w : World) (et ei B L m : Nat) (A : Nat → Option Addr) (N C : Nat → Nat) (X : Nat → List Value) : Prop where
  tab : w.ownsRow B et 1 (.slice (some ⟨L, 0, none⟩) m m) m ((List.range m).map fun j => .slice (A j) (N j) (C j))
  row : ∀ j, j < m → w.ownsRow B ei 1 (.slice (A j) (N j) (C j)) (N j) (X j)
  dis : ∀ i j, i < m → j < m → i ≠ j → ∀ k, blk (A i) k → ¬ blk (A j) k
  off : ∀ j, j < m → ∀ k, blk (A j) k → k ≠ L

/-- The blocks of a table. -/
def tabBlk (L m : Nat) (A : Nat → Option Addr) (k : Nat) : Prop := k = L ∨ ∃ j, j < m ∧ blk (A j) k

theorem blk_of_own {a : Option Addr} {n c x : Nat} (h : (Value.slice a n c).ownBlock = some x) : blk a x := by
  cases a with
  | none => simp [Value.ownBlock] at h
  | some a => simp [Value.ownBlock] at h; exact ⟨a, rfl, h⟩
theorem own_of_blk {w : World} {B e size n c : Nat} {a : Option Addr} {xs : List Value} (h : w.ownsRow B e size (.slice a n c) n xs) {k : Nat} (hk : blk a k) : B ≤ k ∧ k < w.heap.size := by
  obtain ⟨x, rfl, rfl⟩ := hk
  exact World.ownsRow.lt h x.block rfl

theorem Tab.keeps {S : Nat → Prop} {w w' : World} {et ei B L m : Nat} {A : Nat → Option Addr} {N C : Nat → Nat} {X : Nat → List Value} (h : Tab w et ei B L m A N C X) (k : Keeps S w w') (hS : ∀ x, tabBlk L m A x → ¬ S x) : Tab w' et ei B L m A N C X :=
  ⟨k.owns h.tab (fun x hx => hS x (by simp [Value.ownBlock] at hx; exact .inl hx.symm)), fun j hj => k.owns (h.row j hj) (fun x hx => hS x (.inr ⟨j, hj, blk_of_own hx⟩)), h.dis, h.off⟩

theorem Tab.lt {w : World} {et ei B L m : Nat} {A : Nat → Option Addr} {N C : Nat → Nat} {X : Nat → List Value} (h : Tab w et ei B L m A N C X) {k : Nat} (hk : tabBlk L m A k) : B ≤ k ∧ k < w.heap.size := by
  rcases hk with rfl | ⟨j, hj, hb⟩
  · exact World.ownsRow.lt h.tab _ rfl
  · exact own_of_blk (h.row j hj) hb

/-- A table of nil rows, just made. -/
theorem Tab.made {w : World} {et ei B L m : Nat} (h : w.ownsRow B et 1 (.slice (some ⟨L, 0, none⟩) m m) m (List.replicate m (.slice none 0 0))) : Tab w et ei B L m (fun _ => none) (fun _ => 0) (fun _ => 0) (fun _ => []) := by
  refine ⟨?_, fun j _ => World.ownsRow_nil _ _ _ _, fun i j _ _ _ k hk => ?_, fun j _ k hk => ?_⟩
  · have e : ((List.range m).map fun _ => Value.slice none 0 0) = List.replicate m (.slice none 0 0) := by
      apply List.ext_getElem?
      intro j
      by_cases hj : j < m <;> simp [hj]
    rw [e]; exact h
  · obtain ⟨a, ha, _⟩ := hk; cases ha
  · obtain ⟨a, ha, _⟩ := hk; cases ha

theorem Tab.cell {w : World} {et ei B L m : Nat} {A : Nat → Option Addr} {N C : Nat → Nat} {X : Nat → List Value} (h : Tab w et ei B L m A N C X) {i : Nat} (hi : i < m) :
    w.cell? ⟨L, i, none⟩ = some (.slice (A i) (N i) (C i)) ∧ w.frozen? ⟨L, i, none⟩ = false := by
  refine ⟨?_, h.tab.frozenAt i⟩
  rw [h.tab.cellAt i (by omega)]
  simp [hi]

/-- One append to row i, stored back. -/
theorem Tab.app {w w1 : World} {et ei B L m : Nat} {A : Nat → Option Addr} {N C : Nat → Nat} {X : Nat → List Value} (h : Tab w et ei B L m A N C X) {i : Nat} (hi : i < m) (o : Obj) (a2 : Option Addr) (n2 c2 : Nat) (Y : List Value)
    (hown : w1.ownsRow B ei 1 (.slice a2 n2 c2) n2 Y) (hk : Keeps (blk (A i)) (w.alloc o) w1) (hm : Moved (w.alloc o) (A i) a2) :
    ((∃ v, w1.cell? ⟨L, i, none⟩ = some v) ∧ w1.frozen? ⟨L, i, none⟩ = false) ∧
    Tab (w1.setCell ⟨L, i, none⟩ (.slice a2 n2 c2)) et ei B L m (fun j => if j = i then a2 else A j) (fun j => if j = i then n2 else N j) (fun j => if j = i then c2 else C j) (fun j => if j = i then Y else X j) ∧
    Keeps (tabBlk L m A) w (w1.setCell ⟨L, i, none⟩ (.slice a2 n2 c2)) ∧
    (∀ k, tabBlk L m (fun j => if j = i then a2 else A j) k → tabBlk L m A k ∨ w.heap.size ≤ k) := by
  have hk0 : Keeps (blk (A i)) w w1 := (Keeps.alloc (S := blk (A i)) w o).trans hk (fun _ _ h => h)
  have hL := hk0.owns h.tab (fun x hx hb => by simp [Value.ownBlock] at hx; subst hx; exact h.off i hi _ hb rfl)
  have hLlt := (h.lt (k := L) (.inl rfl)).2
  have a2blk : ∀ k, blk a2 k → blk (A i) k ∨ w.heap.size + 1 ≤ k := by
    intro k hk
    rcases hm with rfl | ⟨g, rfl, hg⟩
    · exact .inl hk
    · obtain ⟨a, ha, rfl⟩ := hk
      simp only [Option.some.injEq] at ha; subst ha
      simp at hg
      exact .inr hg
  have hks : Keeps (fun x => x = L) w1 (w1.setCell ⟨L, i, none⟩ (.slice a2 n2 c2)) := Keeps.setCell w1 ⟨L, i, none⟩ _ rfl
  have hcell : ∃ v, w1.cell? ⟨L, i, none⟩ = some v := by
    rw [hL.cellAt i (by omega)]
    exact ⟨_, List.getElem?_eq_getElem (by simpa using hi)⟩
  refine ⟨⟨hcell, hL.frozenAt i⟩, ⟨?_, ?_, ?_, ?_⟩, ?_, ?_⟩
  · have h1 := (hL.stored i (.slice a2 n2 c2)).1
    have e2 : ((List.range m).map fun j => Value.slice (A j) (N j) (C j)).set i (.slice a2 n2 c2) = (List.range m).map fun j => Value.slice (if j = i then a2 else A j) (if j = i then n2 else N j) (if j = i then c2 else C j) := by
      apply List.ext_getElem?
      intro j
      rw [List.getElem?_set]
      by_cases e : i = j
      · subst e; simp [hi]
      · rw [if_neg e]
        by_cases hj : j < m
        · have e' : ¬ j = i := fun h => e h.symm
          simp [hj, e']
        · simp [hj]
    rw [← e2]; exact h1
  · intro j hj
    by_cases e : j = i
    · subst e
      simp only [if_true]
      refine hks.owns hown (fun x hx hxL => ?_)
      subst hxL
      rcases a2blk x (blk_of_own hx) with h1 | h1
      · exact h.off j hj x h1 rfl
      · omega
    · simp only [if_neg e]
      have h1 := hk0.owns (h.row j hj) (fun x hx hb => h.dis j i hj hi e x (blk_of_own hx) hb)
      exact hks.owns h1 (fun x hx hxL => by subst hxL; exact h.off j hj x (blk_of_own hx) rfl)
  · have key : ∀ p, p < m → ∀ k, blk (if p = i then a2 else A p) k → blk (A p) k ∨ (p = i ∧ w.heap.size + 1 ≤ k) := by
      intro p hp k hk
      by_cases e : p = i
      · subst e
        rw [if_pos rfl] at hk
        rcases a2blk k hk with h1 | h1
        · exact .inl h1
        · exact .inr ⟨rfl, h1⟩
      · rw [if_neg e] at hk; exact .inl hk
    intro p q hp hq hpq k hkp hkq
    rcases key p hp k hkp with h1 | ⟨e1, h1⟩
    · rcases key q hq k hkq with h2 | ⟨e2, h2⟩
      · exact h.dis p q hp hq hpq k h1 h2
      · have := (own_of_blk (h.row p hp) h1).2; omega
    · rcases key q hq k hkq with h2 | ⟨e2, h2⟩
      · have := (own_of_blk (h.row q hq) h2).2; omega
      · exact hpq (e1.trans e2.symm)
  · intro j hj k hk
    by_cases e : j = i
    · subst e
      simp only [if_true] at hk
      rcases a2blk k hk with h1 | h1
      · exact h.off j hj k h1
      · omega
    · simp only [if_neg e] at hk; exact h.off j hj k hk
  · refine Keeps.trans (S := tabBlk L m A) (hk0.mono (fun k _ hb => .inr ⟨i, hi, hb⟩)) hks (fun k _ e => .inl e)
  · intro k hk
    rcases hk with rfl | ⟨j, hj, hb⟩
    · exact .inl (.inl rfl)
    · by_cases e : j = i
      · subst e
        simp only [if_true] at hb
        rcases a2blk k hb with h1 | h1
        · exact .inl (.inr ⟨j, hj, h1⟩)
        · exact .inr (by omega)
      · simp only [if_neg e] at hb; exact .inl (.inr ⟨j, hj, hb⟩)

end Go.Proofs.YtohalcbhckahmaaDoor
