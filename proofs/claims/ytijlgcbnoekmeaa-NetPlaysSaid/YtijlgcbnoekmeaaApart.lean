/-
  The look at the apartness of lists: plain laws on its memory first, then the walk.
-/
import Derived.Test.YtijlgcbnoekmeaaShapeF
namespace Go.Proofs.Ytijlgcbnoekmeaa
open Go Go.RowKit
set_option linter.all false

/-- The marks of list j. -/
def apMk (j n : Nat) : List Value := (List.range n).map fun k : Nat => I ((j : Int) * 1000003 + (k : Int))
def apNg (j n : Nat) : List Value := (List.range n).map fun k : Nat => I (-(j : Int) * 1000003 - (k : Int) - 1)

theorem apMk_len (j n : Nat) : (apMk j n).length = n := by simp [apMk]
theorem apNg_len (j n : Nat) : (apNg j n).length = n := by simp [apNg]
theorem apMk_at (j n k : Nat) (h : k < n) : (apMk j n)[k]? = some (I ((j : Int) * 1000003 + k)) := by simp [apMk, h]
theorem apMk_succ (j n : Nat) : apMk j (n + 1) = apMk j n ++ [I ((j : Int) * 1000003 + (n : Int))] := by simp [apMk, List.range_succ]
theorem apNg_succ (j n : Nat) : apNg j (n + 1) = apNg j n ++ [I (-(j : Int) * 1000003 - n - 1)] := by simp [apNg, List.range_succ]

/-- Lists of ints in rows of their own: list j is (A j, N j, C j) and holds X j. -/
structure Rows2 (w : World) (B m : Nat) (A : Nat → Option Addr) (N C : Nat → Nat) (X : Nat → List Value) : Prop where
  own : ∀ j, j < m → w.ownsRow B 3 1 (.slice (A j) (N j) (C j)) (N j) (X j)

theorem own_addr {w : World} {B : Nat} {e : TypeId} {a : Option Addr} {n c : Nat} {xs : List Value} (h : w.ownsRow B e 1 (.slice a n c) n xs) (hn : 0 < n) : ∃ g, a = some ⟨g, 0, none⟩ := by
  rcases h.2 with ⟨_, h0⟩ | ⟨g, cap, cur, hv, _⟩
  · omega
  · simp only [Value.slice.injEq] at hv
    exact ⟨g, hv.1⟩

/-- The first phase, in list i before place k. -/
structure Ap1 (w wr : World) (b0 o0 L m B : Nat) (A : Nat → Option Addr) (N C : Nat → Nat) (X : Nat → List Value) (i k : Nat) : Prop where
  ls : ∀ j, j < m → wr.cell? ⟨b0, o0 + j, none⟩ = some (.slice (A j) (N j) (C j))
  low : ∀ j, j < m → wr.ownsRow B 3 1 (.slice (A j) (N j) (C j)) (N j) (if j < i then apMk j (N j) else if j = i then apMk j k ++ (X j).drop k else X j)
  long : wr.ownsRow w.heap.size 37 1 (.slice (some ⟨L, 0, none⟩) m m) m ((List.range m).map fun j => if j < i then .slice (A j) (N j) (C j) else .slice none 0 0)
  dis : ∀ i j, i < m → j < m → i ≠ j → ∀ k, blk (A i) k → ¬ blk (A j) k
  off : ∀ j, j < m → ∀ k, blk (A j) k → k ≠ L ∧ k ≠ b0
  ne : b0 ≠ L
  keeps : Keeps (fun k => ∃ j, j < m ∧ blk (A j) k) w wr
  new : w.heap.size ≤ L

theorem Ap1.store {w wr : World} {b0 o0 L m B : Nat} {A : Nat → Option Addr} {N C : Nat → Nat} {X : Nat → List Value} {i k g : Nat} (h : Ap1 w wr b0 o0 L m B A N C X i k) (hi : i < m) (hk : k < N i) (hg : A i = some ⟨g, 0, none⟩)
    (hX : ∀ j, j < m → (X j).length = N j) :
    Ap1 w (wr.setCell ⟨g, k, none⟩ (I ((i : Int) * 1000003 + k))) b0 o0 L m B A N C X i (k + 1) := by
  have hb : blk (A i) g := ⟨_, hg, rfl⟩
  have hks : Keeps (fun x => x = g) wr (wr.setCell ⟨g, k, none⟩ (I ((i : Int) * 1000003 + k))) := Keeps.setCell wr ⟨g, k, none⟩ _ rfl
  have hoff := h.off i hi g hb
  refine ⟨fun j hj => hks.cell (h.ls j hj) (fun e => hoff.2 e.symm), ?_, ?_, h.dis, h.off, h.ne, h.keeps.trans hks (fun x _ e => ⟨i, hi, e ▸ hb⟩), h.new⟩
  · intro j hj
    by_cases e : j = i
    · subst e
      have h0 := h.low j hj
      rw [hg] at h0 ⊢
      have h1 := (h0.stored k (I ((j : Int) * 1000003 + k))).1
      simp only [Nat.lt_irrefl, if_false, if_true] at h1 ⊢
      have e2 : (apMk j k ++ (X j).drop k).set k (I ((j : Int) * 1000003 + k)) = apMk j (k + 1) ++ (X j).drop (k + 1) := by
        have hl := hX j hj
        rw [List.set_append_right _ _ (by rw [apMk_len]; omega), apMk_len, Nat.sub_self, List.drop_eq_getElem_cons (by omega), List.set_cons_zero, apMk_succ, List.append_assoc]
        rfl
      rw [← e2]
      exact h1
    · have h0 := h.low j hj
      have : ∀ x, (Value.slice (A j) (N j) (C j)).ownBlock = some x → ¬ x = g := by
        intro x hx hxg
        subst hxg
        refine h.dis i j hi hj (fun e' => e e'.symm) x hb ?_
        cases hA : A j with
        | none => rw [hA] at hx; simp [Value.ownBlock] at hx
        | some a => rw [hA] at hx; simp [Value.ownBlock] at hx; exact ⟨a, rfl, hx⟩
      have h1 := hks.owns h0 this
      simpa [e] using h1
  · exact hks.owns h.long (fun x hx hxg => by simp [Value.ownBlock] at hx; subst hx; exact hoff.1 hxg.symm)

theorem Ap1.next {w wr : World} {b0 o0 L m B : Nat} {A : Nat → Option Addr} {N C : Nat → Nat} {X : Nat → List Value} {i : Nat} (h : Ap1 w wr b0 o0 L m B A N C X i (N i)) (hi : i < m) (hX : ∀ j, j < m → (X j).length = N j) :
    Ap1 w (wr.setCell ⟨L, i, none⟩ (.slice (A i) (N i) (C i))) b0 o0 L m B A N C X (i + 1) 0 := by
  have hks : Keeps (fun x => x = L) wr (wr.setCell ⟨L, i, none⟩ (.slice (A i) (N i) (C i))) := Keeps.setCell wr ⟨L, i, none⟩ _ rfl
  refine ⟨fun j hj => hks.cell (h.ls j hj) h.ne, ?_, ?_, h.dis, h.off, h.ne, h.keeps.trans hks (fun x hx e => by have := h.new; omega), h.new⟩
  · intro j hj
    have h0 := hks.owns (h.low j hj) (fun x hx hxL => by
      have : blk (A j) x := by
        cases hA : A j with
        | none => rw [hA] at hx; simp [Value.ownBlock] at hx
        | some a => rw [hA] at hx; simp [Value.ownBlock] at hx; exact ⟨a, rfl, hx⟩
      exact (h.off j hj x this).1 hxL)
    by_cases e : j = i
    · subst e
      have hl := hX j hj
      rw [if_neg (Nat.lt_irrefl _), if_pos rfl, List.drop_of_length_le (by omega), List.append_nil] at h0
      rw [if_pos (by omega)]
      exact h0
    · by_cases e2 : j < i
      · rw [if_pos e2] at h0; rw [if_pos (by omega)]; exact h0
      · rw [if_neg e2, if_neg e] at h0
        rw [if_neg (by omega)]
        by_cases e3 : j = i + 1
        · rw [if_pos e3]; simpa [apMk] using h0
        · rw [if_neg e3]; exact h0
  · have h0 := (h.long.stored i (.slice (A i) (N i) (C i))).1
    have e2 : ((List.range m).map fun j => if j < i then Value.slice (A j) (N j) (C j) else .slice none 0 0).set i (.slice (A i) (N i) (C i)) = (List.range m).map fun j => if j < i + 1 then Value.slice (A j) (N j) (C j) else .slice none 0 0 := by
      apply List.ext_getElem?
      intro j
      rw [List.getElem?_set]
      by_cases e : i = j
      · subst e; simp [hi]
      · rw [if_neg e]
        by_cases hj : j < m
        · simp [hj]
          by_cases e2 : j < i
          · rw [if_pos e2, if_pos (by omega)]
          · rw [if_neg e2, if_neg (by omega)]
        · simp [hj]
    rw [← e2]
    exact h0

/-- The second phase. -/
structure Ap2 (w wr : World) (b0 o0 L m B : Nat) (A A' : Nat → Option Addr) (N C C' T : Nat → Nat) : Prop where
  ls : ∀ j, j < m → wr.cell? ⟨b0, o0 + j, none⟩ = some (.slice (A j) (N j) (C j))
  low : ∀ j, j < m → wr.ownsRow B 3 1 (.slice (A j) (N j) (C j)) (N j) (apMk j (N j))
  high : ∀ j, j < m → wr.ownsRow B 3 1 (.slice (A' j) (N j + T j) (C' j)) (N j + T j) (apMk j (N j) ++ apNg j (T j))
  long : wr.ownsRow w.heap.size 37 1 (.slice (some ⟨L, 0, none⟩) m m) m ((List.range m).map fun j => .slice (A' j) (N j + T j) (C' j))
  dis : ∀ i j, i < m → j < m → i ≠ j → ∀ k, (blk (A i) k ∨ blk (A' i) k) → ¬ (blk (A j) k ∨ blk (A' j) k)
  off : ∀ j, j < m → ∀ k, (blk (A j) k ∨ blk (A' j) k) → k ≠ L ∧ k ≠ b0
  ne : b0 ≠ L
  keeps : Keeps (fun k => ∃ j, j < m ∧ blk (A j) k) w wr
  new : w.heap.size ≤ L
  moved : ∀ j, j < m → A' j = A j ∨ ∃ g, A' j = some ⟨g, 0, none⟩ ∧ w.heap.size ≤ g
  base : B ≤ w.heap.size

theorem Ap1.done {w wr : World} {b0 o0 L m B : Nat} {A : Nat → Option Addr} {N C : Nat → Nat} {X : Nat → List Value} (h : Ap1 w wr b0 o0 L m B A N C X m 0) (hB : B ≤ w.heap.size) : Ap2 w wr b0 o0 L m B A A N C C (fun _ => 0) := by
  refine ⟨h.ls, ?_, ?_, ?_, ?_, ?_, h.ne, h.keeps, h.new, fun j _ => .inl rfl, hB⟩
  · intro j hj; have := h.low j hj; rwa [if_pos hj] at this
  · intro j hj; have := h.low j hj; rw [if_pos hj] at this; simpa [apNg] using this
  · have := h.long
    have e : ((List.range m).map fun j => if j < m then Value.slice (A j) (N j) (C j) else .slice none 0 0) = (List.range m).map fun j => Value.slice (A j) (N j + 0) (C j) := by
      apply List.map_congr_left
      intro j hj
      rw [if_pos (List.mem_range.1 hj)]; rfl
    rw [e] at this
    exact this
  · intro i j hi hj e k hk hk'; simp only [or_self] at hk hk'; exact h.dis i j hi hj e k hk hk'
  · intro j hj k hk; simp only [or_self] at hk; exact h.off j hj k hk

theorem blk_own {a : Option Addr} {n c x : Nat} (h : (Value.slice a n c).ownBlock = some x) : blk a x := by
  cases a with
  | none => simp [Value.ownBlock] at h
  | some a => simp [Value.ownBlock] at h; exact ⟨a, rfl, h⟩

/-- One append to long[i], stored back. -/
theorem Ap2.app {w wr w1 : World} {b0 o0 L m B : Nat} {A A' : Nat → Option Addr} {N C C' T : Nat → Nat} {i : Nat} (h : Ap2 w wr b0 o0 L m B A A' N C C' T) (hi : i < m) (o : Obj) (a2 : Option Addr) (c2 : Nat)
    (hown : w1.ownsRow B 3 1 (.slice a2 (N i + T i + 1) c2) (N i + T i + 1) (apMk i (N i) ++ apNg i (T i) ++ [I (-(i : Int) * 1000003 - (T i : Int) - 1)]))
    (hk : Keeps (blk (A' i)) (wr.alloc o) w1) (hm : Moved (wr.alloc o) (A' i) a2) (hh : Heads (wr.alloc o) w1 3 (A' i) ((N i + T i) * 1)) :
    Ap2 w (w1.setCell ⟨L, i, none⟩ (.slice a2 (N i + T i + 1) c2)) b0 o0 L m B A (fun j => if j = i then a2 else A' j) N C (fun j => if j = i then c2 else C' j) (fun j => if j = i then T i + 1 else T j) := by
  have hlt : ∀ j, j < m → ∀ k, (blk (A j) k ∨ blk (A' j) k) → k < wr.heap.size := by
    intro j hj k hk
    rcases hk with ⟨a, ha, rfl⟩ | ⟨a, ha, rfl⟩
    · exact (World.ownsRow.lt (h.low j hj) a.block (by rw [ha]; rfl)).2
    · exact (World.ownsRow.lt (h.high j hj) a.block (by rw [ha]; rfl)).2
  have hk0 : Keeps (blk (A' i)) wr w1 := (Keeps.alloc (S := blk (A' i)) wr o).trans hk (fun _ _ h => h)
  have hLlt : L < wr.heap.size := (World.ownsRow.lt h.long L rfl).2
  have hLi : ¬ blk (A' i) L := fun hb => (h.off i hi L (.inr hb)).1 rfl
  have hks : Keeps (fun x => x = L) w1 (w1.setCell ⟨L, i, none⟩ (.slice a2 (N i + T i + 1) c2)) := Keeps.setCell w1 ⟨L, i, none⟩ _ rfl
  have hk2 : Keeps (fun x => blk (A' i) x ∨ x = L) wr (w1.setCell ⟨L, i, none⟩ (.slice a2 (N i + T i + 1) c2)) :=
    (hk0.mono (fun _ _ s => .inl s)).trans hks (fun _ _ s => .inr s)
  have hwsz := h.keeps.size
  have a2blk : ∀ k, blk a2 k → blk (A' i) k ∨ wr.heap.size + 1 ≤ k := by
    intro k hk
    rcases hm with rfl | ⟨g, rfl, hg⟩
    · exact .inl hk
    · obtain ⟨a, ha, rfl⟩ := hk
      simp only [Option.some.injEq] at ha; subst ha
      simp at hg
      exact .inr hg
  have hdis : ∀ p q, p < m → q < m → p ≠ q → ∀ k, (blk (A p) k ∨ blk (if p = i then a2 else A' p) k) → ¬ (blk (A q) k ∨ blk (if q = i then a2 else A' q) k) := by
    have key : ∀ p, p < m → ∀ k, (blk (A p) k ∨ blk (if p = i then a2 else A' p) k) → (blk (A p) k ∨ blk (A' p) k) ∨ (p = i ∧ wr.heap.size + 1 ≤ k) := by
      intro p hp k hk
      by_cases e : p = i
      · subst e
        rw [if_pos rfl] at hk
        rcases hk with hk | hk
        · exact .inl (.inl hk)
        · rcases a2blk k hk with h1 | h1
          · exact .inl (.inr h1)
          · exact .inr ⟨rfl, h1⟩
      · rw [if_neg e] at hk; exact .inl hk
    intro p q hp hq hpq k hkp hkq
    rcases key p hp k hkp with h1 | ⟨e1, h1⟩
    · rcases key q hq k hkq with h2 | ⟨e2, h2⟩
      · exact h.dis p q hp hq hpq k h1 h2
      · have := hlt p hp k h1; omega
    · rcases key q hq k hkq with h2 | ⟨e2, h2⟩
      · have := hlt q hq k h2; omega
      · exact hpq (e1.trans e2.symm)
  refine ⟨?_, ?_, ?_, ?_, hdis, ?_, h.ne, ?_, h.new, ?_, h.base⟩
  · intro j hj
    refine hk2.cell (h.ls j hj) ?_
    rintro (hb | hb)
    · exact (h.off i hi _ (.inr hb)).2 rfl
    · exact h.ne hb
  · intro j hj
    by_cases hb : ∃ x, blk (A j) x ∧ blk (A' i) x
    · obtain ⟨x, ⟨a, ha, hax⟩, ⟨a', ha', hax'⟩⟩ := hb
      -- then it is list i itself, and its row's head stays
      have e : j = i := by
        by_cases e : j = i
        · exact e
        · exact absurd (.inr ⟨a', ha', hax'⟩) (h.dis j i hj hi e x (.inl ⟨a, ha, hax⟩))
      subst e
      have haa : A' j = A j := by
        rcases h.moved j hj with e | ⟨g, e, _⟩
        · exact e
        · rcases (h.low j hj).2 with ⟨hv, _⟩ | ⟨g2, cap, cur, hv, _⟩
          · simp only [Value.slice.injEq] at hv; rw [hv.1] at ha; cases ha
          · simp only [Value.slice.injEq] at hv
            rw [e] at ha'; rw [hv.1] at ha
            simp only [Option.some.injEq] at ha ha'
            subst ha ha'
            simp at hax hax'
            rw [e, hv.1, hax, hax']
      rw [haa] at hh
      have h1 := (Keeps.alloc (S := fun _ => False) wr o).owns (h.low j hj) (fun _ _ h => h)
      have h2 := ownsRow_kept_head h1 hh (by omega)
      exact hks.owns h2 (fun x hx hxL => by subst hxL; exact (h.off j hj x (.inl (blk_own hx))).1 rfl)
    · refine hk2.owns (h.low j hj) ?_
      intro x hx
      rintro (hb2 | hb2)
      · exact hb ⟨x, blk_own hx, hb2⟩
      · subst hb2; exact (h.off j hj x (.inl (blk_own hx))).1 rfl
  · intro j hj
    by_cases e : j = i
    · subst e
      simp only [if_true]
      rw [apNg_succ, ← List.append_assoc]
      refine hks.owns hown ?_
      intro x hx hxL
      subst hxL
      rcases a2blk x (blk_own hx) with h1 | h1
      · exact hLi h1
      · omega
    · simp only [if_neg e]
      refine hk2.owns (h.high j hj) ?_
      intro x hx
      rintro (hb2 | hb2)
      · exact h.dis j i hj hi e x (.inr (blk_own hx)) (.inr hb2)
      · subst hb2; exact (h.off j hj x (.inr (blk_own hx))).1 rfl
  · have h0 := hk0.owns h.long (fun x hx => by simp [Value.ownBlock] at hx; subst hx; exact hLi)
    have h1 := (h0.stored i (.slice a2 (N i + T i + 1) c2)).1
    have e2 : ((List.range m).map fun j => Value.slice (A' j) (N j + T j) (C' j)).set i (.slice a2 (N i + T i + 1) c2) = (List.range m).map fun j => Value.slice (if j = i then a2 else A' j) (N j + if j = i then T i + 1 else T j) (if j = i then c2 else C' j) := by
      apply List.ext_getElem?
      intro j
      rw [List.getElem?_set]
      by_cases e : i = j
      · subst e; simp [hi, Nat.add_assoc]
      · rw [if_neg e]
        by_cases hj : j < m
        · have e' : ¬ j = i := fun h => e h.symm
          simp [hj, e']
        · simp [hj]
    rw [← e2]
    exact h1
  · intro j hj k hk
    by_cases e : j = i
    · subst e
      rw [if_pos rfl] at hk
      rcases hk with hk | hk
      · exact h.off j hj k (.inl hk)
      · rcases a2blk k hk with h1 | h1
        · exact h.off j hj k (.inr h1)
        · have hb0 : b0 < wr.heap.size := World.block_lt_of_cell? wr ⟨b0, _, none⟩ (h.ls j hj)
          exact ⟨by omega, by omega⟩
    · rw [if_neg e] at hk; exact h.off j hj k hk
  · refine h.keeps.trans hk2 ?_
    intro x hx
    rintro (hb | hb)
    · rcases h.moved i hi with e | ⟨g, e, hg⟩
      · exact ⟨i, hi, e ▸ hb⟩
      · obtain ⟨a, ha, hax⟩ := hb
        rw [e] at ha; simp only [Option.some.injEq] at ha; subst ha
        simp at hax; omega
    · have := h.new; omega
  · intro j hj
    by_cases e : j = i
    · subst e
      rw [if_pos rfl]
      rcases hm with rfl | ⟨g, rfl, hg⟩
      · exact h.moved j hj
      · simp at hg; exact .inr ⟨g, rfl, by omega⟩
    · rw [if_neg e]; exact h.moved j hj

end Go.Proofs.Ytijlgcbnoekmeaa
