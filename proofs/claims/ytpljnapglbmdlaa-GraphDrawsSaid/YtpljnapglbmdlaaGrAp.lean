/-
  The look at the apartness of lists.
-/
import Derived.Test.YtpljnapglbmdlaaGsH
import Derived.Deep.OwnRows
namespace Go.Proofs.Ytpljnapglbmdlaa
open Go Go.RowKit Go.Joins
set_option linter.all false


/-- The marks of list j. -/
def apMk (j n : Nat) : List Value := (List.range n).map fun k : Nat => I ((j : Int) * 1000003 + (k : Int))
def apNg (j n : Nat) : List Value := (List.range n).map fun k : Nat => I (-(j : Int) * 1000003 - (k : Int) - 1)

theorem apMk_len (j n : Nat) : (apMk j n).length = n := by simp [apMk]
theorem apNg_len (j n : Nat) : (apNg j n).length = n := by simp [apNg]
theorem apMk_at (j n k : Nat) (h : k < n) : (apMk j n)[k]? = some (I ((j : Int) * 1000003 + k)) := by simp [apMk, h]
theorem apMk_succ (j n : Nat) : apMk j (n + 1) = apMk j n ++ [I ((j : Int) * 1000003 + (n : Int))] := by simp [apMk, List.range_succ]
theorem apNg_succ (j n : Nat) : apNg j (n + 1) = apNg j n ++ [I (-(j : Int) * 1000003 - n - 1)] := by simp [apNg, List.range_succ]

/-- Lists of ints in rows of their own: list j is (A j, N j, C j) and holds X j. -/
structure Rows2 (w : World) (B m : Nat) (A : Nat → Option Addr) (N C : Nat → Nat) (X : Nat → List Value) : Prop where
  own : ∀ j, j < m → w.ownsRow B 3 1 (.slice (A j) (N j) (C j)) (N j) (X j)

theorem own_addr {w : World} {B : Nat} {e : TypeId} {a : Option Addr} {n c : Nat} {xs : List Value} (h : w.ownsRow B e 1 (.slice a n c) n xs) (hn : 0 < n) : ∃ g, a = some ⟨g, 0, none⟩ := by
  rcases h.2 with ⟨_, h0⟩ | ⟨g, cap, cur, hv, _⟩
  · omega
  · simp only [Value.slice.injEq] at hv
    exact ⟨g, hv.1⟩

/-- The first phase, in list i before place k. -/
structure Ap1 (w wr : World) (b0 o0 L m B : Nat) (A : Nat → Option Addr) (N C : Nat → Nat) (X : Nat → List Value) (i k : Nat) : Prop where
  ls : ∀ j, j < m → wr.cell? ⟨b0, o0 + j, none⟩ = some (.slice (A j) (N j) (C j))
  low : ∀ j, j < m → wr.ownsRow B 3 1 (.slice (A j) (N j) (C j)) (N j) (if j < i then apMk j (N j) else if j = i then apMk j k ++ (X j).drop k else X j)
  long : wr.ownsRow w.heap.size 41 1 (.slice (some ⟨L, 0, none⟩) m m) m ((List.range m).map fun j => if j < i then .slice (A j) (N j) (C j) else .slice none 0 0)
  dis : ∀ i j, i < m → j < m → i ≠ j → ∀ k, blk (A i) k → ¬ blk (A j) k
  off : ∀ j, j < m → ∀ k, blk (A j) k → k ≠ L ∧ k ≠ b0
  ne : b0 ≠ L
  keeps : Keeps (fun k => ∃ j, j < m ∧ blk (A j) k) w wr
  new : w.heap.size ≤ L

theorem Ap1.store {w wr : World} {b0 o0 L m B : Nat} {A : Nat → Option Addr} {N C : Nat → Nat} {X : Nat → List Value} {i k g : Nat} (h : Ap1 w wr b0 o0 L m B A N C X i k) (hi : i < m) (hk : k < N i) (hg : A i = some ⟨g, 0, none⟩)
    (hX : ∀ j, j < m → (X j).length = N j) :
    Ap1 w (wr.setCell ⟨g, k, none⟩ (I ((i : Int) * 1000003 + k))) b0 o0 L m B A N C X i (k + 1) := by
  have hb : blk (A i) g := ⟨_, hg, rfl⟩
  have hks : Keeps (fun x => x = g) wr (wr.setCell ⟨g, k, none⟩ (I ((i : Int) * 1000003 + k))) := Keeps.setCell wr ⟨g, k, none⟩ _ rfl
  have hoff := h.off i hi g hb
  refine ⟨fun j hj => hks.cell (h.ls j hj) (fun e => hoff.2 e.symm), ?_, ?_, h.dis, h.off, h.ne, h.keeps.trans hks (fun x _ e => ⟨i, hi, e ▸ hb⟩), h.new⟩
  · intro j hj
    by_cases e : j = i
    · subst e
      have h0 := h.low j hj
      rw [hg] at h0 ⊢
      have h1 := (h0.stored k (I ((j : Int) * 1000003 + k))).1
      simp only [Nat.lt_irrefl, if_false, if_true] at h1 ⊢
      have e2 : (apMk j k ++ (X j).drop k).set k (I ((j : Int) * 1000003 + k)) = apMk j (k + 1) ++ (X j).drop (k + 1) := by
        have hl := hX j hj
        rw [List.set_append_right _ _ (by rw [apMk_len]; omega), apMk_len, Nat.sub_self, List.drop_eq_getElem_cons (by omega), List.set_cons_zero, apMk_succ, List.append_assoc]
        rfl
      rw [← e2]
      exact h1
    · have h0 := h.low j hj
      have : ∀ x, (Value.slice (A j) (N j) (C j)).ownBlock = some x → ¬ x = g := by
        intro x hx hxg
        subst hxg
        refine h.dis i j hi hj (fun e' => e e'.symm) x hb ?_
        cases hA : A j with
        | none => rw [hA] at hx; simp [Value.ownBlock] at hx
        | some a => rw [hA] at hx; simp [Value.ownBlock] at hx; exact ⟨a, rfl, hx⟩
      have h1 := hks.owns h0 this
      simpa [e] using h1
  · exact hks.owns h.long (fun x hx hxg => by simp [Value.ownBlock] at hx; subst hx; exact hoff.1 hxg.symm)

theorem Ap1.next {w wr : World} {b0 o0 L m B : Nat} {A : Nat → Option Addr} {N C : Nat → Nat} {X : Nat → List Value} {i : Nat} (h : Ap1 w wr b0 o0 L m B A N C X i (N i)) (hi : i < m) (hX : ∀ j, j < m → (X j).length = N j) :
    Ap1 w (wr.setCell ⟨L, i, none⟩ (.slice (A i) (N i) (C i))) b0 o0 L m B A N C X (i + 1) 0 := by
  have hks : Keeps (fun x => x = L) wr (wr.setCell ⟨L, i, none⟩ (.slice (A i) (N i) (C i))) := Keeps.setCell wr ⟨L, i, none⟩ _ rfl
  refine ⟨fun j hj => hks.cell (h.ls j hj) h.ne, ?_, ?_, h.dis, h.off, h.ne, h.keeps.trans hks (fun x hx e => by have := h.new; omega), h.new⟩
  · intro j hj
    have h0 := hks.owns (h.low j hj) (fun x hx hxL => by
      have : blk (A j) x := by
        cases hA : A j with
        | none => rw [hA] at hx; simp [Value.ownBlock] at hx
        | some a => rw [hA] at hx; simp [Value.ownBlock] at hx; exact ⟨a, rfl, hx⟩
      exact (h.off j hj x this).1 hxL)
    by_cases e : j = i
    · subst e
      have hl := hX j hj
      rw [if_neg (Nat.lt_irrefl _), if_pos rfl, List.drop_of_length_le (by omega), List.append_nil] at h0
      rw [if_pos (by omega)]
      exact h0
    · by_cases e2 : j < i
      · rw [if_pos e2] at h0; rw [if_pos (by omega)]; exact h0
      · rw [if_neg e2, if_neg e] at h0
        rw [if_neg (by omega)]
        by_cases e3 : j = i + 1
        · rw [if_pos e3]; simpa [apMk] using h0
        · rw [if_neg e3]; exact h0
  · have h0 := (h.long.stored i (.slice (A i) (N i) (C i))).1
    have e2 : ((List.range m).map fun j => if j < i then Value.slice (A j) (N j) (C j) else .slice none 0 0).set i (.slice (A i) (N i) (C i)) = (List.range m).map fun j => if j < i + 1 then Value.slice (A j) (N j) (C j) else .slice none 0 0 := by
      apply List.ext_getElem?
      intro j
      rw [List.getElem?_set]
      by_cases e : i = j
      · subst e; simp [hi]
      · rw [if_neg e]
        by_cases hj : j < m
        · simp [hj]
          by_cases e2 : j < i
          · rw [if_pos e2, if_pos (by omega)]
          · rw [if_neg e2, if_neg (by omega)]
        · simp [hj]
    rw [← e2]
    exact h0

/-- The second phase. -/
structure Ap2 (w wr : World) (b0 o0 L m B : Nat) (A A' : Nat → Option Addr) (N C C' T : Nat → Nat) : Prop where
  ls : ∀ j, j < m → wr.cell? ⟨b0, o0 + j, none⟩ = some (.slice (A j) (N j) (C j))
  low : ∀ j, j < m → wr.ownsRow B 3 1 (.slice (A j) (N j) (C j)) (N j) (apMk j (N j))
  high : ∀ j, j < m → wr.ownsRow B 3 1 (.slice (A' j) (N j + T j) (C' j)) (N j + T j) (apMk j (N j) ++ apNg j (T j))
  long : wr.ownsRow w.heap.size 41 1 (.slice (some ⟨L, 0, none⟩) m m) m ((List.range m).map fun j => .slice (A' j) (N j + T j) (C' j))
  dis : ∀ i j, i < m → j < m → i ≠ j → ∀ k, (blk (A i) k ∨ blk (A' i) k) → ¬ (blk (A j) k ∨ blk (A' j) k)
  off : ∀ j, j < m → ∀ k, (blk (A j) k ∨ blk (A' j) k) → k ≠ L ∧ k ≠ b0
  ne : b0 ≠ L
  keeps : Keeps (fun k => ∃ j, j < m ∧ blk (A j) k) w wr
  new : w.heap.size ≤ L
  moved : ∀ j, j < m → A' j = A j ∨ ∃ g, A' j = some ⟨g, 0, none⟩ ∧ w.heap.size ≤ g
  base : B ≤ w.heap.size

theorem Ap1.done {w wr : World} {b0 o0 L m B : Nat} {A : Nat → Option Addr} {N C : Nat → Nat} {X : Nat → List Value} (h : Ap1 w wr b0 o0 L m B A N C X m 0) (hB : B ≤ w.heap.size) : Ap2 w wr b0 o0 L m B A A N C C (fun _ => 0) := by
  refine ⟨h.ls, ?_, ?_, ?_, ?_, ?_, h.ne, h.keeps, h.new, fun j _ => .inl rfl, hB⟩
  · intro j hj; have := h.low j hj; rwa [if_pos hj] at this
  · intro j hj; have := h.low j hj; rw [if_pos hj] at this; simpa [apNg] using this
  · have := h.long
    have e : ((List.range m).map fun j => if j < m then Value.slice (A j) (N j) (C j) else .slice none 0 0) = (List.range m).map fun j => Value.slice (A j) (N j + 0) (C j) := by
      apply List.map_congr_left
      intro j hj
      rw [if_pos (List.mem_range.1 hj)]; rfl
    rw [e] at this
    exact this
  · intro i j hi hj e k hk hk'; simp only [or_self] at hk hk'; exact h.dis i j hi hj e k hk hk'
  · intro j hj k hk; simp only [or_self] at hk; exact h.off j hj k hk

theorem blk_own {a : Option Addr} {n c x : Nat} (h : (Value.slice a n c).ownBlock = some x) : blk a x := by
  cases a with
  | none => simp [Value.ownBlock] at h
  | some a => simp [Value.ownBlock] at h; exact ⟨a, rfl, h⟩

/-- One append to long[i], stored back. -/
theorem Ap2.app {w wr w1 : World} {b0 o0 L m B : Nat} {A A' : Nat → Option Addr} {N C C' T : Nat → Nat} {i : Nat} (h : Ap2 w wr b0 o0 L m B A A' N C C' T) (hi : i < m) (o : Obj) (a2 : Option Addr) (c2 : Nat)
    (hown : w1.ownsRow B 3 1 (.slice a2 (N i + T i + 1) c2) (N i + T i + 1) (apMk i (N i) ++ apNg i (T i) ++ [I (-(i : Int) * 1000003 - (T i : Int) - 1)]))
    (hk : Keeps (blk (A' i)) (wr.alloc o) w1) (hm : Moved (wr.alloc o) (A' i) a2) (hh : Heads (wr.alloc o) w1 3 (A' i) ((N i + T i) * 1)) :
    Ap2 w (w1.setCell ⟨L, i, none⟩ (.slice a2 (N i + T i + 1) c2)) b0 o0 L m B A (fun j => if j = i then a2 else A' j) N C (fun j => if j = i then c2 else C' j) (fun j => if j = i then T i + 1 else T j) := by
  have hlt : ∀ j, j < m → ∀ k, (blk (A j) k ∨ blk (A' j) k) → k < wr.heap.size := by
    intro j hj k hk
    rcases hk with ⟨a, ha, rfl⟩ | ⟨a, ha, rfl⟩
    · exact (World.ownsRow.lt (h.low j hj) a.block (by rw [ha]; rfl)).2
    · exact (World.ownsRow.lt (h.high j hj) a.block (by rw [ha]; rfl)).2
  have hk0 : Keeps (blk (A' i)) wr w1 := (Keeps.alloc (S := blk (A' i)) wr o).trans hk (fun _ _ h => h)
  have hLlt : L < wr.heap.size := (World.ownsRow.lt h.long L rfl).2
  have hLi : ¬ blk (A' i) L := fun hb => (h.off i hi L (.inr hb)).1 rfl
  have hks : Keeps (fun x => x = L) w1 (w1.setCell ⟨L, i, none⟩ (.slice a2 (N i + T i + 1) c2)) := Keeps.setCell w1 ⟨L, i, none⟩ _ rfl
  have hk2 : Keeps (fun x => blk (A' i) x ∨ x = L) wr (w1.setCell ⟨L, i, none⟩ (.slice a2 (N i + T i + 1) c2)) :=
    (hk0.mono (fun _ _ s => .inl s)).trans hks (fun _ _ s => .inr s)
  have hwsz := h.keeps.size
  have a2blk : ∀ k, blk a2 k → blk (A' i) k ∨ wr.heap.size + 1 ≤ k := by
    intro k hk
    rcases hm with rfl | ⟨g, rfl, hg⟩
    · exact .inl hk
    · obtain ⟨a, ha, rfl⟩ := hk
      simp only [Option.some.injEq] at ha; subst ha
      simp at hg
      exact .inr hg
  have hdis : ∀ p q, p < m → q < m → p ≠ q → ∀ k, (blk (A p) k ∨ blk (if p = i then a2 else A' p) k) → ¬ (blk (A q) k ∨ blk (if q = i then a2 else A' q) k) := by
    have key : ∀ p, p < m → ∀ k, (blk (A p) k ∨ blk (if p = i then a2 else A' p) k) → (blk (A p) k ∨ blk (A' p) k) ∨ (p = i ∧ wr.heap.size + 1 ≤ k) := by
      intro p hp k hk
      by_cases e : p = i
      · subst e
        rw [if_pos rfl] at hk
        rcases hk with hk | hk
        · exact .inl (.inl hk)
        · rcases a2blk k hk with h1 | h1
          · exact .inl (.inr h1)
          · exact .inr ⟨rfl, h1⟩
      · rw [if_neg e] at hk; exact .inl hk
    intro p q hp hq hpq k hkp hkq
    rcases key p hp k hkp with h1 | ⟨e1, h1⟩
    · rcases key q hq k hkq with h2 | ⟨e2, h2⟩
      · exact h.dis p q hp hq hpq k h1 h2
      · have := hlt p hp k h1; omega
    · rcases key q hq k hkq with h2 | ⟨e2, h2⟩
      · have := hlt q hq k h2; omega
      · exact hpq (e1.trans e2.symm)
  refine ⟨?_, ?_, ?_, ?_, hdis, ?_, h.ne, ?_, h.new, ?_, h.base⟩
  · intro j hj
    refine hk2.cell (h.ls j hj) ?_
    rintro (hb | hb)
    · exact (h.off i hi _ (.inr hb)).2 rfl
    · exact h.ne hb
  · intro j hj
    by_cases hb : ∃ x, blk (A j) x ∧ blk (A' i) x
    · obtain ⟨x, ⟨a, ha, hax⟩, ⟨a', ha', hax'⟩⟩ := hb
      -- then it is list i itself, and its row's head stays
      have e : j = i := by
        by_cases e : j = i
        · exact e
        · exact absurd (.inr ⟨a', ha', hax'⟩) (h.dis j i hj hi e x (.inl ⟨a, ha, hax⟩))
      subst e
      have haa : A' j = A j := by
        rcases h.moved j hj with e | ⟨g, e, _⟩
        · exact e
        · rcases (h.low j hj).2 with ⟨hv, _⟩ | ⟨g2, cap, cur, hv, _⟩
          · simp only [Value.slice.injEq] at hv; rw [hv.1] at ha; cases ha
          · simp only [Value.slice.injEq] at hv
            rw [e] at ha'; rw [hv.1] at ha
            simp only [Option.some.injEq] at ha ha'
            subst ha ha'
            simp at hax hax'
            rw [e, hv.1, hax, hax']
      rw [haa] at hh
      have h1 := (Keeps.alloc (S := fun _ => False) wr o).owns (h.low j hj) (fun _ _ h => h)
      have h2 := ownsRow_kept_head h1 hh (by omega)
      exact hks.owns h2 (fun x hx hxL => by subst hxL; exact (h.off j hj x (.inl (blk_own hx))).1 rfl)
    · refine hk2.owns (h.low j hj) ?_
      intro x hx
      rintro (hb2 | hb2)
      · exact hb ⟨x, blk_own hx, hb2⟩
      · subst hb2; exact (h.off j hj x (.inl (blk_own hx))).1 rfl
  · intro j hj
    by_cases e : j = i
    · subst e
      simp only [if_true]
      rw [apNg_succ, ← List.append_assoc]
      refine hks.owns hown ?_
      intro x hx hxL
      subst hxL
      rcases a2blk x (blk_own hx) with h1 | h1
      · exact hLi h1
      · omega
    · simp only [if_neg e]
      refine hk2.owns (h.high j hj) ?_
      intro x hx
      rintro (hb2 | hb2)
      · exact h.dis j i hj hi e x (.inr (blk_own hx)) (.inr hb2)
      · subst hb2; exact (h.off j hj x (.inr (blk_own hx))).1 rfl
  · have h0 := hk0.owns h.long (fun x hx => by simp [Value.ownBlock] at hx; subst hx; exact hLi)
    have h1 := (h0.stored i (.slice a2 (N i + T i + 1) c2)).1
    have e2 : ((List.range m).map fun j => Value.slice (A' j) (N j + T j) (C' j)).set i (.slice a2 (N i + T i + 1) c2) = (List.range m).map fun j => Value.slice (if j = i then a2 else A' j) (N j + if j = i then T i + 1 else T j) (if j = i then c2 else C' j) := by
      apply List.ext_getElem?
      intro j
      rw [List.getElem?_set]
      by_cases e : i = j
      · subst e; simp [hi, Nat.add_assoc]
      · rw [if_neg e]
        by_cases hj : j < m
        · have e' : ¬ j = i := fun h => e h.symm
          simp [hj, e']
        · simp [hj]
    rw [← e2]
    exact h1
  · intro j hj k hk
    by_cases e : j = i
    · subst e
      rw [if_pos rfl] at hk
      rcases hk with hk | hk
      · exact h.off j hj k (.inl hk)
      · rcases a2blk k hk with h1 | h1
        · exact h.off j hj k (.inr h1)
        · have hb0 : b0 < wr.heap.size := World.block_lt_of_cell? wr ⟨b0, _, none⟩ (h.ls j hj)
          exact ⟨by omega, by omega⟩
    · rw [if_neg e] at hk; exact h.off j hj k hk
  · refine h.keeps.trans hk2 ?_
    intro x hx
    rintro (hb | hb)
    · rcases h.moved i hi with e | ⟨g, e, hg⟩
      · exact ⟨i, hi, e ▸ hb⟩
      · obtain ⟨a, ha, hax⟩ := hb
        rw [e] at ha; simp only [Option.some.injEq] at ha; subst ha
        simp at hax; omega
    · have := h.new; omega
  · intro j hj
    by_cases e : j = i
    · subst e
      rw [if_pos rfl]
      rcases hm with rfl | ⟨g, rfl, hg⟩
      · exact h.moved j hj
      · simp at hg; exact .inr ⟨g, rfl, by omega⟩
    · rw [if_neg e]; exact h.moved j hj



theorem Try.infoInts : (Try.prog.info? 41).map (fun i => (i.zero, i.size, i.bytes)) = some (some (.slice none 0 0), 1, 24) := by kernel_rfl

theorem Ap1.start {w w1 : World} {b0 o0 m B : Nat} {A : Nat → Option Addr} {N C : Nat → Nat} {X : Nat → List Value}
    (hls : ∀ j, j < m → w.cell? ⟨b0, o0 + j, none⟩ = some (.slice (A j) (N j) (C j)))
    (low : ∀ j, j < m → w.ownsRow B 3 1 (.slice (A j) (N j) (C j)) (N j) (X j))
    (dis : ∀ i j, i < m → j < m → i ≠ j → ∀ k, blk (A i) k → ¬ blk (A j) k)
    (off : ∀ j, j < m → ∀ k, blk (A j) k → k ≠ b0) (hb0 : b0 < w.heap.size)
    (hl : w1.ownsRow w.heap.size 41 1 (.slice (some ⟨w.heap.size, 0, none⟩) m m) m (List.replicate m (.slice none 0 0))) (hn : New w w1) :
    Ap1 w w1 b0 o0 w.heap.size m B A N C X 0 0 := by
  refine ⟨fun j hj => hn.cell (hls j hj), ?_, ?_, dis, ?_, by omega, Keeps.mono hn (fun _ _ h => h.elim), Nat.le_refl _⟩
  · intro j hj
    have h0 := hn.owns (low j hj)
    rw [if_neg (by omega)]
    by_cases e : j = 0
    · rw [if_pos e]; simpa [apMk] using h0
    · rw [if_neg e]; exact h0
  · have e : ((List.range m).map fun j => if j < 0 then Value.slice (A j) (N j) (C j) else .slice none 0 0) = List.replicate m (.slice none 0 0) := by
      apply List.ext_getElem?
      intro j
      by_cases hj : j < m <;> simp [hj]
    rw [e]; exact hl
  · intro j hj k hk
    refine ⟨?_, off j hj k hk⟩
    obtain ⟨a, ha, rfl⟩ := hk
    have := (World.ownsRow.lt (low j hj) a.block (by rw [ha]; rfl)).2
    omega

theorem own_get {w : World} {B g n c size : Nat} {e : TypeId} {xs : List Value} (h : w.ownsRow B e size (.slice (some ⟨g, 0, none⟩) n c) n xs) {j : Nat} (hj : j < n * size) : ∃ v, w.cell? ⟨g, j, none⟩ = some v := by
  rw [h.cellAt j hj]
  exact ⟨_, List.getElem?_eq_getElem (by rw [h.1]; exact hj)⟩

/-- What the walk reads of the first phase. -/
theorem Ap1.read {w wr : World} {b0 o0 L m B : Nat} {A : Nat → Option Addr} {N C : Nat → Nat} {X : Nat → List Value} {i k : Nat} (h : Ap1 w wr b0 o0 L m B A N C X i k) (hi : i < m) (hk : k < N i) :
    ∃ g v, A i = some ⟨g, 0, none⟩ ∧ wr.cell? ⟨g, k, none⟩ = some v ∧ wr.frozen? ⟨g, k, none⟩ = false := by
  have h0 := h.low i hi
  obtain ⟨g, hg⟩ := own_addr h0 (by omega)
  rw [hg] at h0
  obtain ⟨v, hv⟩ := own_get h0 (j := k) (by omega)
  exact ⟨g, v, hg, hv, h0.frozenAt k⟩

theorem Ap1.readL {w wr : World} {b0 o0 L m B : Nat} {A : Nat → Option Addr} {N C : Nat → Nat} {X : Nat → List Value} {i k : Nat} (h : Ap1 w wr b0 o0 L m B A N C X i k) (hi : i < m) :
    (∃ v, wr.cell? ⟨L, i, none⟩ = some v) ∧ wr.frozen? ⟨L, i, none⟩ = false := by
  exact ⟨own_get h.long (by omega), h.long.frozenAt i⟩

theorem Ap2.readL {w wr : World} {b0 o0 L m B : Nat} {A A' : Nat → Option Addr} {N C C' T : Nat → Nat} {i : Nat} (h : Ap2 w wr b0 o0 L m B A A' N C C' T) (hi : i < m) :
    wr.cell? ⟨L, i, none⟩ = some (.slice (A' i) (N i + T i) (C' i)) ∧ wr.frozen? ⟨L, i, none⟩ = false := by
  refine ⟨?_, h.long.frozenAt i⟩
  rw [h.long.cellAt i (by omega)]
  simp [hi]

theorem Ap2.readLow {w wr : World} {b0 o0 L m B : Nat} {A A' : Nat → Option Addr} {N C C' T : Nat → Nat} {i k : Nat} (h : Ap2 w wr b0 o0 L m B A A' N C C' T) (hi : i < m) (hk : k < N i) :
    ∃ g, A i = some ⟨g, 0, none⟩ ∧ wr.cell? ⟨g, k, none⟩ = some (.int .i64 ((i : Int) * 1000003 + (k : Int))) := by
  have h0 := h.low i hi
  obtain ⟨g, hg⟩ := own_addr h0 (by omega)
  rw [hg] at h0
  refine ⟨g, hg, ?_⟩
  rw [h0.cellAt k (by omega), apMk_at _ _ _ hk]

theorem Ap2.readHigh {w wr : World} {b0 o0 L m B : Nat} {A A' : Nat → Option Addr} {N C C' T : Nat → Nat} {i k : Nat} (h : Ap2 w wr b0 o0 L m B A A' N C C' T) (hi : i < m) (hk : k < N i) :
    ∃ g, A' i = some ⟨g, 0, none⟩ ∧ wr.cell? ⟨g, k, none⟩ = some (.int .i64 ((i : Int) * 1000003 + (k : Int))) := by
  have h0 := h.high i hi
  obtain ⟨g, hg⟩ := own_addr h0 (by omega)
  rw [hg] at h0
  refine ⟨g, hg, ?_⟩
  rw [h0.cellAt k (by omega), List.getElem?_append_left (by rw [apMk_len]; exact hk), apMk_at _ _ _ hk]

theorem Ap2.readTop {w wr : World} {b0 o0 L m B : Nat} {A A' : Nat → Option Addr} {N C C' T : Nat → Nat} {i k : Nat} (h : Ap2 w wr b0 o0 L m B A A' N C C' T) (hi : i < m) (hk : k < T i) :
    ∃ g, A' i = some ⟨g, 0, none⟩ ∧ wr.cell? ⟨g, N i + k, none⟩ = some (.int .i64 (-(i : Int) * 1000003 - (k : Int) - 1)) := by
  have h0 := h.high i hi
  obtain ⟨g, hg⟩ := own_addr h0 (by omega)
  rw [hg] at h0
  refine ⟨g, hg, ?_⟩
  rw [h0.cellAt _ (by omega), List.getElem?_append_right (by rw [apMk_len]; omega), apMk_len]
  simp [apNg, show N i + k - N i = k by omega, hk]

theorem Ap2.app' {w wr w1 : World} {b0 o0 L m B : Nat} {A A' : Nat → Option Addr} {N C C' T : Nat → Nat} {i : Nat} (h : Ap2 w wr b0 o0 L m B A A' N C C' T) (hi : i < m) (o : Obj) (a2 : Option Addr) (c2 t : Nat) (ht : T i = t) (ys : List Value)
    (hy : ys = apMk i (N i) ++ apNg i (t + 1)) (hown : w1.ownsRow B 3 1 (.slice a2 (N i + t + 1) c2) (N i + t + 1) ys)
    (hk : Keeps (blk (A' i)) (wr.alloc o) w1) (hm : Moved (wr.alloc o) (A' i) a2) (hh : Heads (wr.alloc o) w1 3 (A' i) (N i + t)) :
    ((∃ v, w1.cell? ⟨L, i, none⟩ = some v) ∧ w1.frozen? ⟨L, i, none⟩ = false) ∧
    Ap2 w (w1.setCell ⟨L, i, none⟩ (.slice a2 (N i + t + 1) c2)) b0 o0 L m B A (fun j => if j = i then a2 else A' j) N C (fun j => if j = i then c2 else C' j) (fun j => if j = i then t + 1 else T j) := by
  subst ht hy
  have hk0 : Keeps (blk (A' i)) wr w1 := (Keeps.alloc (S := blk (A' i)) wr o).trans hk (fun _ _ h => h)
  have hL := hk0.owns h.long (fun x hx hb => by simp [Value.ownBlock] at hx; subst hx; exact (h.off i hi _ (.inr hb)).1 rfl)
  refine ⟨⟨own_get hL (by omega), hL.frozenAt i⟩, h.app hi o a2 c2 ?_ hk hm (by rw [Nat.mul_one]; exact hh)⟩
  rw [apNg_succ, ← List.append_assoc] at hown
  exact hown

set_option maxRecDepth 100000 in
set_option maxHeartbeats 4000000 in
theorem apart_any (w : World) (b0 o0 m cm B : Nat) (A : Nat → Option Addr) (N C : Nat → Nat) (X : Nat → List Value)
    (hls : ∀ j, j < m → w.cell? ⟨b0, o0 + j, none⟩ = some (.slice (A j) (N j) (C j)))
    (low : ∀ j, j < m → w.ownsRow B 3 1 (.slice (A j) (N j) (C j)) (N j) (X j))
    (dis : ∀ i j, i < m → j < m → i ≠ j → ∀ k, blk (A i) k → ¬ blk (A j) k)
    (off : ∀ j, j < m → ∀ k, blk (A j) k → k ≠ b0) (hb0 : b0 < w.heap.size) (hB : B ≤ w.heap.size) (hm : m ≤ 1000) (hN : ∀ j, j < m → (N j + 16) * 8 ≤ 140737488355328) :
    Calls Try.prog 18 #[.slice (some ⟨b0, o0, none⟩) m cm] w fun e w' => e = .returned (.bool true) ∧ Keeps (fun k => ∃ j, j < m ∧ blk (A j) k) w w' := by
  have hX : ∀ j, j < m → (X j).length = N j := fun j hj => by have := (low j hj).1; omega
  obtain ⟨i0, hi0, hz0, hz1, hz2⟩ := info_parts Try.infoInts
  obtain ⟨i1, hi1, hy0, hy1, hy2⟩ := info_parts Try.infoInt
  have HX := Lib.hid hX
  have HLS := Lib.hid hls
  have HLOW := Lib.hid low
  have HDIS := Lib.hid dis
  have HOFF := Lib.hid off
  have HN := Lib.hid hN
  clear hX hls low dis off hN
  go_enter Try.func18, Try.ntmps18
  go_wp2_with (at_make; refine wpList_make_full _ rfl _ _ 39 rfl w.heap.size 41 i0 (.slice none 0 0) 1 Try.underlying39 hi0 hz0 hz1 _ _ _ _ m rfl rfl rfl rfl ?b1 ?b2 ?b3 ?b4)
  case b1 => rw [hz2]; omega
  case b2 => unfold maxLen; omega
  case b3 => simp
  case b4 =>
    intro w1 hown hg
    rw [toList_madeCells_one] at hown
    have hst := Ap1.start HLS.out HLOW.out HDIS.out HOFF.out hb0 hown (Keeps.grown hg (fun k h => by cases h))
    clear hown hg
    go_wp2
    go_loopw [4] (fun i wr => ∃ n : Nat, n ≤ m ∧ i = .int .i64 n ∧ Ap1 w wr b0 o0 w.heap.size m B A N C X n 0) (fun i _ => m - (intOf i).toNat)
    case atStart => exact ⟨0, by omega, rfl, hst⟩
    case round =>
      clear hst
      obtain ⟨n, hn, rfl, hA⟩ := hrel
      by_cases hnm : n < m
      · go_wp2
        go_loopw [5] (fun i wr => ∃ k : Nat, k ≤ N n ∧ i = .int .i64 k ∧ Ap1 w wr b0 o0 w.heap.size m B A N C X n k) (fun i _ => N n - (intOf i).toNat)
        case atStart => exact ⟨0, by omega, rfl, hA⟩
        case round =>
          clear hA
          obtain ⟨k, hk, rfl, hA⟩ := hrel
          have hls := hA.ls n hnm
          have hNn := HN.out n hnm
          by_cases hkn : k < N n
          · obtain ⟨g, v, hg, hc, hf⟩ := hA.read hnm hkn
            have hnx := hA.store hnm hkn hg HX.out
            rw [hg] at hls
            have HG := Lib.hid hg
            clear hg hA
            generalize N n = Nn at hls hNn hkn hk hnx
            go_wp2
            go_roundw
            case rel => exact ⟨k + 1, by omega, by go_num, hnx⟩
            case measure => simp [intOf]; omega
          · have hke : k = N n := by omega
            subst hke
            obtain ⟨⟨v, hv⟩, hfz⟩ := hA.readL hnm
            have hnx := hA.next hnm HX.out
            clear hA
            generalize hNe : N n = Nn at hls hNn hk hnx hv hfz
            have HNE := Lib.hid hNe
            clear hNe
            go_wp2
            go_roundw
            case rel => exact ⟨n + 1, by omega, by go_num, hnx⟩
            case measure => simp [intOf]; omega
      · obtain rfl : m = n := by omega
        have hA2 := hA.done hB
        clear hA
        go_wp2
        go_loopw [6] (fun i wr => ∃ n : Nat, n ≤ m ∧ i = .int .i64 n ∧ ∃ A' C' T, Ap2 w wr b0 o0 w.heap.size m B A A' N C C' T ∧ ∀ j, j < m → T j = if j < n then 16 else 0) (fun i _ => m - (intOf i).toNat)
        case atStart => exact ⟨0, by omega, rfl, _, _, _, hA2, fun j _ => by simp⟩
        case round =>
          clear hA2
          obtain ⟨n, hn, rfl, A', C', T, hA, hT⟩ := hrel
          have HT := Lib.hid hT
          clear hT
          by_cases hnm : n < m
          · go_wp2
            go_loopw [7] (fun i wr => ∃ k : Nat, k ≤ 16 ∧ i = .int .i64 k ∧ ∃ A' C' T, Ap2 w wr b0 o0 w.heap.size m B A A' N C C' T ∧ ∀ j, j < m → T j = if j < n then 16 else if j = n then k else 0) (fun i _ => 16 - (intOf i).toNat)
            case atStart =>
              refine ⟨0, by omega, rfl, _, _, _, hA, fun j hj => ?_⟩
              rw [HT.out j hj]
              by_cases e : j < n
              · rw [if_pos e, if_pos e]
              · rw [if_neg e, if_neg e]; by_cases e2 : j = n <;> simp [e2]
            case round =>
              clear hA HT
              obtain ⟨k, hk, rfl, A', C', T, hA, hT⟩ := hrel
              have hTn : T n = k := by rw [hT n hnm, if_neg (Nat.lt_irrefl _), if_pos rfl]
              have HT := Lib.hid hT
              clear hT
              have hNn := HN.out n hnm
              by_cases hk16 : k < 16
              · obtain ⟨hcL, hfL⟩ := hA.readL hnm
                have hown := hA.high n hnm
                rw [hTn] at hcL hown
                have HTN := Lib.hid hTn
                clear hTn
                have hLlt : w.heap.size < wr.heap.size := (World.ownsRow.lt hA.long _ rfl).2
                go_wp2_with ((at_builtin; refine wpList_app rfl _ _ 41 rfl B 3 i1 (.int .i64 0) 1 8 Try.underlying41 hi1 hy0 hy1 hy2 rfl (by decide) (A' n) (N n + k) (C' n) _ rfl ((Keeps.alloc (S := fun _ => False) _ _).owns hown (fun _ _ h => h)) _ 1 1 [I (-(n : Int) * 1000003 - (k : Int) - 1)] rfl rfl ?c0 ?c1 ?c2 ?c3 ?c4 ?c5))
                case c0 => exact SlAt.lit _ _ _
                case c1 => intro u hu; simp at hu; subst hu; rfl
                case c2 => unfold maxLen; omega
                case c3 => omega
                case c4 => simp; omega
                case c5 =>
                  intro ao' c' w' hown' hk' hmv hh
                  try simp only [Nat.mul_one] at hh
                  obtain ⟨⟨⟨v, hv⟩, hfz⟩, hnx⟩ := hA.app' hnm _ ao' c' k HTN.out _ (by rw [apNg_succ]) hown' hk' hmv hh
                  have hT2 : ∀ j, j < m → (if j = n then k + 1 else T j) = if j < n then 16 else if j = n then k + 1 else 0 := by
                    intro j hj
                    by_cases e : j = n
                    · subst e; simp
                    · rw [if_neg e, HT.out j hj]; simp [e]
                  have HT2 := Lib.hid hT2
                  clear hT2 hA hown hown' hk' hmv hh hcL hfL
                  go_wp2
                  go_roundw
                  case rel => exact ⟨k + 1, by omega, by go_num, _, _, _, hnx, HT2.out⟩
                  case measure => simp [intOf]; omega
              · obtain rfl : 16 = k := by omega
                have HTN := Lib.hid hTn
                clear hTn
                go_wp2
                go_roundw
                case rel =>
                  refine ⟨n + 1, by omega, by go_num, _, _, _, hA, fun j hj => ?_⟩
                  rw [HT.out j hj]
                  by_cases e : j < n
                  · rw [if_pos e, if_pos (by omega)]
                  · by_cases e2 : j = n
                    · rw [if_neg e, if_pos e2, if_pos (by omega)]
                    · rw [if_neg e, if_neg e2, if_neg (by omega)]
                case measure => simp [intOf]; omega
          · obtain rfl : m = n := by omega
            have hT16 : ∀ j, j < m → T j = 16 := fun j hj => by rw [HT.out j hj, if_pos hj]
            have HT16 := Lib.hid hT16
            have hkeep := hA.keeps
            clear hT16 HT
            go_wp2
            go_loopw [8] (fun i wz => ∃ n : Nat, n ≤ m ∧ i = .int .i64 n ∧ ∃ q, wz = wr.drewN q) (fun i _ => m - (intOf i).toNat)
            case atStart => exact ⟨0, by omega, rfl, 0, rfl⟩
            case round =>
              rename_i wz
              obtain ⟨n, hn, rfl, q, rfl⟩ := hrel
              by_cases hnm : n < m
              · have hls := hA.ls n hnm
                obtain ⟨hcL, hfL⟩ := hA.readL hnm
                rw [HT16.out n hnm] at hcL
                have hNn := HN.out n hnm
                go_wp2
                go_loopw [9] (fun i wz => ∃ k : Nat, k ≤ N n ∧ i = .int .i64 k ∧ ∃ q, wz = wr.drewN q) (fun i _ => N n - (intOf i).toNat)
                case atStart => exact ⟨0, by omega, rfl, q, rfl⟩
                case round =>
                  clear q
                  obtain ⟨k, hk, rfl, q, rfl⟩ := hrel
                  by_cases hkn : k < N n
                  · obtain ⟨g1, hg1, hc1⟩ := hA.readLow hnm hkn
                    obtain ⟨g2, hg2, hc2⟩ := hA.readHigh hnm hkn
                    rw [hg1] at hls
                    rw [hg2] at hcL
                    clear hg1 hg2
                    go_wp2
                    go_roundw
                    case rel => exact ⟨k + 1, by omega, by go_num, _, rfl⟩
                    case measure => simp [intOf]; omega
                  · go_wp2
                    go_loopw [10] (fun i wz => ∃ k : Nat, k ≤ 16 ∧ i = .int .i64 k ∧ ∃ q, wz = wr.drewN q) (fun i _ => 16 - (intOf i).toNat)
                    case atStart => exact ⟨0, by omega, rfl, q, rfl⟩
                    case round =>
                      clear q
                      obtain ⟨t, ht, rfl, q, rfl⟩ := hrel
                      by_cases htn : t < 16
                      · obtain ⟨g2, hg2, hc2⟩ := hA.readTop hnm (k := t) (by rw [HT16.out n hnm]; exact htn)
                        rw [hg2] at hcL
                        clear hg2
                        go_wp2
                        go_quiet (fail)
                        go_wp2
                        go_roundw
                        case rel => exact ⟨t + 1, by omega, by go_num, _, rfl⟩
                        case measure => simp [intOf]; omega
                      · go_wp2
                        go_roundw
                        case rel => exact ⟨n + 1, by omega, by go_num, _, rfl⟩
                        case measure => simp [intOf]; omega
              · go_wp2
                go_ret
                exact ⟨rfl, hkeep.trans (Keeps.drewN _ _) (fun _ _ h => h)⟩


/-- A list of integers that lies somewhere. -/
structure Ent where
  a : Option Addr
  c : Nat
  xs : List Int
def entV (t : Ent) : Value := .slice t.a t.xs.length t.c
def disj (s t : Ent) : Prop := ∀ k, blk s.a k → ¬ blk t.a k
theorem disj_symm {s t : Ent} (h : disj s t) : disj t s := fun k hk hs => h k hs hk

set_option maxRecDepth 100000 in
set_option maxHeartbeats 4000000 in
theorem apart_nil (w : World) :
    Calls Try.prog 18 #[.slice none 0 0] w fun e w' => e = .returned (.bool true) ∧ New w w' := by
  obtain ⟨i0, hi0, hz0, hz1, hz2⟩ := info_parts Try.infoInts
  go_enter Try.func18, Try.ntmps18
  go_wp2_with (at_make; refine wpList_make_full _ rfl _ _ 39 rfl w.heap.size 41 i0 (.slice none 0 0) 1 Try.underlying39 hi0 hz0 hz1 _ _ _ _ 0 rfl rfl rfl rfl ?b1 ?b2 ?b3 ?b4)
  case b1 => omega
  case b2 => unfold maxLen; omega
  case b3 => exact Nat.le_refl _
  case b4 =>
    intro w1 hown hg
    have hN : New w w1 := Keeps.grown hg (fun k h => by cases h)
    clear hown hg
    go_wp2
    go_loopw [4] (fun i wr => i = .int .i64 0 ∧ wr = w1) (fun _ _ => 0)
    case atStart => exact ⟨rfl, rfl⟩
    case round =>
      obtain ⟨rfl, rfl⟩ := hrel
      obtain ⟨wo, rfl⟩ : ∃ wo : World, wo = wr := ⟨_, rfl⟩
      go_wp2
      go_loopw [6] (fun i wr => i = .int .i64 0 ∧ wr = wo) (fun _ _ => 0)
      case atStart => exact ⟨rfl, rfl⟩
      case round =>
        obtain ⟨rfl, rfl⟩ := hrel
        obtain ⟨wo, rfl⟩ : ∃ wo : World, wo = wr := ⟨_, rfl⟩
        go_wp2
        go_loopw [8] (fun i wr => i = .int .i64 0 ∧ wr = wo) (fun _ _ => 0)
        case atStart => exact ⟨rfl, rfl⟩
        case round =>
          obtain ⟨rfl, rfl⟩ := hrel
          go_wp2
          go_ret
          exact ⟨rfl, hN⟩

theorem apart_rows (w : World) (ao : Option Addr) (c B B2 : Nat) (T : List Ent) (hrow : w.ownsRow B2 41 1 (.slice ao T.length c) T.length (T.map entV))
    (low : ∀ t ∈ T, OwnI w B t.a t.c t.xs) (dis : T.Pairwise disj) (off : ∀ t ∈ T, ∀ k, blk t.a k → k < B2) (hB : B ≤ w.heap.size) (hm : T.length ≤ 1000) (hN : ∀ t ∈ T, t.xs.length ≤ 1024) :
    Calls Try.prog 18 #[.slice ao T.length c] w fun e w' => e = .returned (.bool true) ∧ Keeps (fun k => ∃ t ∈ T, blk t.a k) w w' := by
  rcases hrow.2 with ⟨h1, h2⟩ | ⟨g, cap, cur, hv, hg, hh, _⟩
  · simp only [Value.slice.injEq] at h1
    obtain ⟨rfl, h3, rfl⟩ := h1
    rw [h3]
    refine (apart_nil w).mono ?_
    rintro e w' ⟨rfl, k⟩
    exact ⟨rfl, Keeps.mono k (fun _ _ h => h.elim)⟩
  · simp only [Value.slice.injEq] at hv
    obtain ⟨rfl, _, rfl⟩ := hv
    have hat : ∀ j (hj : j < T.length), T.getD j ⟨none, 0, []⟩ = T[j] := fun j hj => by rw [List.getD_eq_getElem?_getD, List.getElem?_eq_getElem hj]; rfl
    have hmem : ∀ j (hj : j < T.length), T.getD j ⟨none, 0, []⟩ ∈ T := fun j hj => by rw [hat j hj]; exact List.getElem_mem hj
    refine (apart_any w g 0 T.length c B (fun j => (T.getD j ⟨none, 0, []⟩).a) (fun j => (T.getD j ⟨none, 0, []⟩).xs.length) (fun j => (T.getD j ⟨none, 0, []⟩).c) (fun j => Is (T.getD j ⟨none, 0, []⟩).xs) ?_ ?_ ?_ ?_ (Array.getElem?_eq_some_iff.1 hh).1 hB hm ?_).mono ?_
    · intro j hj
      rw [Nat.zero_add, hrow.cellAt j (by omega), List.getElem?_map, List.getElem?_eq_getElem hj, hat j hj]; rfl
    · intro j hj; exact low _ (hmem j hj)
    · intro i j hi hj hne k h1 h2
      rw [hat i hi] at h1
      rw [hat j hj] at h2
      have hp := List.pairwise_iff_getElem.1 dis
      rcases Nat.lt_or_gt_of_ne hne with h | h
      · exact hp i j hi hj h k h1 h2
      · exact hp j i hj hi h k h2 h1
    · intro j hj k hk e
      have := off _ (hmem j hj) k hk
      omega
    · intro j hj
      have := hN _ (hmem j hj)
      omega
    · rintro e w' ⟨rfl, k⟩
      exact ⟨rfl, Keeps.mono k (fun i _ ⟨j, hj, hb⟩ => ⟨_, hmem j hj, hb⟩)⟩
end Go.Proofs.Ytpljnapglbmdlaa
