/-
  A slice of slices of ints that came in, read as a fact for the walks.
-/
import Derived.Test.YtijlgcbnoekmeaaRead
import Derived.Test.YtijlgcbnoekmeaaMem3
import Derived.Test.YtijlgcbnoekmeaaBulk
import Derived.Test.YtijlgcbnoekmeaaShapeA
namespace Go.Proofs.Ytijlgcbnoekmeaa
open Go Go.RowKit Go.ChangeShapes Go.WideShapes Go.ChangeAt Go.Deep Go.Joins
set_option linter.all false

/-- A row: where it lies, its room, what it holds. -/
structure RowD where
  a : Option Addr
  c : Nat
  xs : List Int
def RowD.val (r : RowD) : Value := .slice r.a r.xs.length r.c
def tot (l : List RowD) : Nat := (l.map fun r => r.xs.length).sum
theorem tot_take_succ (l : List RowD) (k : Nat) (hk : k < l.length) : tot (l.take (k + 1)) = tot (l.take k) + l[k].xs.length := by
  unfold tot
  rw [List.take_succ_eq_append_getElem hk, List.map_append, List.sum_append, List.map_cons, List.map_nil, List.sum_cons, List.sum_nil, Nat.add_zero]
theorem tot_take_le (l : List RowD) (k : Nat) : tot (l.take k) ≤ tot l := by
  unfold tot
  have h : (l.map fun r : RowD => r.xs.length).sum = ((l.take k).map fun r : RowD => r.xs.length).sum + ((l.drop k).map fun r : RowD => r.xs.length).sum := by
    rw [← List.sum_append, ← List.map_append, List.take_append_drop]
  omega
theorem mem_tot {l : List RowD} {r : RowD} (h : r ∈ l) : r.xs.length ≤ tot l := by
  unfold tot
  induction l with
  | nil => cases h
  | cons x r' ih =>
    rcases List.mem_cons.1 h with rfl | h
    · simp
    · have := ih h; simp; omega

theorem lits_bulk {H : Type} (xs : List Int) (sp : List (DataW H)) : xs.length ≤ Rows.uptoBulk (DataW.slice (lits (H := H) .i64 xs) sp) := by
  have := bulks.slice_le (lits (H := H) .i64 xs) sp
  rw [lits_len] at this; omega

set_option maxRecDepth 100000 in
theorem read_rows {H : Type} {enc : TypeId × Value → H} {W : World} {a : Option Addr} {n c : Nat} {d : DataW H} {ps : List MemPlace}
    (h : DataW.Trod enc Try.prog W 0 (fun _ => true) true 49 (.slice a n c) d ps) :
    ∃ rows : List RowD, n = rows.length ∧ SlAt W a (rows.map RowD.val) ∧ (∀ r ∈ rows, SlAt W r.a (Is r.xs)) ∧ n ≤ maxLen ∧ tot rows ≤ Rows.uptoBulk d := by
  obtain ⟨fuel, hf⟩ := h
  rcases open_slice Try.underlying49 hf with ⟨hcs, hx⟩ | ⟨x, len, cap, m, k, D, Pl, hcs, hb, hl, hm, hmm, hx, hi⟩
  · simp [Value.cells] at hcs
    obtain ⟨rfl, rfl, rfl⟩ := hcs
    exact ⟨[], rfl, SlAt.nil _ _, by simp, by simp, by simp [tot]⟩
  · simp [Value.cells] at hcs
    obtain ⟨rfl, rfl, rfl⟩ := hcs
    simp only [if_true] at hmm
    subst hmm
    simp only [Prod.mk.injEq] at hx
    have hC : Try.prog.cellsOf 37 = 1 := by kernel_rfl
    have hone : ∀ i, i < n → ∃ r : RowD, W.cell? (x.add (i * 1)) = some r.val ∧ SlAt W r.a (Is r.xs) ∧ r.xs.length ≤ Rows.uptoBulk (D i) := by
      intro i hin
      obtain ⟨cs', hc, ht'⟩ := hi i (by omega)
      rw [hC] at hc
      obtain ⟨_, hcl, hat⟩ := World.cells?_some hc
      obtain ⟨v, rfl⟩ : ∃ v, cs' = [v] := List.length_eq_one_iff.1 hcl
      have hcell := hat 0 (by omega)
      have hv : ∃ a' n' c', v = .slice a' n' c' := by
        rcases open_ints Try.underlying37 Try.underlying3 (by kernel_rfl) ht' with ⟨h1, _⟩ | ⟨x1, l1, c1, zs, h1, _⟩
        · simp at h1; exact ⟨_, _, _, h1⟩
        · simp at h1; exact ⟨_, _, _, h1⟩
      obtain ⟨a', n', c', rfl⟩ := hv
      obtain ⟨xs, rfl, hs, _, _, _, hd⟩ := read_ints (a := a') (n := n') (c := c') (d := D i) (ps := Pl i) (W := W) (enc := enc) ⟨k, ht'⟩
      refine ⟨⟨a', c', xs⟩, ?_, hs, ?_⟩
      · have e0 : (x.add (i * 1)).add 0 = x.add (i * 1) := by simp [Addr.add]
        rw [e0] at hcell
        rw [hcell]; rfl
      · rcases hd with ⟨_, rfl⟩ | ⟨sp, e⟩
        · simp
        · rw [e]; exact lits_bulk xs sp
    obtain ⟨rows, hlen, hat⟩ := choose_list n hone
    subst hlen
    refine ⟨rows, rfl, ?_, ?_, by omega, ?_⟩
    · have := sl_rows (w := W) (a := x) (fun r : RowD => [r.val]) 1 (fun _ => rfl) rows (fun i hi j hj => by
        obtain rfl : j = 0 := by omega
        have := (hat i hi).1
        rw [Nat.add_zero, this]; rfl)
      have e : rows.flatMap (fun r => [r.val]) = rows.map RowD.val := by
        clear this hat hx hb hi hm hl hf hone
        induction rows with
        | nil => rfl
        | cons y r ih => rw [List.flatMap_cons, ih, List.map_cons]; rfl
      rw [e] at this; exact this
    · intro r hr
      obtain ⟨i, hi, rfl⟩ := List.getElem_of_mem hr
      exact (hat i hi).2.1
    · rw [hx.1]
      have h1 := bulks.slice_elems ((List.range rows.length).map D) ((List.range (m - rows.length)).map fun j => D (rows.length + j))
      have h2 : ∀ l : List RowD, ∀ E : Nat → DataW H, (∀ (i : Nat) (hi : i < l.length), (l[i]).xs.length ≤ Rows.uptoBulk (E i)) → tot l ≤ Rows.uptoBulkAll ((List.range l.length).map E) := by
        intro l
        induction l with
        | nil => intro E _; simp [tot, Rows.uptoBulkAll]
        | cons y r ih =>
          intro E hE
          have h0 := hE 0 (by simp)
          have h3 := ih (fun i => E (i + 1)) (fun i hi => by have := hE (i + 1) (by simpa using hi); simpa using this)
          rw [List.length_cons, List.range_succ_eq_map]
          simp only [List.map_cons, List.map_map, Rows.uptoBulkAll]
          simp only [tot, List.map_cons, List.sum_cons] at h3 ⊢
          simp only [List.getElem_cons_zero] at h0
          have e : (List.map (E ∘ Nat.succ) (List.range r.length)) = (List.range r.length).map fun i => E (i + 1) := rfl
          rw [e]; omega
      have h3 := h2 rows D (fun i hi => (hat i hi).2.2)
      omega
end Go.Proofs.Ytijlgcbnoekmeaa
