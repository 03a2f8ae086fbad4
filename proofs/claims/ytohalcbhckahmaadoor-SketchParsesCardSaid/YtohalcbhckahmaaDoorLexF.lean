/-
  Layer 4: the law's awake.
-/
import Derived.Test.YtohalcbhckahmaaDoorLexE
namespace Go.Proofs.YtohalcbhckahmaaDoor
open Go Go.RowKit Go.Joins
set_option linter.all false

theorem lexL_code : ∀ (n p : Nat) (l : List UInt8), l.length ≤ n → ∀ c a, (lexL p l).2 = some (c, a) → c = 40 ∨ c = 41 ∨ c = 42 := by
  intro n
  induction n with
  | zero =>
    intro p l h
    obtain rfl : l = [] := List.eq_nil_of_length_eq_zero (by omega)
    rw [lexL_nil]; simp
  | succ n ih =>
    intro p l h
    cases l with
    | nil => rw [lexL_nil]; simp
    | cons c r =>
      simp only [List.length_cons] at h
      cases h1 : isBlk c with
      | true => rw [lexL_blank _ _ _ h1]; exact ih _ _ (by omega)
      | false =>
        by_cases h2 : c.toNat = 35
        · rw [lexL_hash _ _ _ h2]; exact ih _ _ (by rw [List.length_drop]; omega)
        · cases ht : tokR (c :: r) with
          | bad e =>
            rw [lexL_bad _ _ _ h1 h2 ht]
            intro c a hca
            cases hca
            exact tokR_bad ht
          | good s t m k =>
            have hk := tokR_len ht
            rw [lexL_good _ _ _ h1 h2 ht]
            exact ih _ _ (by rw [List.length_drop, List.length_cons]; omega)
theorem lx_row {w : World} {ao : Option Addr} {l : List LTok} (h : SlAt w ao (l.flatMap tokCells)) (hne : l ≠ []) :
    ∃ b off, ao = some ⟨b, off, none⟩ ∧ ∀ (i : Nat) (hi : i < l.length) (j : Nat), j < 4 → w.cell? ⟨b, off + i * 4 + j, none⟩ = (tokCells l[i])[j]? := by
  have hl := flat_len tokCells 4 tokCells_len l
  have hpos : 0 < l.length := List.length_pos_iff.2 hne
  obtain ⟨b, off, e, _⟩ := h.at (i := 0) (by omega)
  refine ⟨b, off, e, fun i hi j hj => ?_⟩
  have hij : i * 4 + j < l.length * 4 := by omega
  obtain ⟨b2, off2, e2, hc⟩ := h.at (i := i * 4 + j) (by omega)
  rw [e] at e2
  cases e2
  rw [Nat.add_assoc, hc]
  have := flat_at tokCells 4 tokCells_len l i j hi hj
  rw [← this, List.getElem?_eq_getElem (by omega)]
/-- All at a text whose tokens are known. -/
theorem call_good (w : World) (s : ByteArray) (he : Env w) (hs : s.size ≤ 9223372036854775807) (l : List LTok) (h : lexA s.data.toList = (l, 0, 0)) (hne : l ≠ []) (n : Nat) (hn : l.length = n) :
    Calls Tryd.prog 23 #[.string s] w fun e w' => ∃ b off c, e = .returned (.tuple #[.slice (some ⟨b, off, none⟩) n c, .agg #[I 0, I 0]]) ∧ New w w' ∧ ∀ (i : Nat) (hi : i < l.length) (j : Nat), j < 4 → w'.cell? ⟨b, off + i * 4 + j, none⟩ = (tokCells l[i])[j]? := by
  refine (call_any w s he hs).mono ?_
  rintro e w' ⟨a, c, rfl, n1, ho⟩
  rw [h] at ho ⊢
  obtain ⟨b, off, rfl, hc⟩ := lx_row (SlAt.of_owns ho) hne
  simp only at *
  subst hn
  exact ⟨b, off, c, rfl, n1, hc⟩
theorem call_bad (w : World) (s : ByteArray) (he : Env w) (hs : s.size ≤ 9223372036854775807) (c : Int) (k : Nat) (h : lexA s.data.toList = ([], c, k)) :
    Calls Tryd.prog 23 #[.string s] w fun e w' => ∃ a cc, e = .returned (.tuple #[.slice a 0 cc, .agg #[I c, I k]]) ∧ New w w' := by
  refine (call_any w s he hs).mono ?_
  rintro e w' ⟨a, cc, rfl, n1, ho⟩
  rw [h]
  exact ⟨a, cc, rfl, n1⟩

/-- All, at any text. -/
theorem callA (w : World) (s : ByteArray) (he : Env w) (hs : s.size ≤ 9223372036854775807) (l : List LTok) (c : Int) (k : Nat) (h : lexA s.data.toList = (l, c, k)) (n : Nat) (hn : l.length = n) :
    Calls Tryd.prog 23 #[.string s] w fun e w' => ∃ a cc, e = .returned (.tuple #[.slice a n cc, .agg #[I c, I k]]) ∧ New w w' ∧ SlAt w' a (l.flatMap tokCells) := by
  refine (call_any w s he hs).mono ?_
  rintro e w' ⟨a, cc, rfl, n1, ho⟩
  rw [h] at ho ⊢
  simp only at *
  subst hn
  exact ⟨a, cc, rfl, n1, SlAt.of_owns ho⟩
theorem lexA_code {s : List UInt8} {l : List LTok} {c : Int} {k : Nat} (h : lexA s = (l, c, k)) : (c = 0 ∧ k = 0 ∧ l ≠ [] ∧ s.length ≤ 1048576 ∧ ∃ ts, lexL 0 s = (ts, none) ∧ l = ts ++ [⟨0, [], 0, s.length⟩]) ∨ ((c = 2 ∧ 1048576 < s.length ∧ k = 1048576 ∨ (c = 40 ∨ c = 41 ∨ c = 42) ∧ s.length ≤ 1048576 ∧ ∃ ts, lexL 0 s = (ts, some (c, k))) ∧ l = []) := by
  unfold lexA at h
  split at h
  · cases h; exact Or.inr ⟨Or.inl ⟨rfl, by assumption, rfl⟩, rfl⟩
  · rename_i hlen
    cases hx : lexL 0 s with
    | mk ts e =>
      rw [hx] at h
      cases e with
      | none =>
        simp only [Prod.mk.injEq] at h
        obtain ⟨rfl, rfl, rfl⟩ := h
        exact Or.inl ⟨rfl, rfl, by simp, by omega, ts, rfl, rfl⟩
      | some e =>
        obtain ⟨x, y⟩ := e
        simp only [Prod.mk.injEq] at h
        obtain ⟨rfl, rfl, rfl⟩ := h
        exact Or.inr ⟨Or.inr ⟨lexL_code _ _ _ (Nat.le_refl _) _ _ (by rw [hx]), by omega, ts, rfl⟩, rfl⟩

def txt1 : ByteArray := ⟨#[97, 32, 45, 62, 32, 45, 53, 59]⟩
def toks1 : List LTok := [⟨1, [97], 0, 0⟩, ⟨3, [45, 62], 0, 2⟩, ⟨2, [], -5, 5⟩, ⟨3, [59], 0, 7⟩, ⟨0, [], 0, 8⟩]
theorem lex1 : lexA txt1.data.toList = (toks1, 0, 0) := by kernel_rfl
def txt2 : ByteArray := ⟨#[97, 32, 45, 32, 98]⟩
theorem lex2 : lexA txt2.data.toList = ([], 40, 2) := by kernel_rfl

end Go.Proofs.YtohalcbhckahmaaDoor
