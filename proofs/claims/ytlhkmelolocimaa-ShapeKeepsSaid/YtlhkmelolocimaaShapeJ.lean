/-
  Plain laws on the table of rates.
-/
import Derived.Test.YtlhkmelolocimaaShapeI
namespace Go.Proofs.Ytlhkmelolocimaa
open Go Go.RowKit
set_option linter.all false

theorem len_le {w : World} {B : Nat} {ao : Option Addr} {c : Nat} {xs : List Int} (h : OwnI w B ao c xs) : xs.length ≤ 9223372036854775807 := by
  rcases h.2 with ⟨_, h0⟩ | ⟨g, cap, cur, hv, _, _, hnc, hcm, _⟩
  · omega
  · unfold maxLen at hcm; omega

theorem totalS_eq (xs : List Int) (h1 : xs.length ≤ 16) (h2 : ∀ x ∈ xs, 1 ≤ x ∧ x ≤ 64) : totalS xs = xs.sum := by
  unfold totalS; rw [if_pos ⟨h1, h2⟩]
theorem sum_rep (k : Nat) (m : Int) : (List.replicate k m).sum = (k : Int) * m := by
  induction k with
  | zero => simp
  | succ k ih => rw [List.replicate_succ, List.sum_cons, ih]; rw [Int.natCast_add, Int.add_mul]; omega
theorem tot_rep (n m : Int) (h1 : 1 ≤ n) (h2 : n ≤ 16) (h3 : 1 ≤ m) (h4 : m ≤ 64) : totalS (List.replicate n.toNat m) = n * m := by
  rw [totalS_eq _ (by simp; omega) (by intro x hx; rw [(List.mem_replicate.1 hx).2]; exact ⟨h3, h4⟩), sum_rep, Int.toNat_of_nonneg (by omega)]
theorem tot_one (n : Int) (h1 : 1 ≤ n) (h2 : n ≤ 64) : totalS [n] = n := by
  rw [totalS_eq _ (by simp) (by intro x hx; simp at hx; omega)]; simp
theorem tot_nil : totalS [] = 0 := rfl
theorem tot_two : totalS [1, 1] = 2 := by decide

/-- The stage's theorem, of the table. -/
theorem small (tag : Int) (ps : List Int) (e : Int) (xs ys : List Int) (h : shapeS tag ps = (e, xs, ys)) :
    (e ≠ 0 ∧ xs = [] ∧ ys = [] ∧ (e = 60 ∧ (tag < 1 ∨ 11 < tag) ∨ e = 61 ∧ 1 ≤ tag ∧ tag ≤ 11)) ∨
    (e = 0 ∧ 1 ≤ tag ∧ tag ≤ 11 ∧ (0 ≤ totalS xs ∧ totalS xs ≤ 64) ∧ (0 ≤ totalS ys ∧ totalS ys ≤ 64) ∧ 0 < totalS xs + totalS ys) := by
  unfold shapeS at h
  split at h
  · rename_i ht
    split at h
    · rename_i hg
      right
      simp only [Prod.mk.injEq] at h
      obtain ⟨rfl, hr⟩ := h
      refine ⟨rfl, ht.1, ht.2, ?_⟩
      have hr1 : xs = (rates tag ps).1 := by rw [hr]
      have hr2 : ys = (rates tag ps).2 := by rw [hr]
      rcases tag_cases ht.1 ht.2 with rfl | rfl | rfl | rfl | rfl | rfl | rfl | rfl | rfl | rfl | rfl
      · simp [rates] at hr1 hr2; subst hr1 hr2; rw [tot_one 1 (by omega) (by omega)]; omega
      · obtain ⟨n, rfl, h1, h2⟩ := oneS_true (ps := ps) (k := 64) (by simpa [goodS] using hg)
        simp [rates] at hr1 hr2; subst hr1 hr2; rw [tot_one 1 (by omega) (by omega), tot_one n h1 h2]; omega
      · obtain ⟨n, rfl, h1, h2⟩ := oneS_true (ps := ps) (k := 64) (by simpa [goodS] using hg)
        simp [rates] at hr1 hr2; subst hr1 hr2; rw [tot_one 1 (by omega) (by omega), tot_one n h1 h2]; omega
      · obtain ⟨n, m, rfl, h1, h2, h3, h4, h5⟩ := twoS_true (ps := ps) (by simpa [goodS] using hg)
        have hb := (twoS_decide n m h1 h2 h3 h4).1
        simp [rates] at hr1 hr2; subst hr1 hr2; rw [tot_rep n m h1 h2 h3 h4, tot_one _ hb h5]; omega
      · obtain ⟨n, m, rfl, h1, h2, h3, h4, h5⟩ := twoS_true (ps := ps) (by simpa [goodS] using hg)
        have hb := (twoS_decide n m h1 h2 h3 h4).1
        simp [rates] at hr1 hr2; subst hr1 hr2; rw [tot_rep n m h1 h2 h3 h4, tot_one _ hb h5]; omega
      · obtain ⟨n, rfl, h1, h2⟩ := oneS_true (ps := ps) (k := 16) (by simpa [goodS] using hg)
        simp [rates] at hr1 hr2; subst hr1 hr2; rw [tot_rep n 1 h1 h2 (by omega) (by omega), tot_one 1 (by omega) (by omega)]; omega
      · simp [rates] at hr1 hr2; subst hr1 hr2; rw [tot_two, tot_one 1 (by omega) (by omega)]; omega
      · simp [rates] at hr1 hr2; subst hr1 hr2; rw [tot_one 1 (by omega) (by omega)]; omega
      · obtain ⟨n, rfl, h1, h2⟩ := oneS_true (ps := ps) (k := 16) (by simpa [goodS] using hg)
        simp [rates] at hr1 hr2; subst hr1 hr2; rw [tot_rep n 1 h1 h2 (by omega) (by omega), tot_one 1 (by omega) (by omega)]; omega
      · simp [rates] at hr1 hr2; subst hr1 hr2; rw [tot_nil, tot_one 1 (by omega) (by omega)]; omega
      · obtain ⟨n, rfl, h1, h2⟩ := oneS_true (ps := ps) (k := 64) (by simpa [goodS] using hg)
        simp [rates] at hr1 hr2; subst hr1 hr2; rw [tot_nil, tot_one n h1 h2]; omega
    · left
      simp only [Prod.mk.injEq] at h
      obtain ⟨rfl, rfl, rfl⟩ := h
      exact ⟨by omega, rfl, rfl, .inr ⟨rfl, ht.1, ht.2⟩⟩
  · rename_i ht
    left
    simp only [Prod.mk.injEq] at h
    obtain ⟨rfl, rfl, rfl⟩ := h
    exact ⟨by omega, rfl, rfl, .inl ⟨rfl, by omega⟩⟩

theorem shape_len (tag : Int) (ps : List Int) (e : Int) (xs ys : List Int) (h : shapeS tag ps = (e, xs, ys)) : xs.length ≤ 16 ∧ ys.length ≤ 16 := by
  have key : ∀ l : List Int, 0 ≤ totalS l → l.length ≤ 16 := by
    intro l hl
    unfold totalS at hl
    split at hl
    · rename_i h; exact h.1
    · omega
  rcases small tag ps e xs ys h with ⟨_, rfl, rfl, _⟩ | ⟨_, _, _, ⟨ha, _⟩, ⟨hb, _⟩, _⟩
  · simp
  · exact ⟨key _ ha, key _ hb⟩

theorem refOf_is (tag : Int) (ao : Option Addr) (c : Nat) (ps : List Int) (w : World) (r : Int × List Int × List Int) (hr : shapeS tag ps = r) (hx : SlAt w ao (Is ps)) (hl : ps.length ≤ 9223372036854775807) :
    Calls Try.prog 10 #[.int .u8 tag, .slice ao ps.length c] w (Rates w r) := hr ▸ refOf_any tag ao c ps w hx hl

end Go.Proofs.Ytlhkmelolocimaa
