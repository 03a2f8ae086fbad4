/-
  Layer 10, plain: who fired, counted one by one.
-/
import Derived.Test.YtijlgcbnoekmeaaNetP
namespace Go.Proofs.Ytijlgcbnoekmeaa
set_option linter.all false

def bump (F : List Int) (l : List Int) : List Int := l.foldl (fun F v => F.set v.toNat (F.getD v.toNat 0 + 1)) F
theorem bump_snoc (F l : List Int) (v : Int) : bump F (l ++ [v]) = (bump F l).set v.toNat ((bump F l).getD v.toNat 0 + 1) := by simp [bump]
theorem bump_len (l : List Int) : ∀ F, (bump F l).length = F.length := by
  induction l with
  | nil => intro F; rfl
  | cons v r ih => intro F; show (bump (F.set v.toNat (F.getD v.toNat 0 + 1)) r).length = _; rw [ih]; simp
theorem bump_take (F l : List Int) (k : Nat) (hk : k < l.length) : bump F (l.take (k + 1)) = (bump F (l.take k)).set l[k].toNat ((bump F (l.take k)).getD l[k].toNat 0 + 1) := by
  rw [List.take_succ_eq_append_getElem hk, bump_snoc]

/-- What fires is what is counted. -/
theorem fire_bump (arcs : List ArcD) (nodes : Nat) (vs : List Int) : ∀ s, (fireS arcs nodes s vs).2.fired = bump s.fired (vs.take (fireS arcs nodes s vs).1) ∧ ∀ v ∈ vs.take (fireS arcs nodes s vs).1, 0 ≤ v ∧ v < nodes := by
  induction vs with
  | nil => intro s; simp [fireS, bump]
  | cons v r ih =>
    intro s
    unfold fireS
    split
    · rename_i hv
      have hb := ((mayS_iff _ _ _ _).1 hv).1
      obtain ⟨h1, h2⟩ := ih (fireOne arcs s v.toNat)
      refine ⟨?_, ?_⟩
      · simp only [List.take_succ_cons]
        rw [h1]; rfl
      · intro u hu
        simp only [List.take_succ_cons] at hu
        rcases List.mem_cons.1 hu with rfl | hu
        · exact hb
        · exact h2 u hu
    · simp [bump]
theorem bump_bd {M : Int} (l : List Int) : ∀ F : List Int, (∀ x ∈ F, -M ≤ x ∧ x ≤ M) → ∀ x ∈ bump F l, -(M + l.length) ≤ x ∧ x ≤ M + l.length := by
  induction l generalizing M with
  | nil => intro F h x hx; have := h x hx; simpa using this
  | cons v r ih =>
    intro F h x hx
    have h1 : ∀ x ∈ F.set v.toNat (F.getD v.toNat 0 + 1), -(M + 1) ≤ x ∧ x ≤ M + 1 := by
      by_cases hv : v.toNat < F.length
      · exact bd_set h _ _ (by omega) (by have := Bd.at h hv; omega)
      · rw [List.set_eq_of_length_le (by omega)]
        intro y hy; have := h y hy; omega
    have := ih (M := M + 1) _ h1 x hx
    simp only [List.length_cons]; omega
end Go.Proofs.Ytijlgcbnoekmeaa
