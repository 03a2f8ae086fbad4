/-
  Layer 5, plain: how much is read at most.
-/
import Derived.Test.YtohalcbhckahmaaDoorSkQ
namespace Go.Proofs.YtohalcbhckahmaaDoor
open Go
set_option linter.all false

theorem numsL_le (l : List LTok) (k : Nat) : (numsL l k).length ≤ l.length := by
  unfold numsL
  have := numsF_len (l.drop k)
  simp only [List.length_drop] at this
  omega
theorem body_xs {l : List LTok} {k m : Nat} {x : LIt} (h : bodyP l k = .good x m) : x.xs.length ≤ l.length + 1 := by
  unfold bodyP at h
  split at h
  · cases h
  · split at h
    · unfold actorP at h
      obtain ⟨n, k1, h1, h⟩ := PR.bind_inv h
      obtain ⟨_, k2, h2, h⟩ := PR.bind_inv h
      obtain ⟨g, k3, h3, h⟩ := PR.bind_inv h
      obtain ⟨xs, k4, h4, h⟩ := PR.bind_inv h
      cases h
      obtain ⟨rfl, _⟩ := numsP_inv h4
      have := numsL_le l k3
      show (numsL l k3).length ≤ _
      omega
    · split at h
      · unfold edgeP at h
        obtain ⟨n, k1, h1, h⟩ := PR.bind_inv h
        obtain ⟨_, k2, h2, h⟩ := PR.bind_inv h
        obtain ⟨g, k3, h3, h⟩ := PR.bind_inv h
        obtain ⟨xs, k4, h4, h⟩ := PR.bind_inv h
        cases h
        show xs.length ≤ _
        unfold withP at h4
        split at h4
        · obtain ⟨v, k5, h5, h4⟩ := PR.bind_inv h4
          obtain ⟨ys, k6, h6, h4⟩ := PR.bind_inv h4
          cases h4
          obtain ⟨rfl, _⟩ := numsP_inv h6
          have := numsL_le l k5
          simp only [List.length_cons]; omega
        · cases h4; simp
      · split at h
        · unfold inP at h
          obtain ⟨n, k1, h1, h⟩ := PR.bind_inv h
          obtain ⟨_, k2, h2, h⟩ := PR.bind_inv h
          obtain ⟨g, k3, h3, h⟩ := PR.bind_inv h
          cases h; simp
        · split at h
          · unfold outP at h
            obtain ⟨n, k1, h1, h⟩ := PR.bind_inv h
            obtain ⟨_, k2, h2, h⟩ := PR.bind_inv h
            obtain ⟨g, k3, h3, h⟩ := PR.bind_inv h
            cases h; simp
          · cases h
theorem item_xs {l : List LTok} {k m : Nat} {x : LIt} (h : itemP l k = .good x m) : x.xs.length ≤ l.length + 1 := by
  unfold itemP at h
  obtain ⟨y, k1, h1, h⟩ := PR.bind_inv h
  obtain ⟨_, k2, h2, h⟩ := PR.bind_inv h
  cases h
  exact body_xs h1
theorem items_le {l : List LTok} : ∀ (f k m : Nat) (xs : List LIt), itemsP f l k = .good xs m → xs.length ≤ f ∧ ∀ x ∈ xs, x.xs.length ≤ l.length + 1 := by
  intro f
  induction f with
  | zero => intro k m xs h; cases h
  | succ f ih =>
    intro k m xs h
    unfold itemsP at h
    split at h
    · cases h; exact ⟨by simp, fun x hx => by cases hx⟩
    · obtain ⟨x, k1, h1, h⟩ := PR.bind_inv h
      obtain ⟨ys, k2, h2, h⟩ := PR.bind_inv h
      cases h
      obtain ⟨a, b⟩ := ih _ _ _ h2
      refine ⟨by simp only [List.length_cons]; omega, fun y hy => ?_⟩
      rcases List.mem_cons.1 hy with rfl | hy
      · exact item_xs h1
      · exact b y hy
theorem read_len {s : List UInt8} {x : LSk} (h : parseA s = .ok x) : x.items.length ≤ 1048577 ∧ ∀ y ∈ x.items, y.xs.length ≤ 1048578 := by
  unfold parseA at h
  obtain ⟨⟨l, c, k'⟩, hA⟩ : ∃ r, lexA s = r := ⟨_, rfl⟩
  have hn := (lexA_count (l := s)).1
  rw [hA] at h hn
  simp only at h hn
  split at h
  · cases h
  · split at h
    · rename_i z m hp
      cases h
      unfold parseP at hp
      obtain ⟨_, k1, h1, hp⟩ := PR.bind_inv hp
      obtain ⟨n, k2, h2, hp⟩ := PR.bind_inv hp
      obtain ⟨_, k3, h3, hp⟩ := PR.bind_inv hp
      obtain ⟨xs, k4, h4, hp⟩ := PR.bind_inv hp
      obtain ⟨_, k5, h5, hp⟩ := PR.bind_inv hp
      obtain ⟨_, k6, h6, hp⟩ := PR.bind_inv hp
      cases hp
      obtain ⟨a, b⟩ := items_le _ _ _ _ h4
      refine ⟨?_, fun y hy => ?_⟩
      · show xs.length ≤ _; omega
      · have := b y hy; omega
    · cases h
end Go.Proofs.YtohalcbhckahmaaDoor
