/-
  Layer 4, plain: where the tokens of a text stand.
-/
import Derived.Test.YtohalcbhckahmaaDoorLexI
namespace Go.Proofs.YtohalcbhckahmaaDoor
open Go Go.RowKit Go.Joins
set_option linter.all false

theorem placed_get (L : List UInt8) : ∀ (ts : List LTok) (a i : Nat) (t : LTok), Placed L a ts → ts[i]? = some t →
    (i = 0 → a ≤ t.at_) ∧ (∀ j u, i = j + 1 → ts[j]? = some u → u.at_ + u.spelt.length ≤ t.at_) ∧ t.at_ + t.spelt.length ≤ L.length ∧ (L.drop t.at_).take t.spelt.length = t.spelt ∧ t.sort ≠ 0 ∧ t.right = true ∧
      (-9223372036854775808 ≤ t.num ∧ t.num ≤ 9223372036854775807) := by
  intro ts
  induction ts with
  | nil => intro a i t _ h; simp at h
  | cons x r ih =>
    intro a i t hp h
    obtain ⟨p1, p2, p3, p4, p5, p6, p7⟩ := hp
    cases i with
    | zero =>
      simp only [List.getElem?_cons_zero, Option.some.injEq] at h
      subst h
      exact ⟨fun _ => p1, fun j u hj => by omega, p2, p3, p4, p5, p6⟩
    | succ i =>
      simp only [List.getElem?_cons_succ] at h
      obtain ⟨h1, h2, h3⟩ := ih _ i t p7 h
      refine ⟨fun h => by omega, fun j u hj hu => ?_, h3⟩
      cases j with
      | zero =>
        simp only [List.getElem?_cons_zero, Option.some.injEq] at hu
        subst hu
        exact h1 (by omega)
      | succ j =>
        simp only [List.getElem?_cons_succ] at hu
        exact h2 j u (by omega) hu
/-- Where the next token may begin. -/
def posL (l : List LTok) : Nat → Nat
  | 0 => 0
  | i + 1 => match l[i]? with
    | some t => t.at_ + t.spelt.length
    | none => 0
theorem right_text {t : LTok} (h : t.right = true) : t.text.length ≤ t.spelt.length := by
  unfold LTok.right at h
  split at h
  · rename_i e; unfold LTok.spelt; rw [if_neg (by omega)]; omega
  · split at h
    · rw [decide_eq_true_iff] at h; rw [h]; simp
    · split at h
      · rename_i e; unfold LTok.spelt; rw [if_neg (by omega)]; omega
      · cases h
theorem places_plain {s : List UInt8} {l : List LTok} (h : lexA s = (l, 0, 0)) :
    (∀ (i : Nat) (hi : i < l.length), posL l i ≤ l[i].at_ ∧ l[i].at_ + l[i].spelt.length ≤ s.length ∧ (s.drop l[i].at_).take l[i].spelt.length = l[i].spelt ∧
      ((i + 1 = l.length ∧ l[i].sort = 0) ∨ (i + 1 ≠ l.length ∧ l[i].sort ≠ 0 ∧ l[i].right = true)) ∧ (-9223372036854775808 ≤ l[i].num ∧ l[i].num ≤ 9223372036854775807) ∧ l[i].text.length ≤ s.length) ∧ posL l l.length = s.length ∧ 0 < l.length := by
  rcases lexA_code h with ⟨_, _, _, hlen, ts, hl, rfl⟩ | ⟨⟨h2, _⟩ | ⟨h2, _⟩, _⟩
  · have hp := lexL_placed s s.length 0 s (Nat.le_refl _) rfl (Nat.zero_le _)
    rw [hl] at hp
    simp only at hp
    have hpos : ∀ i, i ≤ ts.length → posL (ts ++ [⟨0, [], 0, s.length⟩]) i ≤ s.length := by
      intro i hi
      cases i with
      | zero => exact Nat.zero_le _
      | succ i =>
        have e : (ts ++ [(⟨0, [], 0, s.length⟩ : LTok)])[i]? = some ts[i] := by rw [List.getElem?_append_left (by omega)]; exact List.getElem?_eq_getElem (by omega)
        have := (placed_get s ts 0 i ts[i] hp (List.getElem?_eq_getElem (by omega))).2.2.1
        show (match (ts ++ [(⟨0, [], 0, s.length⟩ : LTok)])[i]? with | some t => t.at_ + t.spelt.length | none => 0) ≤ _
        rw [e]; exact this
    refine ⟨fun i hi => ?_, ?_, by simp⟩
    · by_cases hit : i < ts.length
      · have e : (ts ++ [(⟨0, [], 0, s.length⟩ : LTok)])[i] = ts[i] := List.getElem_append_left hit
        obtain ⟨g1, g2, g3, g4, g5, g6, g7⟩ := placed_get s ts 0 i ts[i] hp (List.getElem?_eq_getElem hit)
        rw [e]
        refine ⟨?_, g3, g4, Or.inr ⟨by rw [List.length_append, List.length_singleton]; omega, g5, g6⟩, g7, ?_⟩
        · cases i with
          | zero => exact Nat.zero_le _
          | succ i =>
            have e : (ts ++ [(⟨0, [], 0, s.length⟩ : LTok)])[i]? = some ts[i] := by rw [List.getElem?_append_left (by omega)]; exact List.getElem?_eq_getElem (by omega)
            show (match (ts ++ [(⟨0, [], 0, s.length⟩ : LTok)])[i]? with | some t => t.at_ + t.spelt.length | none => 0) ≤ _
            rw [e]
            exact g2 i ts[i] rfl (List.getElem?_eq_getElem (by omega))
        · have := right_text g6; omega
      · have hi2 : i = ts.length := by rw [List.length_append, List.length_singleton] at hi; omega
        subst hi2
        have e : (ts ++ [(⟨0, [], 0, s.length⟩ : LTok)])[ts.length] = ⟨0, [], 0, s.length⟩ := by simp
        rw [e]
        have hz : (LTok.mk 0 [] 0 s.length).spelt = [] := rfl
        rw [hz]
        exact ⟨hpos _ (Nat.le_refl _), by simp, by simp, Or.inl ⟨by simp, rfl⟩, ⟨by show (-9223372036854775808 : Int) ≤ 0; omega, by show (0 : Int) ≤ _; omega⟩, by simp⟩
    · rw [List.length_append, List.length_singleton]
      show (match (ts ++ [(⟨0, [], 0, s.length⟩ : LTok)])[ts.length]? with | some t => t.at_ + t.spelt.length | none => 0) = _
      have e : (ts ++ [(⟨0, [], 0, s.length⟩ : LTok)])[ts.length]? = some ⟨0, [], 0, s.length⟩ := by simp
      rw [e]
      rfl
  · cases h2
  · omega
end Go.Proofs.YtohalcbhckahmaaDoor
