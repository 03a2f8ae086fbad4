/-
  Layer 4, plain: two texts joined, as the whole answers; and All with its list's room.
-/
import Derived.Test.YtohalcbhckahmaaDoorLexG
namespace Go.Proofs.YtohalcbhckahmaaDoor
open Go Go.RowKit Go.Joins
set_option linter.all false

theorem movedL_append (l m : List LTok) (d : Nat) : movedL (l ++ m) d = movedL l d ++ movedL m d := by unfold movedL; rw [List.map_append]
/-- Two texts with a line's end between them: what the whole answers. -/
theorem lexA_join {a b : List UInt8} (hs : a.length + b.length ≤ 1048575) {la lb : List LTok} {ca cb : Int} {ka kb : Nat} (hA : lexA a = (la, ca, ka)) (hB : lexA b = (lb, cb, kb)) :
    (ca ≠ 0 ∧ la = [] ∧ lexA (a ++ 10 :: b) = ([], ca, ka)) ∨ (ca = 0 ∧ ka = 0 ∧ cb ≠ 0 ∧ lb = [] ∧ lexA (a ++ 10 :: b) = ([], cb, kb + a.length + 1)) ∨
    (ca = 0 ∧ ka = 0 ∧ cb = 0 ∧ kb = 0 ∧ lexA (a ++ 10 :: b) = (la.dropLast ++ movedL lb (a.length + 1), 0, 0) ∧ la ≠ []) := by
  have hj := lexL_join a.length 0 a b (Nat.le_refl _)
  have hlen : ¬ 1048576 < (a ++ 10 :: b).length := by simp; omega
  have hsh := lexL_shift b.length (a.length + 1) 0 b (Nat.le_refl _)
  simp only [Nat.zero_add] at hj hsh
  unfold lexA at hA hB
  rw [if_neg (by omega)] at hA hB
  unfold lexA
  rw [if_neg hlen, hj, hsh]
  cases hx : lexL 0 a with
  | mk ta ea =>
    rw [hx] at hA
    cases ea with
    | some e =>
      obtain ⟨x, y⟩ := e
      simp only [Prod.mk.injEq] at hA
      obtain ⟨rfl, rfl, rfl⟩ := hA
      refine Or.inl ⟨?_, rfl, rfl⟩
      have := lexL_code _ _ _ (Nat.le_refl _) x y (show (lexL 0 a).2 = some (x, y) by rw [hx])
      omega
    | none =>
      simp only [Prod.mk.injEq] at hA
      obtain ⟨rfl, rfl, rfl⟩ := hA
      cases hy : lexL 0 b with
      | mk tb eb =>
        rw [hy] at hB
        cases eb with
        | some e =>
          obtain ⟨x, y⟩ := e
          simp only [Prod.mk.injEq] at hB
          obtain ⟨rfl, rfl, rfl⟩ := hB
          refine Or.inr (Or.inl ⟨rfl, rfl, ?_, rfl, ?_⟩)
          · have := lexL_code _ _ _ (Nat.le_refl _) x y (show (lexL 0 b).2 = some (x, y) by rw [hy])
            omega
          · simp only [Option.map_some, Nat.add_assoc]
        | none =>
          simp only [Prod.mk.injEq] at hB
          obtain ⟨rfl, rfl, rfl⟩ := hB
          refine Or.inr (Or.inr ⟨rfl, rfl, rfl, rfl, ?_, by simp⟩)
          simp only [Option.map_none, List.dropLast_concat, List.length_append, List.length_cons]
          rw [movedL_append]
          simp only [movedL, List.map_cons, List.map_nil, Prod.mk.injEq, and_true]
          rw [show b.length + (a.length + 1) = a.length + (b.length + 1) by omega, List.append_assoc]
theorem lexL_count : ∀ (n p : Nat) (l : List UInt8), l.length ≤ n → (lexL p l).1.length ≤ l.length := by
  intro n
  induction n with
  | zero =>
    intro p l h
    obtain rfl : l = [] := List.eq_nil_of_length_eq_zero (by omega)
    rw [lexL_nil]; simp
  | succ n ih =>
    intro p l h
    cases l with
    | nil => rw [lexL_nil]; simp
    | cons c r =>
      simp only [List.length_cons] at h ⊢
      cases h1 : isBlk c with
      | true => rw [lexL_blank _ _ _ h1]; have := ih (p + 1) r (by omega); omega
      | false =>
        by_cases h2 : c.toNat = 35
        · rw [lexL_hash _ _ _ h2]
          have := ih (p + 1 + (r.takeWhile notEol).length) (r.drop (r.takeWhile notEol).length) (by rw [List.length_drop]; omega)
          rw [List.length_drop] at this; omega
        · cases ht : tokR (c :: r) with
          | bad e => rw [lexL_bad _ _ _ h1 h2 ht]; simp
          | good s t m k =>
            have hk := tokR_len ht
            simp only [List.length_cons] at hk
            rw [lexL_good _ _ _ h1 h2 ht]
            have := ih (p + k) ((c :: r).drop k) (by rw [List.length_drop, List.length_cons]; omega)
            rw [List.length_drop, List.length_cons] at this
            simp only [List.length_cons]
            omega
theorem lexA_count {l : List UInt8} : (lexA l).1.length ≤ 1048577 ∧ (lexA l).1.length ≤ l.length + 1 := by
  unfold lexA
  split
  · simp
  · have := lexL_count l.length 0 l (Nat.le_refl _)
    split
    · rename_i ts hts
      rw [hts] at this
      simp only [List.length_append, List.length_singleton]
      simp only at this
      omega
    · simp
theorem lexA_at {l : List UInt8} : ∀ t ∈ (lexA l).1, t.at_ ≤ 1048576 ∧ t.at_ ≤ l.length := by
  intro t ht
  unfold lexA at ht
  split at ht
  · simp at ht
  · split at ht
    · rename_i ts hts
      rcases List.mem_append.1 ht with h | h
      · have := (lexL_ge l.length 0 l (Nat.le_refl _)).1 t (by rw [hts]; exact h)
        omega
      · rw [List.mem_singleton.1 h]; simp only; omega
    · simp at ht
theorem lexA_place {l : List UInt8} : (lexA l).2.2 ≤ 1048576 := by
  unfold lexA
  split
  · exact Nat.le_refl _
  · split
    · exact Nat.zero_le _
    · rename_i h _ c a hx
      have := (lexL_ge l.length 0 l (Nat.le_refl _)).2 c a (by rw [hx])
      simp only; omega
theorem flat_take : ∀ (l : List LTok) (m : Nat), (l.take m).flatMap tokCells = (l.flatMap tokCells).take (m * 4) := by
  intro l
  induction l with
  | nil => intro m; simp
  | cons t r ih =>
    intro m
    cases m with
    | zero => simp
    | succ m =>
      rw [List.take_succ_cons, List.flatMap_cons, List.flatMap_cons, ih m, List.take_append, tokCells_len, List.take_of_length_le (l := tokCells t) (by rw [tokCells_len]; omega)]
      rw [show (m + 1) * 4 - 4 = m * 4 by omega]
/-- All, at any text, its list's room with it. -/
theorem callC (w : World) (s : ByteArray) (he : Env w) (hs : s.size ≤ 9223372036854775807) (l : List LTok) (c : Int) (k : Nat) (h : lexA s.data.toList = (l, c, k)) (n : Nat) (hn : l.length = n) :
    Calls Tryd.prog 23 #[.string s] w fun e w' => ∃ a cc, e = .returned (.tuple #[.slice a n cc, .agg #[I c, I k]]) ∧ New w w' ∧ SlAt w' a (l.flatMap tokCells) ∧ n ≤ cc ∧ (cc : Int) ≤ 9223372036854775807 := by
  refine (call_any w s he hs).mono ?_
  rintro e w' ⟨a, cc, rfl, n1, ho⟩
  rw [h] at ho ⊢
  simp only at *
  subst hn
  refine ⟨a, cc, rfl, n1, SlAt.of_owns ho, ?_⟩
  rcases ho.2 with ⟨h0, h1⟩ | ⟨g, cap, cur, hg, hb, _, h3, h4, _⟩
  · obtain ⟨_, e1, e2⟩ := Value.slice.inj h0
    constructor <;> omega
  · cases hg
    exact ⟨h3, by unfold maxLen at h4; omega⟩
/-- What stands ahead of an error's place is read; and what stands ahead of each token. -/
theorem lexA_ahead {s : List UInt8} {l : List LTok} {c : Int} {k : Nat} (h : lexA s = (l, c, k)) (hc : c ≠ 2) :
    (c ≠ 0 → k < s.length ∧ ∃ m, lexA (s.take k) = (m, 0, 0)) ∧ (c = 0 → ∀ (i : Nat) (hi : i < l.length), l[i].at_ ≤ s.length ∧ lexA (s.take l[i].at_) = (l.take i ++ [⟨0, [], 0, l[i].at_⟩], 0, 0)) := by
  rcases lexA_code h with ⟨rfl, rfl, _, hlen, ts, hl, rfl⟩ | ⟨⟨rfl, _⟩ | ⟨hcc, hlen, ts, hl⟩, rfl⟩
  · refine ⟨fun h => absurd rfl h, fun _ i hi => ?_⟩
    have hge := (lexL_ge _ 0 s (Nat.le_refl _)).1
    have hah := (lexL_ahead _ 0 s (Nat.le_refl _)).2
    rw [hl] at hge hah
    simp only [Nat.zero_add, Nat.sub_zero] at hge hah
    by_cases hit : i < ts.length
    · have e : (ts ++ [(⟨0, [], 0, s.length⟩ : LTok)])[i] = ts[i] := List.getElem_append_left hit
      rw [e]
      have h1 := (hge ts[i] (List.getElem_mem hit)).2
      have h2 := hah i ts[i] (List.getElem?_eq_getElem hit)
      refine ⟨by omega, ?_⟩
      have hll : (s.take ts[i].at_).length = ts[i].at_ := by rw [List.length_take]; omega
      unfold lexA
      rw [if_neg (by rw [hll]; omega), h2]
      simp only [hll]
      rw [List.take_append_of_le_length (by omega)]
    · have hi2 : i = ts.length := by rw [List.length_append, List.length_singleton] at hi; omega
      subst hi2
      have e : (ts ++ [(⟨0, [], 0, s.length⟩ : LTok)])[ts.length] = ⟨0, [], 0, s.length⟩ := by simp
      rw [e]
      refine ⟨Nat.le_refl _, ?_⟩
      simp only [List.take_length]
      rw [h, List.take_left]
  · exact absurd rfl hc
  · have hge := (lexL_ge _ 0 s (Nat.le_refl _)).2 c k (by rw [hl])
    have hah := (lexL_ahead _ 0 s (Nat.le_refl _)).1 c k (by rw [hl])
    refine ⟨fun _ => ⟨by omega, ?_⟩, fun h => by omega⟩
    simp only [Nat.sub_zero] at hah
    have hll : (s.take k).length = k := by rw [List.length_take]; omega
    unfold lexA
    rw [if_neg (by rw [hll]; omega), hah]
    exact ⟨_, rfl⟩
end Go.Proofs.YtohalcbhckahmaaDoor
