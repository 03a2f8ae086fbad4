/-
  LexG, LexH, LexI, LexJ: what is wanted of them.
-/
import Derived.Test.YtnedmonlofbahaaGreatDoorLxB
import Derived.Laws.BytesArg
namespace Go.Proofs.YtnedmonlofbahaaGreatDoor
open Go Go.RowKit Go.Joins
set_option linter.all false

theorem toks_at {w : World} {ao : Option Addr} {l : List LTok} (h : SlAt w ao (l.flatMap tokCells)) {i : Nat} (hi : i < l.length) :
    ∃ b off, ao = some ⟨b, off, none⟩ ∧ w.cell? ⟨b, off + i * 4, none⟩ = some (.int .u8 l[i].sort) ∧ w.cell? ⟨b, off + i * 4 + 1, none⟩ = some (.string ⟨l[i].text.toArray⟩) ∧
      w.cell? ⟨b, off + i * 4 + 2, none⟩ = some (I l[i].num) ∧ w.cell? ⟨b, off + i * 4 + 3, none⟩ = some (I l[i].at_) := by
  obtain ⟨b, off, e, hc⟩ := lx_row h (by intro e; rw [e] at hi; simp at hi)
  exact ⟨b, off, e, hc i hi 0 (by omega), hc i hi 1 (by omega), hc i hi 2 (by omega), hc i hi 3 (by omega)⟩
theorem lexL_count : ∀ (n p : Nat) (l : List UInt8), l.length ≤ n → (lexL p l).1.length ≤ l.length := by
  intro n
  induction n with
  | zero =>
    intro p l h
    obtain rfl : l = [] := List.eq_nil_of_length_eq_zero (by omega)
    rw [lexL_nil]; simp
  | succ n ih =>
    intro p l h
    cases l with
    | nil => rw [lexL_nil]; simp
    | cons c r =>
      simp only [List.length_cons] at h ⊢
      cases h1 : isBlk c with
      | true => rw [lexL_blank _ _ _ h1]; have := ih (p + 1) r (by omega); omega
      | false =>
        by_cases h2 : c.toNat = 35
        · rw [lexL_hash _ _ _ h2]
          have := ih (p + 1 + (r.takeWhile notEol).length) (r.drop (r.takeWhile notEol).length) (by rw [List.length_drop]; omega)
          rw [List.length_drop] at this; omega
        · cases ht : tokR (c :: r) with
          | bad e => rw [lexL_bad _ _ _ h1 h2 ht]; simp
          | good s t m k =>
            have hk := tokR_len ht
            simp only [List.length_cons] at hk
            rw [lexL_good _ _ _ h1 h2 ht]
            have := ih (p + k) ((c :: r).drop k) (by rw [List.length_drop, List.length_cons]; omega)
            rw [List.length_drop, List.length_cons] at this
            simp only [List.length_cons]
            omega
theorem lexA_count {l : List UInt8} : (lexA l).1.length ≤ 1048577 ∧ (lexA l).1.length ≤ l.length + 1 := by
  unfold lexA
  split
  · simp
  · have := lexL_count l.length 0 l (Nat.le_refl _)
    split
    · rename_i ts hts
      rw [hts] at this
      simp only [List.length_append, List.length_singleton]
      simp only at this
      omega
    · simp
theorem lexA_at {l : List UInt8} : ∀ t ∈ (lexA l).1, t.at_ ≤ 1048576 ∧ t.at_ ≤ l.length := by
  intro t ht
  unfold lexA at ht
  split at ht
  · simp at ht
  · split at ht
    · rename_i ts hts
      rcases List.mem_append.1 ht with h | h
      · have := (lexL_ge l.length 0 l (Nat.le_refl _)).1 t (by rw [hts]; exact h)
        omega
      · rw [List.mem_singleton.1 h]; simp only; omega
    · simp at ht
def DgSt (n k : Int) (S : ByteArray) : Prop := Lib.decDigits n.natAbs = (if k = 0 then [] else Lib.decDigits k.natAbs) ++ S.data.toList ∧ -9223372036854775808 ≤ k ∧ k ≤ 9223372036854775807
theorem DgSt.size {n k : Int} {S : ByteArray} (h : DgSt n k S) (h0 : -9223372036854775808 ≤ n) (h1 : n ≤ 9223372036854775807) : S.size ≤ 19 := by
  have e := congrArg List.length h.1
  have := decDigits_len_le 19 n.natAbs (by omega) (by omega)
  rw [List.length_append, toList_len] at e
  omega
theorem DgSt.step {n k : Int} {S : ByteArray} (h : DgSt n k S) (hk : k ≠ 0) : DgSt n (k.tdiv 10) ((⟨#[UInt8.ofNat (48 + k.natAbs % 10)]⟩ : ByteArray) ++ S) ∧ (k.tdiv 10).natAbs < k.natAbs := by
  have hq : (k.tdiv 10).natAbs = k.natAbs / 10 := by rw [Int.natAbs_tdiv]; rfl
  refine ⟨⟨?_, ?_⟩, by omega⟩
  · rw [h.1, if_neg hk, ByteArray.data_append, Array.toList_append]
    by_cases hz : k.tdiv 10 = 0
    · rw [if_pos hz]
      have hs : k.natAbs < 10 := by rw [hz] at hq; simp at hq; omega
      rw [Lib.decDigits_one hs, show k.natAbs % 10 = k.natAbs by omega]
      try rfl
    · rw [if_neg hz, hq]
      have hb : ¬ k.natAbs < 10 := by
        intro hlt
        apply hz
        have : (k.tdiv 10).natAbs = 0 := by rw [hq]; omega
        omega
      rw [Lib.decDigits, dif_neg hb, List.append_assoc]
      try rfl
  · have h2 := h.2
    rcases Int.le_total 0 k with hp | hp
    · have e : k.tdiv 10 = k / 10 := Int.tdiv_eq_ediv_of_nonneg hp
      rw [e]; omega
    · have h3 : (k.tdiv 10).natAbs ≤ k.natAbs := by omega
      have h5 : (-k).tdiv 10 = (-k) / 10 := Int.tdiv_eq_ediv_of_nonneg (by omega)
      have h6 : (-k).tdiv 10 = -(k.tdiv 10) := Int.neg_tdiv k 10
      omega
theorem DgSt.done {n : Int} {S : ByteArray} (h : DgSt n 0 S) : S.data.toList = Lib.decDigits n.natAbs := by rw [h.1, if_pos rfl]; rfl

theorem placed_get (L : List UInt8) : ∀ (ts : List LTok) (a i : Nat) (t : LTok), Placed L a ts → ts[i]? = some t →
    (i = 0 → a ≤ t.at_) ∧ (∀ j u, i = j + 1 → ts[j]? = some u → u.at_ + u.spelt.length ≤ t.at_) ∧ t.at_ + t.spelt.length ≤ L.length ∧ (L.drop t.at_).take t.spelt.length = t.spelt ∧ t.sort ≠ 0 ∧ t.right = true ∧
      (-9223372036854775808 ≤ t.num ∧ t.num ≤ 9223372036854775807) := by
  intro ts
  induction ts with
  | nil => intro a i t _ h; simp at h
  | cons x r ih =>
    intro a i t hp h
    obtain ⟨p1, p2, p3, p4, p5, p6, p7⟩ := hp
    cases i with
    | zero =>
      simp only [List.getElem?_cons_zero, Option.some.injEq] at h
      subst h
      exact ⟨fun _ => p1, fun j u hj => by omega, p2, p3, p4, p5, p6⟩
    | succ i =>
      simp only [List.getElem?_cons_succ] at h
      obtain ⟨h1, h2, h3⟩ := ih _ i t p7 h
      refine ⟨fun h => by omega, fun j u hj hu => ?_, h3⟩
      cases j with
      | zero =>
        simp only [List.getElem?_cons_zero, Option.some.injEq] at hu
        subst hu
        exact h1 (by omega)
      | succ j =>
        simp only [List.getElem?_cons_succ] at hu
        exact h2 j u (by omega) hu
def posL (l : List LTok) : Nat → Nat
  | 0 => 0
  | i + 1 => match l[i]? with
    | some t => t.at_ + t.spelt.length
    | none => 0
theorem right_text {t : LTok} (h : t.right = true) : t.text.length ≤ t.spelt.length := by
  unfold LTok.right at h
  split at h
  · rename_i e; unfold LTok.spelt; rw [if_neg (by omega)]; omega
  · split at h
    · rw [decide_eq_true_iff] at h; rw [h]; simp
    · split at h
      · rename_i e; unfold LTok.spelt; rw [if_neg (by omega)]; omega
      · cases h
theorem places_plain {s : List UInt8} {l : List LTok} (h : lexA s = (l, 0, 0)) :
    (∀ (i : Nat) (hi : i < l.length), posL l i ≤ l[i].at_ ∧ l[i].at_ + l[i].spelt.length ≤ s.length ∧ (s.drop l[i].at_).take l[i].spelt.length = l[i].spelt ∧
      ((i + 1 = l.length ∧ l[i].sort = 0) ∨ (i + 1 ≠ l.length ∧ l[i].sort ≠ 0 ∧ l[i].right = true)) ∧ (-9223372036854775808 ≤ l[i].num ∧ l[i].num ≤ 9223372036854775807) ∧ l[i].text.length ≤ s.length) ∧ posL l l.length = s.length ∧ 0 < l.length := by
  rcases lexA_code h with ⟨_, _, _, hlen, ts, hl, rfl⟩ | ⟨⟨h2, _⟩ | ⟨h2, _⟩, _⟩
  · have hp := lexL_placed s s.length 0 s (Nat.le_refl _) rfl (Nat.zero_le _)
    rw [hl] at hp
    simp only at hp
    have hpos : ∀ i, i ≤ ts.length → posL (ts ++ [⟨0, [], 0, s.length⟩]) i ≤ s.length := by
      intro i hi
      cases i with
      | zero => exact Nat.zero_le _
      | succ i =>
        have e : (ts ++ [(⟨0, [], 0, s.length⟩ : LTok)])[i]? = some ts[i] := by rw [List.getElem?_append_left (by omega)]; exact List.getElem?_eq_getElem (by omega)
        have := (placed_get s ts 0 i ts[i] hp (List.getElem?_eq_getElem (by omega))).2.2.1
        show (match (ts ++ [(⟨0, [], 0, s.length⟩ : LTok)])[i]? with | some t => t.at_ + t.spelt.length | none => 0) ≤ _
        rw [e]; exact this
    refine ⟨fun i hi => ?_, ?_, by simp⟩
    · by_cases hit : i < ts.length
      · have e : (ts ++ [(⟨0, [], 0, s.length⟩ : LTok)])[i] = ts[i] := List.getElem_append_left hit
        obtain ⟨g1, g2, g3, g4, g5, g6, g7⟩ := placed_get s ts 0 i ts[i] hp (List.getElem?_eq_getElem hit)
        rw [e]
        refine ⟨?_, g3, g4, Or.inr ⟨by rw [List.length_append, List.length_singleton]; omega, g5, g6⟩, g7, ?_⟩
        · cases i with
          | zero => exact Nat.zero_le _
          | succ i =>
            have e : (ts ++ [(⟨0, [], 0, s.length⟩ : LTok)])[i]? = some ts[i] := by rw [List.getElem?_append_left (by omega)]; exact List.getElem?_eq_getElem (by omega)
            show (match (ts ++ [(⟨0, [], 0, s.length⟩ : LTok)])[i]? with | some t => t.at_ + t.spelt.length | none => 0) ≤ _
            rw [e]
            exact g2 i ts[i] rfl (List.getElem?_eq_getElem (by omega))
        · have := right_text g6; omega
      · have hi2 : i = ts.length := by rw [List.length_append, List.length_singleton] at hi; omega
        subst hi2
        have e : (ts ++ [(⟨0, [], 0, s.length⟩ : LTok)])[ts.length] = ⟨0, [], 0, s.length⟩ := by simp
        rw [e]
        have hz : (LTok.mk 0 [] 0 s.length).spelt = [] := rfl
        rw [hz]
        exact ⟨hpos _ (Nat.le_refl _), by simp, by simp, Or.inl ⟨by simp, rfl⟩, ⟨by show (-9223372036854775808 : Int) ≤ 0; omega, by show (0 : Int) ≤ _; omega⟩, by simp⟩
    · rw [List.length_append, List.length_singleton]
      show (match (ts ++ [(⟨0, [], 0, s.length⟩ : LTok)])[ts.length]? with | some t => t.at_ + t.spelt.length | none => 0) = _
      have e : (ts ++ [(⟨0, [], 0, s.length⟩ : LTok)])[ts.length]? = some ⟨0, [], 0, s.length⟩ := by simp
      rw [e]
      rfl
  · cases h2
  · omega
end Go.Proofs.YtnedmonlofbahaaGreatDoor
