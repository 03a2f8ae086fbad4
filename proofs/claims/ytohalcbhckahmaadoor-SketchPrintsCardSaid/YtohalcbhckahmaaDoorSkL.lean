/-
  Layer 5, plain: the same tokens with one blank between each two.
-/
import Derived.Test.YtohalcbhckahmaaDoorSkY
namespace Go.Proofs.YtohalcbhckahmaaDoor
open Go
set_option linter.all false

/-- The first tokens' text, one blank between each two (the last token is none). -/
def looseU (l : List LTok) : Nat → List UInt8
  | 0 => []
  | i + 1 => looseU l i ++ (l[i]?.map LTok.spelt).getD [] ++ (if i + 2 < l.length then [32] else [])
theorem looseU_succ {l : List LTok} {i : Nat} {t : LTok} (h : l[i]? = some t) : looseU l (i + 1) = looseU l i ++ t.spelt ++ (if i + 2 < l.length then [32] else []) := by
  show looseU l i ++ (l[i]?.map LTok.spelt).getD [] ++ _ = _
  rw [h]; rfl
/-- Each token but the last is right; the last is no text. -/
structure TGood (l : List LTok) : Prop where
  ne : 0 < l.length
  rt : ∀ (i : Nat) (t : LTok), l[i]? = some t → i + 1 < l.length → t.right = true ∧ t.sort ≠ 0
  nm : ∀ (i : Nat) (t : LTok), l[i]? = some t → -9223372036854775808 ≤ t.num ∧ t.num ≤ 9223372036854775807
  en : ∀ (i : Nat) (t : LTok), l[i]? = some t → i + 1 = l.length → t.sort = 0 ∧ t.spelt = [] ∧ t.text = [] ∧ t.num = 0
theorem good_of {s : List UInt8} {l : List LTok} (h : lexA s = (l, 0, 0)) : TGood l := by
  obtain ⟨h1, _, h3⟩ := places_plain h
  refine ⟨h3, fun i t ht hi => ?_, fun i t ht => ?_, fun i t ht hi => ?_⟩
  · obtain ⟨hj, rfl⟩ := List.getElem?_eq_some_iff.1 ht
    obtain ⟨_, _, _, h4, _⟩ := h1 i hj
    rcases h4 with ⟨e, _⟩ | ⟨_, e1, e2⟩
    · omega
    · exact ⟨e2, e1⟩
  · obtain ⟨hj, rfl⟩ := List.getElem?_eq_some_iff.1 ht
    exact (h1 i hj).2.2.2.2.1
  · rcases lexA_code h with ⟨_, _, _, hlen, ts, hl, rfl⟩ | ⟨⟨e, _⟩ | ⟨e, _⟩, _⟩
    · rw [List.length_append, List.length_singleton] at hi
      obtain rfl : i = ts.length := by omega
      rw [List.getElem?_append_right (Nat.le_refl _), Nat.sub_self] at ht
      cases ht
      exact ⟨rfl, rfl, rfl, rfl⟩
    · cases e
    · omega
theorem TGood.len {l : List LTok} (h : TGood l) {i : Nat} {t : LTok} (ht : l[i]? = some t) : t.spelt.length ≤ 21 := by
  have hi := (List.getElem?_eq_some_iff.1 ht).1
  rcases Nat.lt_or_ge (i + 1) l.length with h1 | h1
  · exact (right_len1 (h.rt i t ht h1).1 (h.nm i t ht)).1
  · rw [(h.en i t ht (by omega)).2.1]; simp
theorem loose_len {l : List LTok} (h : TGood l) : ∀ i, i ≤ l.length → (looseU l i).length ≤ 22 * i := by
  intro i
  induction i with
  | zero => intro _; simp [looseU]
  | succ i ih =>
    intro hi
    have hl : i < l.length := by omega
    have ht := List.getElem?_eq_getElem hl
    rw [looseU_succ ht]
    have h1 := h.len ht
    have h2 := ih (by omega)
    have h3 : (if i + 2 < l.length then ([32] : List UInt8) else []).length ≤ 1 := by split <;> simp
    simp only [List.length_append]
    omega
/-- How far the text has come: these bytes are read as these tokens, whatever follows. -/
def LooseSt (Bs : List UInt8) (Ws : List LTok) : Prop := ∀ rest, lexL 0 (Bs ++ rest) = (Ws ++ (lexL Bs.length rest).1, (lexL Bs.length rest).2)
theorem LooseSt.step {Bs : List UInt8} {Ws : List LTok} (h : LooseSt Bs Ws) (t : LTok) (hr : t.right = true) (hn : -9223372036854775808 ≤ t.num ∧ t.num ≤ 9223372036854775807) :
    LooseSt (Bs ++ t.spelt ++ [32]) (Ws ++ [{ t with at_ := Bs.length }]) := by
  intro rest
  have h1 := h (t.spelt ++ gapU 0 ++ rest)
  rw [lexL_back t hr hn 0 Bs.length rest] at h1
  have e : gapU 0 = [32] := rfl
  rw [e] at h1
  rw [List.append_assoc, List.append_assoc, ← List.append_assoc t.spelt, h1]
  simp only [List.length_append, List.append_assoc, List.singleton_append, Nat.add_assoc]
def MvTo (l : List LTok) (n : Nat) (Ws : List LTok) : Prop := Ws.length = n ∧ ∀ k t, k < n → l[k]? = some t → Ws[k]? = some { t with at_ := (looseU l k).length }
theorem MvTo.snoc {l : List LTok} {n : Nat} {Ws : List LTok} (h : MvTo l n Ws) {t : LTok} (ht : l[n]? = some t) : MvTo l (n + 1) (Ws ++ [{ t with at_ := (looseU l n).length }]) := by
  obtain ⟨h1, h2⟩ := h
  refine ⟨by simp [h1], fun k u hk hu => ?_⟩
  rcases Nat.lt_or_ge k n with h | h
  · rw [List.getElem?_append_left (by omega)]; exact h2 k u h hu
  · obtain rfl : k = n := by omega
    rw [ht] at hu; cases hu
    rw [List.getElem?_append_right (by omega), h1, Nat.sub_self]; rfl
theorem loose_st {l : List LTok} (h : TGood l) : ∀ i, i + 1 < l.length → ∃ Ws, LooseSt (looseU l i) Ws ∧ MvTo l i Ws := by
  intro i
  induction i with
  | zero => intro _; exact ⟨[], fun rest => rfl, rfl, fun k t hk => by omega⟩
  | succ i ih =>
    intro hi
    obtain ⟨Ws, h1, h2⟩ := ih (by omega)
    have hl : i < l.length := by omega
    have ht := List.getElem?_eq_getElem hl
    refine ⟨_, ?_, h2.snoc ht⟩
    rw [looseU_succ ht, if_pos (by omega)]
    exact h1.step _ (h.rt i _ ht (by omega)).1 (h.nm i _ ht)
theorem loose_lex {l : List LTok} (h : TGood l) (hl : (looseU l l.length).length ≤ 1048576) : ∃ m, lexA (looseU l l.length) = (m, 0, 0) ∧ MvTo l l.length m := by
  have hne := h.ne
  obtain ⟨p, hp⟩ : ∃ p, l.length = p + 1 := ⟨l.length - 1, by omega⟩
  have hte := List.getElem?_eq_getElem (l := l) (i := p) (by omega)
  obtain ⟨e0, e1, e2, e3⟩ := h.en p _ hte (by omega)
  have hlast : looseU l l.length = looseU l p := by
    rw [hp, looseU_succ hte, e1, if_neg (by omega)]; simp
  have hkey : ∃ Ws, lexL 0 (looseU l p) = (Ws, none) ∧ MvTo l p Ws := by
    cases p with
    | zero => exact ⟨[], rfl, rfl, fun k t hk => by omega⟩
    | succ i =>
      obtain ⟨Ws, h1, h2⟩ := loose_st h i (by omega)
      have ht := List.getElem?_eq_getElem (l := l) (i := i) (by omega)
      refine ⟨_, ?_, h2.snoc ht⟩
      rw [looseU_succ ht, if_neg (by omega), List.append_nil]
      have h3 := (h1.step _ (h.rt i _ ht (by omega)).1 (h.nm i _ ht)) []
      rw [List.append_nil, lexL_nil, List.append_nil] at h3
      have hg : (Ws ++ [{ l[i] with at_ := (looseU l i).length }])[i]? = some { l[i] with at_ := (looseU l i).length } := by
        rw [List.getElem?_append_right (by rw [h2.1]; omega), h2.1, Nat.sub_self]; rfl
      have h4 := lexL_upto _ 0 (looseU l i ++ l[i].spelt ++ [32]) (Nat.le_refl _) i { l[i] with at_ := (looseU l i).length } (by rw [h3]; exact hg)
      rw [h3] at h4
      simp only [Nat.sub_zero] at h4
      have e : ({ l[i] with at_ := (looseU l i).length } : LTok).spelt = l[i].spelt := rfl
      rw [e, ← List.length_append, List.take_left' rfl] at h4
      rw [h4, List.take_of_length_le (by rw [List.length_append, h2.1]; simp)]
  obtain ⟨Ws, h1, h2⟩ := hkey
  have h3 := h2.snoc hte
  rw [← hp] at h3
  refine ⟨_, ?_, h3⟩
  rw [hlast] at hl ⊢
  unfold lexA
  rw [if_neg (by omega), h1]
  have e : (⟨0, [], 0, (looseU l p).length⟩ : LTok) = { l[p] with at_ := (looseU l p).length } := by
    simp only [e0, e2, e3]
  simp only
  rw [e]
theorem MvTo.agree {l m : List LTok} (h : MvTo l l.length m) {j : Nat} (hj : j < l.length) : Agree j l m := by
  have hk : ∀ i, i < l.length → ∃ t u, l[i]? = some t ∧ m[i]? = some u ∧ t.like u := fun i hi => by
    have ht := List.getElem?_eq_getElem hi
    exact ⟨_, _, ht, h.2 i _ hi ht, rfl, rfl, rfl⟩
  refine ⟨fun i hi => hk i (by omega), ?_⟩
  obtain ⟨t, u, h1, h2, h3⟩ := hk j hj
  exact ⟨u, h2, .inr ⟨t, h1, h3⟩⟩
theorem parseP_end {l : List LTok} {x : LSk} {k : Nat} (h : parseP l = .good x k) : ∃ j, k = j + 1 ∧ j < l.length := by
  rw [parseP_head] at h
  obtain ⟨y, k1, h1, h⟩ := PR.bind_inv h
  obtain ⟨t, k2, h2, h⟩ := PR.bind_inv h
  cases h
  obtain ⟨h3, _, rfl⟩ := takeP_inv h2
  exact ⟨k1, rfl, (List.getElem?_eq_some_iff.1 h3).1⟩
/-- The law: read as the same, or refused at the same token. -/
theorem loose_law {s : List UInt8} {l : List LTok} (hA : lexA s = (l, 0, 0)) (hl : (looseU l l.length).length ≤ 1048576) :
    (∀ x, parseA s = .ok x → ∃ y, parseA (looseU l l.length) = .ok y ∧ x.bare = y.bare) ∧
    (∀ c k, parseA s = .error (c, k) → c = 50 ∧ ∃ j t, l[j]? = some t ∧ t.at_ = k ∧ parseA (looseU l l.length) = .error (50, (looseU l j).length)) := by
  obtain ⟨m, hm, hM⟩ := loose_lex (good_of hA) hl
  refine ⟨fun x hx => ?_, fun c k hk => ?_⟩
  · unfold parseA at hx
    rw [hA] at hx
    simp only at hx
    rw [if_neg (by simp)] at hx
    split at hx
    · rename_i z k hp
      cases hx
      obtain ⟨j, rfl, hj⟩ := parseP_end hp
      obtain ⟨y, h1, h2⟩ := (hM.agree hj).parse_good hp
      refine ⟨y, ?_, h2⟩
      unfold parseA
      rw [hm]
      simp only
      rw [if_neg (by simp), h1]
    · cases hx
  · have hc : c = 50 := by
      unfold parseA at hk
      rw [hA] at hk
      simp only at hk
      rw [if_neg (by simp)] at hk
      split at hk
      · cases hk
      · cases hk; rfl
    subst hc
    obtain ⟨l', j, t, hA', hp, ht, hat⟩ := parse_err hk
    rw [hA] at hA'
    cases hA'
    refine ⟨rfl, j, t, ht, hat, ?_⟩
    have hj := (List.getElem?_eq_some_iff.1 ht).1
    have hu := hM.2 j t hj ht
    rcases (hM.agree hj).parse_bad (lexA_ends hA) hp (Nat.le_refl _) with hb | ⟨_, _, _, _, u, hu1, hu2, hu3⟩
    · exact parse_of_bad hm hb hu
    · rw [hu] at hu1
      cases hu1
      exact absurd hu2 (hu3 t ht)
end Go.Proofs.YtohalcbhckahmaaDoor
