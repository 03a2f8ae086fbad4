/-
  Layer 5, plain: what reading looks at: nothing behind the wrong token, and no place.
-/
import Derived.Test.YtohalcbhckahmaaDoorSkP
namespace Go.Proofs.YtohalcbhckahmaaDoor
open Go
set_option linter.all false

def LTok.bare0 (t : LTok) : LTok := ⟨t.sort, t.text, t.num, 0⟩
def LTok.like (t u : LTok) : Prop := t.sort = u.sort ∧ t.text = u.text ∧ t.num = u.num
theorem like_bare0 {t u : LTok} : t.like u ↔ t.bare0 = u.bare0 := by unfold LTok.like LTok.bare0; simp
/-- Two lists that are alike ahead of j; at j too, or the other ends there. -/
def Agree (j : Nat) (l m : List LTok) : Prop := (∀ i, i < j → ∃ t u, l[i]? = some t ∧ m[i]? = some u ∧ t.like u) ∧ ∃ u, m[j]? = some u ∧ (u.sort = 0 ∨ ∃ t, l[j]? = some t ∧ t.like u)
def Det {α : Type} (R : α → α → Prop) (p q : PR α) (k j : Nat) : Prop := match p with
  | .bad i => k ≤ i ∧ (i ≤ j → q = .bad i)
  | .good x i => k ≤ i ∧ (i ≤ j → ∃ y, q = .good y i ∧ R x y)
theorem Det.bind {α β : Type} {R : α → α → Prop} {S : β → β → Prop} {p q : PR α} {f g : α → Nat → PR β} {k j : Nat} (h : Det R p q k j) (hf : ∀ x y i, k ≤ i → (i ≤ j → R x y) → Det S (f x i) (g y i) i j) : Det S (p.bind f) (q.bind g) k j := by
  cases p with
  | bad i => exact ⟨h.1, fun hi => by rw [h.2 hi]; rfl⟩
  | good x i =>
    obtain ⟨h1, h2⟩ := h
    show Det S (f x i) (q.bind g) k j
    by_cases hi : i ≤ j
    · obtain ⟨y, rfl, hr⟩ := h2 hi
      have h3 := hf x y i h1 (fun _ => hr)
      show Det S (f x i) (g y i) k j
      generalize f x i = r at h3 ⊢
      cases r with
      | bad a => exact ⟨Nat.le_trans h1 h3.1, h3.2⟩
      | good z a => exact ⟨Nat.le_trans h1 h3.1, h3.2⟩
    · have h3 := hf x x i h1 (fun h => absurd h hi)
      generalize f x i = r at h3 ⊢
      cases r with
      | bad a => exact ⟨Nat.le_trans h1 h3.1, fun ha => by have := h3.1; omega⟩
      | good z a => exact ⟨Nat.le_trans h1 h3.1, fun ha => by have := h3.1; omega⟩
theorem Det.good {α : Type} {R : α → α → Prop} {x y : α} {k j : Nat} (h : k ≤ j → R x y) : Det R (.good x k) (.good y k) k j := ⟨Nat.le_refl _, fun hk => ⟨y, rfl, h hk⟩⟩
theorem Det.far {α : Type} {R : α → α → Prop} {p q q' : PR α} {k i j : Nat} (h : Det R p q i j) (hi : j < i) (hk : k ≤ i) : Det R p q' k j := by
  cases p with
  | bad a => exact ⟨Nat.le_trans hk h.1, fun ha => by have := h.1; omega⟩
  | good x a => exact ⟨Nat.le_trans hk h.1, fun ha => by have := h.1; omega⟩
section
variable {l m : List LTok} {j : Nat}
theorem Agree.take (h : Agree j l m) {so : Int} (hs : so ≠ 0) (k : Nat) : Det LTok.like (takeP so l k) (takeP so m k) k j := by
  rcases Nat.lt_trichotomy k j with hk | rfl | hk
  · obtain ⟨t, u, h1, h2, h3⟩ := h.1 k hk
    rw [takeP_some h1, takeP_some h2, ← h3.1]
    split
    · exact ⟨Nat.le_succ _, fun _ => ⟨u, rfl, h3⟩⟩
    · exact ⟨Nat.le_refl _, fun _ => rfl⟩
  · obtain ⟨u, h2, h3⟩ := h.2
    rw [takeP_some h2]
    unfold takeP
    split
    · rename_i t ht
      split
      · exact ⟨Nat.le_succ _, fun h => absurd h (by omega)⟩
      · rename_i hts
        refine ⟨Nat.le_refl _, fun _ => if_neg ?_⟩
        rcases h3 with h3 | ⟨t', h1, h3⟩
        · omega
        · rw [ht] at h1; cases h1; rw [← h3.1]; exact hts
    · rename_i hn
      refine ⟨Nat.le_refl _, fun _ => if_neg ?_⟩
      rcases h3 with h3 | ⟨t', h1, h3⟩
      · omega
      · rw [hn] at h1; cases h1
  · unfold takeP
    split
    · split
      · exact ⟨Nat.le_succ _, fun h => absurd h (by omega)⟩
      · exact ⟨Nat.le_refl _, fun h => absurd h (by omega)⟩
    · exact ⟨Nat.le_refl _, fun h => absurd h (by omega)⟩
theorem Agree.look (h : Agree j l m) {so : Int} (hs : so ≠ 0) (b : List UInt8) {k : Nat} (hk : k ≤ j) : lookP so b l k = lookP so b m k ∨ k = j ∧ lookP so b l k = true := by
  rcases Nat.lt_or_ge k j with hk | hk
  · obtain ⟨t, u, h1, h2, h3⟩ := h.1 k hk
    left
    rw [lookP_some h1, lookP_some h2, h3.1, h3.2.1]
  · obtain rfl : k = j := by omega
    obtain ⟨u, h2, h3⟩ := h.2
    cases e : lookP so b l k with
    | true => exact .inr ⟨rfl, rfl⟩
    | false =>
      left
      rw [lookP_some h2]
      rcases h3 with h3 | ⟨t', h1, h3⟩
      · exact (decide_eq_false (by omega)).symm
      · rw [lookP_some h1, h3.1, h3.2.1] at e
        exact e.symm
theorem Agree.must (h : Agree j l m) {so : Int} (hs : so ≠ 0) (b : List UInt8) (k : Nat) : Det (fun _ _ => True) (mustP so b l k) (mustP so b m k) k j := by
  unfold mustP
  by_cases hk : k ≤ j
  · rcases h.look hs b hk with e | ⟨rfl, e⟩
    · rw [e]
      split
      · exact ⟨Nat.le_succ _, fun _ => ⟨(), rfl, trivial⟩⟩
      · exact ⟨Nat.le_refl _, fun _ => rfl⟩
    · rw [if_pos e]
      exact ⟨Nat.le_succ _, fun h => absurd h (by omega)⟩
  · split
    · exact ⟨Nat.le_succ _, fun h => absurd h (by omega)⟩
    · exact ⟨Nat.le_refl _, fun h => absurd h (by omega)⟩
theorem Agree.num (h : Agree j l m) : ∀ (n k : Nat), (numsL l k).length = n → k + n ≤ j → numsL m k = numsL l k := by
  intro n
  induction n with
  | zero =>
    intro k hn hk
    have e : numsL l k = [] := List.eq_nil_of_length_eq_zero hn
    rw [e]
    have hu : ∃ u, m[k]? = some u ∧ u.sort ≠ 2 := by
      rcases Nat.lt_or_ge k j with hk | hk
      · obtain ⟨t, u, h1, h2, h3⟩ := h.1 k hk
        refine ⟨u, h2, fun hu => ?_⟩
        rw [numsL_some h1, if_pos (by rw [h3.1]; exact hu)] at e; cases e
      · obtain rfl : k = j := by omega
        obtain ⟨u, h2, h3⟩ := h.2
        refine ⟨u, h2, fun hu => ?_⟩
        rcases h3 with h3 | ⟨t', h1, h3⟩
        · omega
        · rw [numsL_some h1, if_pos (by rw [h3.1]; exact hu)] at e; cases e
    obtain ⟨u, h2, hu⟩ := hu
    rw [numsL_some h2, if_neg hu]
  | succ n ih =>
    intro k hn hk
    obtain ⟨t, u, h1, h2, h3⟩ := h.1 k (by omega)
    rw [numsL_some h1] at hn ⊢
    by_cases hs : t.sort = 2
    · rw [if_pos hs] at hn ⊢
      rw [numsL_some h2, if_pos (by rw [← h3.1]; exact hs), h3.2.2, ih (k + 1) (by simpa using hn) (by omega)]
    · rw [if_neg hs] at hn; cases hn
theorem Agree.nums (h : Agree j l m) (k : Nat) : Det Eq (numsP l k) (numsP m k) k j := by
  unfold numsP
  refine ⟨by omega, fun hi => ?_⟩
  rw [h.num _ k rfl hi]
  exact ⟨_, rfl, rfl⟩
def LPl.bare (p : LPl) : LPl := ⟨p.name, p.port, 0⟩
def LIt.bare (x : LIt) : LIt := ⟨x.kind, x.name, x.tag, x.xs, x.fr.bare, x.to.bare, 0⟩
def LSk.bare (s : LSk) : LSk := ⟨s.name, s.items.map LIt.bare⟩
abbrev PlLike (p q : LPl) : Prop := p.bare = q.bare
abbrev ItLike (x y : LIt) : Prop := x.bare = y.bare
theorem Agree.place (h : Agree j l m) (k : Nat) : Det PlLike (placeP l k) (placeP m k) k j := by
  unfold placeP
  refine (h.take (by decide) k).bind fun t u i _ ht => (h.must (by decide) _ i).bind fun _ _ i2 h2 _ => (h.take (by decide) i2).bind fun n n' i3 h3 hn => Det.good fun hj => ?_
  have a := ht (by omega)
  have b := hn hj
  unfold PlLike LPl.bare
  rw [a.2.1, b.2.2]
theorem Agree.withs (h : Agree j l m) (k : Nat) : Det Eq (withP l k) (withP m k) k j := by
  have hb : ∀ k, Det Eq ((takeP 2 l k).bind fun n k1 => (numsP l k1).bind fun xs k2 => .good (n.num :: xs) k2) ((takeP 2 m k).bind fun n k1 => (numsP m k1).bind fun xs k2 => .good (n.num :: xs) k2) k j := fun k =>
    (h.take (by decide) k).bind fun t u i _ ht => (h.nums i).bind fun xs ys i2 h2 hx => Det.good fun hj => by rw [(ht (by omega)).2.2, hx hj]
  unfold withP
  by_cases hk : k ≤ j
  · rcases h.look (so := 1) (by decide) withW hk with e | ⟨rfl, e⟩
    · rw [e]
      split
      · have := hb (k + 1)
        generalize ((takeP 2 l (k + 1)).bind fun n k1 => (numsP l k1).bind fun xs k2 => PR.good (n.num :: xs) k2) = r at this ⊢
        cases r with
        | bad a => exact ⟨by have := this.1; omega, this.2⟩
        | good z a => exact ⟨by have := this.1; omega, this.2⟩
      · exact Det.good fun _ => rfl
    · rw [if_pos e]
      exact (hb (k + 1)).far (by omega) (by omega)
  · split
    · exact (hb (k + 1)).far (by omega) (by omega)
    · exact (Det.good (R := Eq) fun _ => rfl : Det Eq (PR.good ([] : List Int) k) (.good [] k) k j).far (by omega) (Nat.le_refl _)
theorem Det.up {α : Type} {R : α → α → Prop} {p q : PR α} {k i j : Nat} (h : Det R p q i j) (hk : k ≤ i) : Det R p q k j := by
  cases p with
  | bad a => exact ⟨Nat.le_trans hk h.1, h.2⟩
  | good x a => exact ⟨Nat.le_trans hk h.1, h.2⟩
theorem Agree.actor (h : Agree j l m) (a b k : Nat) : Det ItLike (actorP a l k) (actorP b m k) k j := by
  unfold actorP
  refine (h.take (by decide) k).bind fun t u i _ ht => (h.must (by decide) _ i).bind fun _ _ i2 h2 _ => (h.take (by decide) i2).bind fun n n' i3 h3 hn => (h.nums i3).bind fun xs ys i4 h4 hx => Det.good fun hj => ?_
  unfold ItLike LIt.bare
  simp only [(ht (by omega)).2.1, (hn (by omega)).2.1, hx hj]
theorem Agree.edge (h : Agree j l m) (a b k : Nat) : Det ItLike (edgeP a l k) (edgeP b m k) k j := by
  unfold edgeP
  refine (h.place k).bind fun t u i _ ht => (h.must (by decide) _ i).bind fun _ _ i2 h2 _ => (h.place i2).bind fun n n' i3 h3 hn => (h.withs i3).bind fun xs ys i4 h4 hx => Det.good fun hj => ?_
  have e1 : t.bare = u.bare := ht (by omega)
  have e2 : n.bare = n'.bare := hn (by omega)
  unfold ItLike LIt.bare
  simp only [e1, e2, hx hj]
theorem Agree.inn (h : Agree j l m) (a b k : Nat) : Det ItLike (inP a l k) (inP b m k) k j := by
  unfold inP
  refine (h.take (by decide) k).bind fun t u i _ ht => (h.must (by decide) _ i).bind fun _ _ i2 h2 _ => (h.place i2).bind fun n n' i3 h3 hn => Det.good fun hj => ?_
  have e2 : n.bare = n'.bare := hn (by omega)
  unfold ItLike LIt.bare
  simp only [(ht (by omega)).2.1, e2]
theorem Agree.out (h : Agree j l m) (a b k : Nat) : Det ItLike (outP a l k) (outP b m k) k j := by
  unfold outP
  refine (h.place k).bind fun t u i _ ht => (h.must (by decide) _ i).bind fun _ _ i2 h2 _ => (h.take (by decide) i2).bind fun n n' i3 h3 hn => Det.good fun hj => ?_
  have e2 : t.bare = u.bare := ht (by omega)
  unfold ItLike LIt.bare
  simp only [(hn (by omega)).2.1, e2]
theorem Agree.body (h : Agree j l m) (k : Nat) : Det ItLike (bodyP l k) (bodyP m k) k j := by
  have hfar : j ≤ k → Det ItLike (bodyP l k) (bodyP m k) k j ∨ ∀ q, j < k + 1 → Det ItLike (bodyP l k) q k j := by
    intro hk
    unfold bodyP
    split
    · rename_i hn
      left
      refine ⟨Nat.le_refl _, fun hj => ?_⟩
      obtain rfl : k = j := by omega
      obtain ⟨u, h2, h3⟩ := h.2
      rcases h3 with h3 | ⟨t', h1, h3⟩
      · rw [h2]
        simp only
        rw [if_neg (by omega), if_neg (by omega), if_neg (by omega), if_neg (by omega)]
      · rw [hn] at h1; cases h1
    · rename_i t ht
      split
      · right; exact fun q hq => (h.actor t.at_ t.at_ (k + 1)).far (by omega) (by omega)
      · split
        · right; exact fun q hq => (h.edge t.at_ t.at_ (k + 1)).far (by omega) (by omega)
        · split
          · right; exact fun q hq => (h.inn t.at_ t.at_ (k + 1)).far (by omega) (by omega)
          · split
            · right; exact fun q hq => (h.out t.at_ t.at_ (k + 1)).far (by omega) (by omega)
            · rename_i n1 n2 n3 n4
              left
              refine ⟨Nat.le_refl _, fun hj => ?_⟩
              obtain rfl : k = j := by omega
              obtain ⟨u, h2, h3⟩ := h.2
              rw [h2]
              simp only
              rcases h3 with h3 | ⟨t', h1, h3⟩
              · rw [if_neg (by omega), if_neg (by omega), if_neg (by omega), if_neg (by omega)]
              · rw [ht] at h1; cases h1
                rw [← h3.1, ← h3.2.1, if_neg n1, if_neg n2, if_neg n3, if_neg n4]
  rcases Nat.lt_or_ge k j with hk | hk
  · obtain ⟨t, u, h1, h2, h3⟩ := h.1 k hk
    unfold bodyP
    rw [h1, h2]
    simp only
    rw [← h3.1, ← h3.2.1]
    split
    · exact (h.actor _ _ (k + 1)).up (by omega)
    · split
      · exact (h.edge _ _ (k + 1)).up (by omega)
      · split
        · exact (h.inn _ _ (k + 1)).up (by omega)
        · split
          · exact (h.out _ _ (k + 1)).up (by omega)
          · exact ⟨Nat.le_refl _, fun _ => rfl⟩
  · rcases hfar hk with h1 | h1
    · exact h1
    · exact h1 _ (by omega)
theorem Agree.item (h : Agree j l m) (k : Nat) : Det ItLike (itemP l k) (itemP m k) k j := by
  unfold itemP
  exact (h.body k).bind fun t u i _ ht => (h.must (by decide) _ i).bind fun _ _ i2 h2 _ => Det.good fun hj => ht (by omega)
theorem body_lt {l : List LTok} {k i : Nat} {x : LIt} (h : itemP l k = .good x i) : k < i := by
  have hA : ∀ {so : Int} {k m : Nat} {t : LTok}, takeP so l k = .good t m → k < m := fun h => by obtain ⟨_, _, rfl⟩ := takeP_inv h; omega
  unfold itemP at h
  obtain ⟨y, k1, h1, h⟩ := PR.bind_inv h
  obtain ⟨_, k2, h2, h⟩ := PR.bind_inv h
  cases h
  obtain ⟨_, _, _, _, rfl⟩ := mustP_inv h2
  -- the body goes no way back
  have hd : ∀ j, Agree j l l → k ≤ k1 := fun j hj => by have := hj.body k; rw [h1] at this; exact this.1
  unfold bodyP at h1
  split at h1
  · cases h1
  · rename_i t ht
    have hk : k < l.length := (List.getElem?_eq_some_iff.1 ht).1
    have := hd k ⟨fun i hi => ⟨l[i], l[i], List.getElem?_eq_getElem (by omega), List.getElem?_eq_getElem (by omega), rfl, rfl, rfl⟩, t, ht, .inr ⟨t, ht, rfl, rfl, rfl⟩⟩
    omega
def blockP (f : Nat) (l : List LTok) (k : Nat) : PR (List LIt) := (itemsP f l k).bind fun xs k1 => (mustP 3 [125] l k1).bind fun _ k2 => .good xs k2
theorem blockP_zero (l : List LTok) (k : Nat) : blockP 0 l k = .bad k := rfl
theorem blockP_succ (f : Nat) (l : List LTok) (k : Nat) : blockP (f + 1) l k = if lookP 3 [125] l k = true then .good [] (k + 1) else (itemP l k).bind fun x k1 => (blockP f l k1).bind fun xs k2 => .good (x :: xs) k2 := by
  unfold blockP
  rw [itemsP]
  split
  · rename_i e; simp [mustP, e]
  · simp only [PR.bind_assoc, PR.bind_good]
abbrev ItsLike (x y : List LIt) : Prop := x.map LIt.bare = y.map LIt.bare
def PR.from {α : Type} (k : Nat) : PR α → Prop
  | .bad i => k ≤ i
  | .good _ i => k ≤ i
theorem Agree.mono0 (f : Nat) (k : Nat) (l : List LTok) : (blockP f l k).from k := by
  induction f generalizing k with
  | zero => rw [blockP_zero]; exact Nat.le_refl k
  | succ f ih =>
    rw [blockP_succ]
    by_cases e : lookP 3 [125] l k = true
    · rw [if_pos e]; exact Nat.le_succ k
    · rw [if_neg e]
      cases hi : itemP l k with
      | bad i =>
        show k ≤ i
        by_cases hk : k < l.length
        · have ha : Agree k l l := ⟨fun i hi => ⟨l[i], l[i], List.getElem?_eq_getElem (by omega), List.getElem?_eq_getElem (by omega), rfl, rfl, rfl⟩, l[k], List.getElem?_eq_getElem hk, .inr ⟨l[k], List.getElem?_eq_getElem hk, rfl, rfl, rfl⟩⟩
          have := ha.item k
          rw [hi] at this; exact this.1
        · unfold itemP bodyP at hi
          rw [List.getElem?_eq_none (by omega)] at hi
          cases hi; exact Nat.le_refl _
      | good x i =>
        have h1 := body_lt hi
        have h2 := ih i
        simp only [PR.bind_good]
        generalize blockP f l i = r at h2 ⊢
        cases r with
        | bad a => exact Nat.le_trans (Nat.le_of_lt h1) h2
        | good y a => exact Nat.le_trans (Nat.le_of_lt h1) h2
theorem Agree.block (h : Agree j l m) : ∀ (f g k : Nat), l.length ≤ k + f → m.length ≤ k + g → Det ItsLike (blockP f l k) (blockP g m k) k j := by
  intro f
  induction f with
  | zero =>
    intro g k hf hg
    rw [blockP_zero]
    refine ⟨Nat.le_refl _, fun hk => ?_⟩
    have hj : j ≤ l.length := by
      rcases Nat.eq_zero_or_pos j with h0 | h0
      · omega
      · obtain ⟨t, u, h1, _⟩ := h.1 (j - 1) (by omega)
        have := (List.getElem?_eq_some_iff.1 h1).1
        omega
    obtain rfl : k = j := by omega
    obtain ⟨u, h2, h3⟩ := h.2
    have hs : u.sort = 0 := by
      rcases h3 with h3 | ⟨t', h1, h3⟩
      · exact h3
      · have := (List.getElem?_eq_some_iff.1 h1).1; omega
    cases g with
    | zero => exact blockP_zero _ _
    | succ g =>
      rw [blockP_succ, lookP_some h2, if_neg (by simp [hs])]
      unfold itemP bodyP
      rw [h2]
      simp only
      rw [if_neg (by omega), if_neg (by omega), if_neg (by omega), if_neg (by omega)]; rfl
  | succ f ih =>
    intro g k hf hg
    by_cases hk : k ≤ j
    · have hm : k < m.length := by
        obtain ⟨u, h2, _⟩ := h.2
        have := (List.getElem?_eq_some_iff.1 h2).1; omega
      obtain ⟨g, rfl⟩ : ∃ g', g = g' + 1 := ⟨g - 1, by omega⟩
      rw [blockP_succ, blockP_succ]
      rcases h.look (so := 3) (by decide) [125] hk with e | ⟨rfl, e⟩
      · rw [e]
        split
        · exact ⟨Nat.le_succ _, fun _ => ⟨[], rfl, rfl⟩⟩
        · have hi := h.item k
          cases hx : itemP l k with
          | bad a => rw [hx] at hi; exact ⟨hi.1, fun ha => by rw [hi.2 ha]; rfl⟩
          | good x a =>
            have hlt := body_lt hx
            rw [hx] at hi
            simp only [PR.bind_good]
            by_cases ha : a ≤ j
            · obtain ⟨y, hy, hxy⟩ := hi.2 ha
              rw [hy]
              simp only [PR.bind_good]
              refine ((ih g a (by omega) (by omega)).bind fun xs ys i hi hl => Det.good fun hj => ?_).up (by omega)
              have e1 : x.bare = y.bare := hxy
              have e2 : xs.map LIt.bare = ys.map LIt.bare := hl hj
              show (x :: xs).map LIt.bare = (y :: ys).map LIt.bare
              rw [List.map_cons, List.map_cons, e1, e2]
            · have h2 := Agree.mono0 f a l
              generalize blockP f l a = r at h2 ⊢
              cases r with
              | bad b => exact ⟨by have h2 : a ≤ b := h2; omega, fun hb => by have h2 : a ≤ b := h2; omega⟩
              | good y b => exact ⟨by have h2 : a ≤ b := h2; omega, fun hb => by have h2 : a ≤ b := h2; omega⟩
      · rw [if_pos e]
        exact ⟨Nat.le_succ _, fun h => absurd h (by omega)⟩
    · have h2 := Agree.mono0 (f + 1) k l
      generalize blockP (f + 1) l k = r at h2 ⊢
      cases r with
      | bad b => exact ⟨h2, fun hb => by have h2 : k ≤ b := h2; omega⟩
      | good y b => exact ⟨h2, fun hb => by have h2 : k ≤ b := h2; omega⟩
end
/-- All but the end. -/
def headP (l : List LTok) : PR LSk := (mustP 1 graphW l 0).bind fun _ k1 => (takeP 1 l k1).bind fun n k2 => (mustP 3 [123] l k2).bind fun _ k3 => (blockP l.length l k3).bind fun xs k4 => .good ⟨n.text, xs⟩ k4
theorem parseP_head (l : List LTok) : parseP l = (headP l).bind fun x k => (takeP 0 l k).bind fun _ k2 => .good x k2 := by
  unfold parseP headP blockP
  simp only [PR.bind_assoc, PR.bind_good]
abbrev SkLike (x y : LSk) : Prop := x.bare = y.bare
theorem Agree.head {l m : List LTok} {j : Nat} (h : Agree j l m) : Det SkLike (headP l) (headP m) 0 j := by
  unfold headP
  refine (h.must (by decide) _ 0).bind fun _ _ i _ _ => (h.take (by decide) i).bind fun t u i2 h2 ht => (h.must (by decide) _ i2).bind fun _ _ i3 h3 _ => (h.block _ _ i3 (by omega) (by omega)).bind fun xs ys i4 h4 hx => Det.good fun hj => ?_
  have e2 : xs.map LIt.bare = ys.map LIt.bare := hx hj
  unfold SkLike LSk.bare
  simp only [(ht (by omega)).2.1, e2]
/-- A wrong token is wrong whatever stands behind it; where the text ends instead, that may be wrong, or all was read. -/
theorem Agree.parse_bad {l m : List LTok} {j i : Nat} (h : Agree j l m) (hl : Ends l) (hb : parseP l = .bad i) (hi : i ≤ j) : parseP m = .bad i ∨ (i = j ∧ ∃ x n, parseP m = .good x n ∧ ∃ u, m[j]? = some u ∧ u.sort = 0 ∧ ∀ t, l[j]? = some t → t.sort ≠ 0) := by
  rw [parseP_head] at hb ⊢
  have hd := h.head
  cases hp : headP l with
  | bad a =>
    rw [hp] at hb hd
    cases hb
    left; rw [hd.2 hi]; rfl
  | good x a =>
    rw [hp] at hb hd
    simp only [PR.bind_good] at hb
    cases ht : takeP 0 l a with
    | good t b => rw [ht] at hb; cases hb
    | bad b =>
      rw [ht] at hb
      cases hb
      obtain ⟨rfl, hts⟩ := takeP_bad ht
      obtain ⟨y, hy, hxy⟩ := hd.2 hi
      rw [hy]
      simp only [PR.bind_good]
      rcases Nat.lt_or_ge i j with hk | hk
      · obtain ⟨t, u, h1, h2, h3⟩ := h.1 i hk
        left
        rw [takeP_some h2, if_neg (by rw [← h3.1]; exact hts t h1)]; rfl
      · obtain rfl : i = j := by omega
        obtain ⟨u, h2, h3⟩ := h.2
        rw [takeP_some h2]
        rcases h3 with h3 | ⟨t, h1, h3⟩
        · right
          rw [if_pos h3]
          exact ⟨rfl, y, i + 1, rfl, u, h2, h3, hts⟩
        · left
          rw [if_neg (by rw [← h3.1]; exact hts t h1)]; rfl
theorem Agree.parse_good {l m : List LTok} {j : Nat} (h : Agree j l m) {x : LSk} (hg : parseP l = .good x (j + 1)) : ∃ y, parseP m = .good y (j + 1) ∧ x.bare = y.bare := by
  rw [parseP_head] at hg ⊢
  have hd := h.head
  obtain ⟨x', a, hp, hg⟩ := PR.bind_inv hg
  obtain ⟨t, b, ht, hg⟩ := PR.bind_inv hg
  cases hg
  obtain ⟨h1, h2, e⟩ := takeP_inv ht
  obtain rfl : j = a := by omega
  rw [hp] at hd
  obtain ⟨y, hy, hxy⟩ := hd.2 (Nat.le_refl _)
  rw [hy]
  simp only [PR.bind_good]
  obtain ⟨u, h3, h4⟩ := h.2
  rw [takeP_some h3, if_pos (by
    rcases h4 with h4 | ⟨t', h5, h4⟩
    · exact h4
    · rw [h1] at h5; cases h5; rw [← h4.1]; exact h2)]
  exact ⟨y, rfl, hxy⟩
end Go.Proofs.YtohalcbhckahmaaDoor
