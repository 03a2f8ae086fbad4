/-
  Layer 5, plain: what stands ahead of a wrong token, and what comes behind it.
-/
import Derived.Test.YtohalcbhckahmaaDoorSkQ
import Derived.Test.YtohalcbhckahmaaDoorSkR
namespace Go.Proofs.YtohalcbhckahmaaDoor
open Go
set_option linter.all false

def PR.lt {α : Type} (n : Nat) : PR α → Prop
  | .bad k => k < n
  | .good _ k => k < n
theorem PR.lt_bind {α β : Type} {n : Nat} {r : PR α} {f : α → Nat → PR β} (h : r.lt n) (hf : ∀ x k, k < n → (f x k).lt n) : (r.bind f).lt n := by
  cases r with
  | bad k => exact h
  | good x k => exact hf x k h
section
variable {l : List LTok} (he : Ends l)
include he
theorem take_lt {so : Int} (hs : so ≠ 0) {k : Nat} (hk : k < l.length) : (takeP so l k).lt l.length := by
  cases h : takeP so l k with
  | bad j => obtain ⟨rfl, _⟩ := takeP_bad h; exact hk
  | good t m => exact (he.take h hs).1
theorem must_lt {so : Int} (hs : so ≠ 0) (b : List UInt8) {k : Nat} (hk : k < l.length) : (mustP so b l k).lt l.length := by
  cases h : mustP so b l k with
  | bad j => obtain rfl := mustP_bad h; exact hk
  | good t m => exact (he.must h hs).1
theorem nums_lt {k : Nat} (hk : k < l.length) : (numsP l k).lt l.length := he.nums hk
theorem place_lt {k : Nat} (hk : k < l.length) : (placeP l k).lt l.length :=
  PR.lt_bind (take_lt he (by decide) hk) fun _ _ h => PR.lt_bind (must_lt he (by decide) _ h) fun _ _ h => PR.lt_bind (take_lt he (by decide) h) fun _ _ h => h
theorem with_lt {k : Nat} (hk : k < l.length) : (withP l k).lt l.length := by
  unfold withP
  by_cases h : lookP 1 withW l k = true
  · rw [if_pos h]
    obtain ⟨t, ht, hs, _⟩ := lookP_inv h
    exact PR.lt_bind (take_lt he (by decide) (he.next ht (by omega))) fun _ _ h => PR.lt_bind (nums_lt he h) fun _ _ h => h
  · rw [if_neg h]; exact hk
theorem body_lt' {k : Nat} (hk : k < l.length) : (bodyP l k).lt l.length := by
  unfold bodyP
  split
  · exact hk
  · rename_i t ht
    split
    · rename_i h
      exact PR.lt_bind (take_lt he (by decide) (he.next ht (by omega))) fun _ _ h => PR.lt_bind (must_lt he (by decide) _ h) fun _ _ h => PR.lt_bind (take_lt he (by decide) h) fun _ _ h => PR.lt_bind (nums_lt he h) fun _ _ h => h
    · split
      · rename_i h
        exact PR.lt_bind (place_lt he (he.next ht (by omega))) fun _ _ h => PR.lt_bind (must_lt he (by decide) _ h) fun _ _ h => PR.lt_bind (place_lt he h) fun _ _ h => PR.lt_bind (with_lt he h) fun _ _ h => h
      · split
        · rename_i h
          exact PR.lt_bind (take_lt he (by decide) (he.next ht (by omega))) fun _ _ h => PR.lt_bind (must_lt he (by decide) _ h) fun _ _ h => PR.lt_bind (place_lt he h) fun _ _ h => h
        · split
          · rename_i h
            exact PR.lt_bind (place_lt he (he.next ht (by omega))) fun _ _ h => PR.lt_bind (must_lt he (by decide) _ h) fun _ _ h => PR.lt_bind (take_lt he (by decide) h) fun _ _ h => h
          · exact hk
theorem item_lt {k : Nat} (hk : k < l.length) : (itemP l k).lt l.length :=
  PR.lt_bind (body_lt' he hk) fun _ _ h => PR.lt_bind (must_lt he (by decide) _ h) fun _ _ h => h
theorem items_lt : ∀ (f k : Nat), k < l.length → (itemsP f l k).lt l.length := by
  intro f
  induction f with
  | zero => intro k hk; exact hk
  | succ f ih =>
    intro k hk
    unfold itemsP
    split
    · exact hk
    · exact PR.lt_bind (item_lt he hk) fun _ _ h => PR.lt_bind (ih _ h) fun _ _ h => h
theorem parse_bad_lt {j : Nat} (h : parseP l = .bad j) : j < l.length := by
  have h0 : 0 < l.length := List.length_pos_iff.2 he.1
  have hh : ((mustP 1 graphW l 0).bind fun _ k1 => (takeP 1 l k1).bind fun n k2 => (mustP 3 [123] l k2).bind fun _ k3 => (itemsP l.length l k3).bind fun xs k4 => (mustP 3 [125] l k4).bind fun _ k5 => (PR.good () k5 : PR Unit)).lt l.length :=
    PR.lt_bind (must_lt he (by decide) _ h0) fun _ _ h => PR.lt_bind (take_lt he (by decide) h) fun _ _ h => PR.lt_bind (must_lt he (by decide) _ h) fun _ _ h => PR.lt_bind (items_lt he _ _ h) fun _ _ h => PR.lt_bind (must_lt he (by decide) _ h) fun _ _ h => h
  unfold parseP at h
  cases h1 : mustP 1 graphW l 0 with
  | bad a => rw [h1] at h hh; cases h; exact hh
  | good _ k1 =>
  rw [h1] at h hh
  simp only [PR.bind_good] at h hh
  cases h2 : takeP 1 l k1 with
  | bad a => rw [h2] at h hh; cases h; exact hh
  | good _ k2 =>
  rw [h2] at h hh
  simp only [PR.bind_good] at h hh
  cases h3 : mustP 3 [123] l k2 with
  | bad a => rw [h3] at h hh; cases h; exact hh
  | good _ k3 =>
  rw [h3] at h hh
  simp only [PR.bind_good] at h hh
  cases h4 : itemsP l.length l k3 with
  | bad a => rw [h4] at h hh; cases h; exact hh
  | good _ k4 =>
  rw [h4] at h hh
  simp only [PR.bind_good] at h hh
  cases h5 : mustP 3 [125] l k4 with
  | bad a => rw [h5] at h hh; cases h; exact hh
  | good _ k5 =>
  rw [h5] at h hh
  simp only [PR.bind_good] at h hh
  cases h6 : takeP 0 l k5 with
  | bad a => rw [h6] at h; cases h; obtain ⟨rfl, _⟩ := takeP_bad h6; exact hh
  | good _ k6 => rw [h6] at h; cases h
end
theorem like_refl (t : LTok) : t.like t := ⟨rfl, rfl, rfl⟩
/-- A refusal: the tokens, and the wrong one. -/
theorem parse_err {s : List UInt8} {k : Nat} (h : parseA s = .error (50, k)) : ∃ l j t, lexA s = (l, 0, 0) ∧ parseP l = .bad j ∧ l[j]? = some t ∧ t.at_ = k := by
  unfold parseA at h
  obtain ⟨⟨l, c, k'⟩, hA⟩ : ∃ r, lexA s = r := ⟨_, rfl⟩
  rw [hA] at h
  simp only at h
  have hcode := lexA_code hA
  split at h
  · rename_i hc
    cases h
    rcases hcode with ⟨e, _⟩ | ⟨⟨e, _⟩ | ⟨e, _⟩, _⟩
    · exact absurd e hc
    · omega
    · omega
  · rename_i hc
    have hc : c = 0 := by omega
    subst hc
    have hk : k' = 0 := by
      rcases hcode with ⟨_, e, _⟩ | ⟨⟨e, _⟩ | ⟨e, _⟩, _⟩
      · exact e
      · omega
      · omega
    subst hk
    split at h
    · cases h
    · rename_i j hp
      have hj := parse_bad_lt (lexA_ends hA) hp
      refine ⟨l, j, l[j], hA, hp, List.getElem?_eq_getElem hj, ?_⟩
      have h := (Prod.mk.inj (Except.error.inj h)).2
      rw [List.getElem?_eq_getElem hj] at h
      exact h
theorem parse_of_bad {s : List UInt8} {l : List LTok} {j : Nat} {t : LTok} (hA : lexA s = (l, 0, 0)) (hp : parseP l = .bad j) (ht : l[j]? = some t) : parseA s = .error (50, t.at_) := by
  unfold parseA
  rw [hA]
  simp only
  rw [if_neg (by simp), hp]
  simp only
  rw [ht]; rfl
/-- What stands ahead of it is read, or refused at its end. -/
theorem ahead_cut {s : List UInt8} {l : List LTok} {j : Nat} {t : LTok} (hA : lexA s = (l, 0, 0)) (hp : parseP l = .bad j) (ht : l[j]? = some t) : t.at_ ≤ s.length ∧ ((∃ x, parseA (s.take t.at_) = .ok x) ∨ parseA (s.take t.at_) = .error (50, t.at_)) := by
  obtain ⟨hj, rfl⟩ := List.getElem?_eq_some_iff.1 ht
  obtain ⟨h1, h2⟩ := (lexA_ahead hA (by decide)).2 rfl j hj
  refine ⟨h1, ?_⟩
  have hm : (l.take j ++ [(⟨0, [], 0, l[j].at_⟩ : LTok)])[j]? = some ⟨0, [], 0, l[j].at_⟩ := by
    rw [List.getElem?_append_right (by rw [List.length_take]; omega)]
    simp only [List.length_take]
    rw [show j - min j l.length = 0 by omega]; rfl
  have hag : Agree j l (l.take j ++ [⟨0, [], 0, l[j].at_⟩]) := by
    refine ⟨fun i hi => ⟨l[i], l[i], List.getElem?_eq_getElem (by omega), ?_, like_refl _⟩, _, hm, .inl rfl⟩
    rw [List.getElem?_append_left (by simp; omega), List.getElem?_take, if_pos hi, List.getElem?_eq_getElem (by omega)]
  rcases hag.parse_bad (lexA_ends hA) hp (Nat.le_refl _) with hb | ⟨_, x, n, hg, _⟩
  · right; exact parse_of_bad (t := ⟨0, [], 0, l[j].at_⟩) h2 hb hm
  · left
    refine ⟨x, ?_⟩
    unfold parseA
    rw [h2]
    simp only
    rw [if_neg (by simp), hg]
theorem lexL_upto : ∀ (n p : Nat) (l : List UInt8), l.length ≤ n → ∀ i t, (lexL p l).1[i]? = some t → lexL p (l.take (t.at_ + t.spelt.length - p)) = ((lexL p l).1.take (i + 1), none) := by
  intro n
  induction n with
  | zero =>
    intro p l h
    obtain rfl : l = [] := List.eq_nil_of_length_eq_zero (by omega)
    rw [lexL_nil]
    simp
  | succ n ih =>
    intro p l h
    have hge := lexL_ge _ p l (Nat.le_refl _)
    cases l with
    | nil => rw [lexL_nil]; simp
    | cons c r =>
      simp only [List.length_cons] at h
      cases h1 : isBlk c with
      | true =>
        have hg := lexL_ge _ (p + 1) r (Nat.le_refl _)
        rw [lexL_blank _ _ _ h1]
        have i2 := ih (p + 1) r (by omega)
        intro i t hit
        have := hg.1 t (List.mem_of_getElem? hit)
        obtain ⟨j, hj⟩ : ∃ j, t.at_ + t.spelt.length - p = j + 1 := ⟨t.at_ + t.spelt.length - p - 1, by omega⟩
        rw [hj, List.take_succ_cons, lexL_blank _ _ _ h1, show j = t.at_ + t.spelt.length - (p + 1) by omega]
        exact i2 i t hit
      | false =>
        by_cases h2 : c.toNat = 35
        · obtain ⟨m, hm⟩ : ∃ m, (r.takeWhile notEol).length = m := ⟨_, rfl⟩
          have hg := lexL_ge _ (p + 1 + m) (r.drop m) (Nat.le_refl _)
          have i2 := ih (p + 1 + m) (r.drop m) (by rw [List.length_drop]; omega)
          have key : ∀ q, p + 1 + m ≤ q → lexL p ((c :: r).take (q - p)) = lexL (p + 1 + m) ((r.drop m).take (q - (p + 1 + m))) := by
            intro q hq
            obtain ⟨j, hj⟩ : ∃ j, q - p = j + 1 := ⟨q - p - 1, by omega⟩
            rw [hj, List.take_succ_cons, lexL_hash _ _ _ h2, takeWhile_take_le notEol r j (by omega), hm, List.drop_take, show j - m = q - (p + 1 + m) by omega]
          rw [lexL_hash _ _ _ h2, hm]
          intro i t hit
          have := hg.1 t (List.mem_of_getElem? hit)
          rw [key _ (by omega)]
          exact i2 i t hit
        · cases ht : tokR (c :: r) with
          | bad e => rw [lexL_bad _ _ _ h1 h2 ht]; simp
          | good s t m k =>
            have hk := tokR_len ht
            have hg := lexL_ge _ (p + k) ((c :: r).drop k) (Nat.le_refl _)
            have i2 := ih (p + k) ((c :: r).drop k) (by rw [List.length_drop, List.length_cons]; omega)
            have key : ∀ q, p + k ≤ q → lexL p ((c :: r).take (q - p)) = (⟨s, t, m, p⟩ :: (lexL (p + k) (((c :: r).drop k).take (q - (p + k)))).1, (lexL (p + k) (((c :: r).drop k).take (q - (p + k)))).2) := by
              intro q hq
              have ht2 := tokR_take ht (q - p) (by omega)
              obtain ⟨j, hj⟩ : ∃ j, q - p = j + 1 := ⟨q - p - 1, by omega⟩
              rw [hj, List.take_succ_cons] at ht2
              rw [hj, List.take_succ_cons, lexL_good _ _ _ h1 h2 ht2, ← List.take_succ_cons, List.drop_take, show j + 1 - k = q - (p + k) by omega]
            rw [lexL_good _ _ _ h1 h2 ht]
            intro i t' hit
            cases i with
            | zero =>
              simp only [List.getElem?_cons_zero, Option.some.injEq] at hit
              subst hit
              have hsp : (LTok.mk s t m p).spelt.length = k := by
                have e := tokR_spelt ht
                have e2 : (LTok.mk s t m p).spelt = (LTok.mk s t m 0).spelt := rfl
                rw [e2, e, List.length_take]; omega
              rw [hsp, key _ (Nat.le_refl _), Nat.sub_self, List.take_zero, lexL_nil]; rfl
            | succ i =>
              simp only [List.getElem?_cons_succ] at hit
              have := hg.1 t' (List.mem_of_getElem? hit)
              rw [key _ (by omega), i2 i t' hit]; rfl
/-- A text cut off behind a token. -/
theorem lexA_upto {s : List UInt8} {l : List LTok} (h : lexA s = (l, 0, 0)) {j : Nat} {t : LTok} (ht : l[j]? = some t) (hs : t.sort ≠ 0) : t.at_ + t.spelt.length ≤ s.length ∧ lexA (s.take t.at_ ++ t.spelt) = (l.take (j + 1) ++ [⟨0, [], 0, t.at_ + t.spelt.length⟩], 0, 0) := by
  obtain ⟨hj, e⟩ := List.getElem?_eq_some_iff.1 ht
  obtain ⟨_, h2, h3, h4, _⟩ := (places_plain h).1 j hj
  rw [e] at h2 h3 h4
  have hjl : j + 1 ≠ l.length := by
    rcases h4 with ⟨_, h4⟩ | ⟨h4, _⟩
    · exact absurd h4 hs
    · exact h4
  refine ⟨h2, ?_⟩
  have ecut : s.take t.at_ ++ t.spelt = s.take (t.at_ + t.spelt.length) := by
    rw [List.take_add, h3]
  rw [ecut]
  rcases lexA_code h with ⟨_, _, _, hlen, ts, hl, rfl⟩ | ⟨⟨e, _⟩ | ⟨e, _⟩, _⟩
  · have hjt : j < ts.length := by rw [List.length_append, List.length_singleton] at hj hjl; omega
    have ht2 : (lexL 0 s).1[j]? = some t := by rw [hl]; rw [List.getElem?_append_left hjt] at ht; exact ht
    have hu := lexL_upto s.length 0 s (Nat.le_refl _) j t ht2
    rw [Nat.sub_zero, hl] at hu
    have hlen2 : (s.take (t.at_ + t.spelt.length)).length = t.at_ + t.spelt.length := by rw [List.length_take]; omega
    unfold lexA
    rw [if_neg (by omega), hu, hlen2]
    simp only
    rw [List.take_append_of_le_length (by omega)]
  · cases e
  · omega
/-- Whatever comes behind the wrong token. -/
theorem ahead_with {s more : List UInt8} {l : List LTok} (hA : lexA s = (l, 0, 0)) {j : Nat} {t : LTok} (hp : parseP l = .bad j) (ht : l[j]? = some t) (hs : t.sort ≠ 0) (hl : s.length + more.length ≤ 1000000) {m : List LTok} {c : Int} {k : Nat} (hw : lexA (s.take t.at_ ++ t.spelt ++ 10 :: more) = (m, c, k)) :
    (c ≠ 0 → parseA (s.take t.at_ ++ t.spelt ++ 10 :: more) = .error (c, k)) ∧ (c = 0 → k = 0 ∧ parseA (s.take t.at_ ++ t.spelt ++ 10 :: more) = .error (50, t.at_)) := by
  refine ⟨fun hc => by unfold parseA; rw [hw]; simp only; rw [if_pos hc], fun hc => ?_⟩
  subst hc
  obtain ⟨h2, hup⟩ := lexA_upto hA ht hs
  obtain ⟨hj, e⟩ := List.getElem?_eq_some_iff.1 ht
  obtain ⟨⟨lb, cb, kb⟩, hB⟩ : ∃ r, lexA more = r := ⟨_, rfl⟩
  have hlen : (s.take t.at_ ++ t.spelt).length + more.length ≤ 1048575 := by rw [List.length_append, List.length_take]; omega
  rcases lexA_join hlen hup hB with ⟨h, _⟩ | ⟨_, _, h, _, h3⟩ | ⟨_, _, _, _, h3, _⟩
  · exact absurd rfl h
  · rw [hw] at h3; cases h3; exact absurd rfl h
  · rw [hw] at h3
    have hk : k = 0 := by cases h3; rfl
    subst hk
    refine ⟨rfl, ?_⟩
    have hm : m = l.take (j + 1) ++ movedL lb ((s.take t.at_ ++ t.spelt).length + 1) := by
      have := (Prod.mk.inj h3).1
      rw [this, List.dropLast_concat]
    have hjm : ∀ i, i ≤ j → m[i]? = l[i]? := fun i hi => by
      rw [hm, List.getElem?_append_left (by rw [List.length_take]; omega), List.getElem?_take, if_pos (by omega)]
    have hag : Agree j l m := by
      refine ⟨fun i hi => ⟨l[i], l[i], List.getElem?_eq_getElem (by omega), ?_, like_refl _⟩, t, ?_, .inr ⟨t, ht, like_refl _⟩⟩
      · rw [hjm i (by omega), List.getElem?_eq_getElem (by omega)]
      · rw [hjm j (Nat.le_refl _), ht]
    have hmj : m[j]? = some t := by rw [hjm j (Nat.le_refl _), ht]
    rcases hag.parse_bad (lexA_ends hA) hp (Nat.le_refl _) with hb | ⟨_, x, n, _, u, hu, hu0, _⟩
    · exact parse_of_bad hw hb hmj
    · rw [hmj] at hu; cases hu; exact absurd hu0 hs
/-- Two tokens stand at one place only if they are one. -/
theorem tok_one {s : List UInt8} {l : List LTok} (h : lexA s = (l, 0, 0)) {i j : Nat} {t u : LTok} (ht : l[i]? = some t) (hu : l[j]? = some u) (e : t.at_ = u.at_) : i = j := by
  rcases Nat.lt_trichotomy i j with h1 | h1 | h1
  · have := tok_lt h h1 ht hu; omega
  · exact h1
  · have := tok_lt h h1 hu ht; omega
theorem tok_end {s : List UInt8} {l : List LTok} (h : lexA s = (l, 0, 0)) {i : Nat} {t : LTok} (ht : l[i]? = some t) (hs : t.sort = 0) : t.at_ = s.length := by
  obtain ⟨hi, e⟩ := List.getElem?_eq_some_iff.1 ht
  have hq := (lexA_ends h).2 i t ht
  have hlast : i + 1 = l.length := by
    rcases Nat.lt_or_ge (i + 1) l.length with h1 | h1
    · exact absurd hs (hq.1.2 h1)
    · omega
  rcases lexA_code h with ⟨_, _, _, hlen, ts, hl, rfl⟩ | ⟨⟨e, _⟩ | ⟨e, _⟩, _⟩
  · rw [List.length_append, List.length_singleton] at hlast
    rw [List.getElem?_append_right (by omega)] at ht
    rw [show i - ts.length = 0 by omega] at ht
    cases ht; rfl
  · cases e
  · omega
end Go.Proofs.YtohalcbhckahmaaDoor
