/-
  Layer 5, plain: where what is read stands.
-/
import Derived.Test.YtohalcbhckahmaaDoorSkP
namespace Go.Proofs.YtohalcbhckahmaaDoor
open Go
set_option linter.all false

/-- A word stands at a place of a text. -/
def StandsU (s w : List UInt8) (k : Nat) : Prop := k + w.length ≤ s.length ∧ (s.drop k).take w.length = w
theorem right_len1 {t : LTok} (h : t.right = true) (hn : -9223372036854775808 ≤ t.num ∧ t.num ≤ 9223372036854775807) : t.spelt.length ≤ 21 ∧ 1 ≤ t.spelt.length := by
  obtain ⟨c, r, hs, _, _, _⟩ := tokR_back t h hn
  refine ⟨?_, by rw [hs]; simp⟩
  unfold LTok.right at h
  split at h
  · rename_i e
    unfold LTok.spelt
    rw [if_neg (by omega)]
    simp only [Bool.and_eq_true] at h
    cases hx : t.text with
    | nil => simp
    | cons c r =>
      rw [hx] at h
      simp only [nameU, Bool.and_eq_true, decide_eq_true_iff] at h
      have := h.2.2.2
      simp only [List.length_cons]; omega
  · split at h
    · rename_i e
      unfold LTok.spelt
      rw [if_pos e]
      exact Lib.itoa_length_le t.num hn.1 hn.2
    · split at h
      · rename_i e
        unfold LTok.spelt
        rw [if_neg (by omega)]
        simp only [Bool.and_eq_true] at h
        have := h.2
        unfold markU at this
        rw [decide_eq_true_iff] at this
        rcases this with e | e | e | e | e | e <;> (rw [e]; decide)
      · cases h
theorem tok_mono {s : List UInt8} {l : List LTok} (h : lexA s = (l, 0, 0)) : ∀ (d i : Nat), i + d + 1 < l.length → ∀ (hi : i < l.length) (hj : i + d + 1 < l.length), l[i].at_ < l[i + d + 1].at_ := by
  have hp := (places_plain h).1
  have h1 : ∀ i (hi : i < l.length) (hj : i + 1 < l.length), l[i].at_ < l[i + 1].at_ := by
    intro i hi hj
    have a := hp i hi
    have b := hp (i + 1) hj
    have c : posL l (i + 1) = l[i].at_ + l[i].spelt.length := by
      show (match l[i]? with | some t => t.at_ + t.spelt.length | none => 0) = _
      rw [List.getElem?_eq_getElem hi]
    rw [c] at b
    have d : 1 ≤ l[i].spelt.length := by
      rcases a.2.2.2.1 with ⟨e, _⟩ | ⟨_, _, e⟩
      · omega
      · exact (right_len1 e a.2.2.2.2.1).2
    omega
  intro d
  induction d with
  | zero => intro i hi h2 h3; exact h1 i h2 h3
  | succ d ih =>
    intro i hi h2 h3
    have a := ih i (by omega) h2 (by omega)
    have b := h1 (i + d + 1) (by omega) (by omega)
    show l[i].at_ < l[i + (d + 1) + 1].at_
    have e : i + (d + 1) + 1 = i + d + 1 + 1 := by omega
    simp only [e]
    omega
theorem tok_lt {s : List UInt8} {l : List LTok} (h : lexA s = (l, 0, 0)) {i j : Nat} (hij : i < j) {t u : LTok} (ht : l[i]? = some t) (hu : l[j]? = some u) : t.at_ < u.at_ := by
  obtain ⟨hi, rfl⟩ := List.getElem?_eq_some_iff.1 ht
  obtain ⟨hj, rfl⟩ := List.getElem?_eq_some_iff.1 hu
  obtain ⟨d, rfl⟩ : ∃ d, j = i + d + 1 := ⟨j - i - 1, by omega⟩
  exact tok_mono h d i hj hi hj
theorem tok_word {s : List UInt8} {l : List LTok} (h : lexA s = (l, 0, 0)) {i : Nat} {t : LTok} (ht : l[i]? = some t) (hs : t.sort = 1) : StandsU s t.text t.at_ := by
  obtain ⟨hi, rfl⟩ := List.getElem?_eq_some_iff.1 ht
  obtain ⟨_, h2, h3, _⟩ := (places_plain h).1 i hi
  have e : l[i].spelt = l[i].text := by unfold LTok.spelt; rw [if_neg (by omega)]
  rw [e] at h2 h3
  exact ⟨h2, h3⟩
/-- A place is that of the i-th token, a word. -/
def PlAt (l : List LTok) (i : Nat) (p : LPl) : Prop := ∃ t, l[i]? = some t ∧ t.sort = 1 ∧ p.name = t.text ∧ p.at_ = t.at_
theorem place_at {l : List LTok} {k m : Nat} {p : LPl} (hp : placeP l k = .good p m) : PlAt l k p ∧ k < m := by
  unfold placeP at hp
  obtain ⟨t, k1, h1, hp⟩ := PR.bind_inv hp
  obtain ⟨_, k2, h2, hp⟩ := PR.bind_inv hp
  obtain ⟨n, k3, h3, hp⟩ := PR.bind_inv hp
  cases hp
  obtain ⟨a1, a2, rfl⟩ := takeP_inv h1
  obtain ⟨_, _, _, _, rfl⟩ := mustP_inv h2
  obtain ⟨_, _, rfl⟩ := takeP_inv h3
  exact ⟨⟨t, a1, a2, rfl, rfl⟩, by omega⟩
/-- Where an item's words stand, by their tokens: the first at k, all before m. -/
def ItTok (l : List LTok) (k m : Nat) (x : LIt) : Prop := ∃ t, l[k]? = some t ∧ t.sort = 1 ∧ x.at_ = t.at_ ∧ k < m ∧
  ((x.kind = 1 ∧ t.text = actorW ∧ x.fr.at_ = 0 ∧ x.to.at_ = 0) ∨
   (x.kind = 2 ∧ t.text = edgeW ∧ ∃ i j, k < i ∧ i < j ∧ j < m ∧ PlAt l i x.fr ∧ PlAt l j x.to) ∨
   (x.kind = 3 ∧ t.text = inW ∧ x.fr.at_ = 0 ∧ ∃ j, k < j ∧ j < m ∧ PlAt l j x.to) ∨
   (x.kind = 4 ∧ t.text = outW ∧ x.to.at_ = 0 ∧ ∃ i, k < i ∧ i < m ∧ PlAt l i x.fr))
theorem nums_le {l : List LTok} {k m : Nat} {xs : List Int} (h : numsP l k = .good xs m) : k ≤ m := by
  obtain ⟨_, rfl⟩ := numsP_inv h; omega
theorem with_le {l : List LTok} {k m : Nat} {xs : List Int} (h : withP l k = .good xs m) : k ≤ m := by
  unfold withP at h
  split at h
  · obtain ⟨n, k1, h1, h⟩ := PR.bind_inv h
    obtain ⟨ys, k2, h2, h⟩ := PR.bind_inv h
    cases h
    obtain ⟨_, _, rfl⟩ := takeP_inv h1
    have := nums_le h2
    omega
  · cases h; omega
theorem item_tok {l : List LTok} {k m : Nat} {x : LIt} (h : itemP l k = .good x m) : ItTok l k m x := by
  unfold itemP at h
  obtain ⟨y, k1, hb, h⟩ := PR.bind_inv h
  obtain ⟨_, k2, h2, h⟩ := PR.bind_inv h
  cases h
  obtain ⟨_, _, _, _, rfl⟩ := mustP_inv h2
  unfold bodyP at hb
  split at hb
  · cases hb
  · rename_i t ht
    split at hb
    · rename_i hs
      unfold actorP at hb
      obtain ⟨n, a1, q1, hb⟩ := PR.bind_inv hb
      obtain ⟨_, a2, q2, hb⟩ := PR.bind_inv hb
      obtain ⟨g, a3, q3, hb⟩ := PR.bind_inv hb
      obtain ⟨xs, a4, q4, hb⟩ := PR.bind_inv hb
      cases hb
      obtain ⟨_, _, rfl⟩ := takeP_inv q1
      obtain ⟨_, _, _, _, rfl⟩ := mustP_inv q2
      obtain ⟨_, _, rfl⟩ := takeP_inv q3
      have := nums_le q4
      exact ⟨t, ht, hs.1, rfl, by omega, .inl ⟨rfl, hs.2, rfl, rfl⟩⟩
    · split at hb
      · rename_i hs
        unfold edgeP at hb
        obtain ⟨p, a1, q1, hb⟩ := PR.bind_inv hb
        obtain ⟨_, a2, q2, hb⟩ := PR.bind_inv hb
        obtain ⟨q, a3, q3, hb⟩ := PR.bind_inv hb
        obtain ⟨xs, a4, q4, hb⟩ := PR.bind_inv hb
        cases hb
        obtain ⟨p1, l1⟩ := place_at q1
        obtain ⟨_, _, _, _, rfl⟩ := mustP_inv q2
        obtain ⟨p3, l3⟩ := place_at q3
        have := with_le q4
        exact ⟨t, ht, hs.1, rfl, by omega, .inr (.inl ⟨rfl, hs.2, k + 1, a1 + 1, by omega, by omega, by omega, p1, p3⟩)⟩
      · split at hb
        · rename_i hs
          unfold inP at hb
          obtain ⟨p, a1, q1, hb⟩ := PR.bind_inv hb
          obtain ⟨_, a2, q2, hb⟩ := PR.bind_inv hb
          obtain ⟨q, a3, q3, hb⟩ := PR.bind_inv hb
          cases hb
          obtain ⟨_, _, rfl⟩ := takeP_inv q1
          obtain ⟨_, _, _, _, rfl⟩ := mustP_inv q2
          obtain ⟨p3, l3⟩ := place_at q3
          exact ⟨t, ht, hs.1, rfl, by omega, .inr (.inr (.inl ⟨rfl, hs.2, rfl, k + 1 + 1 + 1, by omega, by omega, p3⟩))⟩
        · split at hb
          · rename_i hs
            unfold outP at hb
            obtain ⟨p, a1, q1, hb⟩ := PR.bind_inv hb
            obtain ⟨_, a2, q2, hb⟩ := PR.bind_inv hb
            obtain ⟨q, a3, q3, hb⟩ := PR.bind_inv hb
            cases hb
            obtain ⟨p1, l1⟩ := place_at q1
            obtain ⟨_, _, _, _, rfl⟩ := mustP_inv q2
            obtain ⟨_, _, rfl⟩ := takeP_inv q3
            exact ⟨t, ht, hs.1, rfl, by omega, .inr (.inr (.inr ⟨rfl, hs.2, rfl, k + 1, by omega, by omega, p1⟩))⟩
          · cases hb
/-- What the law says of an item, behind a place. -/
def ItPl (s : List UInt8) (prev : Nat) (x : LIt) : Prop := prev < x.at_ ∧ (x.fr.at_ = 0 ∨ x.at_ < x.fr.at_) ∧ (x.to.at_ = 0 ∨ x.fr.at_ < x.to.at_) ∧
  ((x.kind = 1 ∧ StandsU s actorW x.at_ ∧ x.fr.at_ = 0 ∧ x.to.at_ = 0) ∨
   (x.kind = 2 ∧ StandsU s edgeW x.at_ ∧ StandsU s x.fr.name x.fr.at_ ∧ StandsU s x.to.name x.to.at_ ∧ 0 < x.to.at_ ∧ 0 < x.fr.at_) ∨
   (x.kind = 3 ∧ StandsU s inW x.at_ ∧ x.fr.at_ = 0 ∧ StandsU s x.to.name x.to.at_ ∧ x.at_ < x.to.at_) ∨
   (x.kind = 4 ∧ StandsU s outW x.at_ ∧ StandsU s x.fr.name x.fr.at_ ∧ x.at_ < x.fr.at_ ∧ x.to.at_ = 0))
def lastPl (x : LIt) : Nat := max (max x.at_ x.fr.at_) x.to.at_
def PlsOk (s : List UInt8) : Nat → List LIt → Prop
  | _, [] => True
  | prev, x :: r => ItPl s prev x ∧ PlsOk s (lastPl x) r
/-- The place of a token ahead of the k-th. -/
def Before (l : List LTok) (k p : Nat) : Prop := ∀ t, l[k]? = some t → p < t.at_
theorem tok_pl {s : List UInt8} {l : List LTok} (h : lexA s = (l, 0, 0)) {k m prev : Nat} {x : LIt} (hx : ItTok l k m x) (hp : Before l k prev) : ItPl s prev x ∧ Before l m (lastPl x) := by
  obtain ⟨t, ht, hs, ha, hkm, hx⟩ := hx
  have h0 := hp t ht
  have hw := tok_word h ht hs
  rw [← ha] at h0 hw
  rcases hx with ⟨h1, h2, h3, h4⟩ | ⟨h1, h2, i, j, hi, hij, hj, ⟨u, hu, su, nu, au⟩, ⟨v, hv, sv, nv, av⟩⟩ | ⟨h1, h2, h3, j, hi, hj, ⟨v, hv, sv, nv, av⟩⟩ | ⟨h1, h2, h4, i, hi, hij, ⟨u, hu, su, nu, au⟩⟩
  · rw [h2] at hw
    refine ⟨⟨h0, .inl h3, .inl h4, .inl ⟨h1, hw, h3, h4⟩⟩, fun z hz => ?_⟩
    have := tok_lt h hkm ht hz
    unfold lastPl; omega
  · rw [h2] at hw
    have a := tok_lt h hi ht hu
    have b := tok_lt h hij hu hv
    have wu := tok_word h hu su
    have wv := tok_word h hv sv
    rw [← nu, ← au] at wu
    rw [← nv, ← av] at wv
    refine ⟨⟨h0, .inr (by omega), .inr (by omega), .inr (.inl ⟨h1, hw, wu, wv, by omega, by omega⟩)⟩, fun z hz => ?_⟩
    have := tok_lt h hj hv hz
    unfold lastPl; omega
  · rw [h2] at hw
    have a := tok_lt h hi ht hv
    have wv := tok_word h hv sv
    rw [← nv, ← av] at wv
    refine ⟨⟨h0, .inl h3, .inr (by omega), .inr (.inr (.inl ⟨h1, hw, h3, wv, by omega⟩))⟩, fun z hz => ?_⟩
    have := tok_lt h hj hv hz
    unfold lastPl; omega
  · rw [h2] at hw
    have a := tok_lt h hi ht hu
    have wu := tok_word h hu su
    rw [← nu, ← au] at wu
    refine ⟨⟨h0, .inr (by omega), .inl h4, .inr (.inr (.inr ⟨h1, hw, wu, by omega, h4⟩))⟩, fun z hz => ?_⟩
    have := tok_lt h hij hu hz
    unfold lastPl; omega
theorem items_pl {s : List UInt8} {l : List LTok} (h : lexA s = (l, 0, 0)) : ∀ (f k m prev : Nat) (xs : List LIt), itemsP f l k = .good xs m → Before l k prev → PlsOk s prev xs := by
  intro f
  induction f with
  | zero => intro k m prev xs hx; cases hx
  | succ f ih =>
    intro k m prev xs hx hb
    unfold itemsP at hx
    split at hx
    · cases hx; trivial
    · obtain ⟨x, k1, h1, hx⟩ := PR.bind_inv hx
      obtain ⟨ys, k2, h2, hx⟩ := PR.bind_inv hx
      cases hx
      obtain ⟨a, b⟩ := tok_pl h (item_tok h1) hb
      exact ⟨a, ih _ _ _ _ h2 b⟩
/-- The places of what is read. -/
theorem parse_places {s : List UInt8} {x : LSk} (h : parseA s = .ok x) : PlsOk s 0 x.items := by
  unfold parseA at h
  obtain ⟨⟨l, c, k⟩, hA⟩ : ∃ r, lexA s = r := ⟨_, rfl⟩
  rw [hA] at h
  simp only at h
  split at h
  · cases h
  · rename_i hc
    have hc : c = 0 := by omega
    subst hc
    have hk : k = 0 := by
      rcases lexA_code hA with ⟨_, e, _⟩ | ⟨e, _⟩
      · exact e
      · rcases e with ⟨e, _⟩ | ⟨e, _⟩ <;> omega
    subst hk
    split at h
    · rename_i y m hp
      cases h
      unfold parseP at hp
      obtain ⟨_, k1, h1, hp⟩ := PR.bind_inv hp
      obtain ⟨n, k2, h2, hp⟩ := PR.bind_inv hp
      obtain ⟨_, k3, h3, hp⟩ := PR.bind_inv hp
      obtain ⟨xs, k4, h4, hp⟩ := PR.bind_inv hp
      obtain ⟨_, k5, h5, hp⟩ := PR.bind_inv hp
      obtain ⟨_, k6, h6, hp⟩ := PR.bind_inv hp
      cases hp
      obtain ⟨t, ht, _, _, rfl⟩ := mustP_inv h1
      obtain ⟨_, _, rfl⟩ := takeP_inv h2
      obtain ⟨_, _, _, _, rfl⟩ := mustP_inv h3
      refine items_pl hA _ _ _ 0 _ h4 (fun u hu => ?_)
      have := tok_lt hA (by omega : 0 < 0 + 1 + 1 + 1) ht hu
      omega
    · cases h
theorem parse_fault {s : List UInt8} {c : Int} {k : Nat} (h : parseA s = .error (c, k)) : c ≠ 0 ∧ k ≤ s.length := by
  unfold parseA at h
  obtain ⟨⟨l, c', k'⟩, hA⟩ : ∃ r, lexA s = r := ⟨_, rfl⟩
  rw [hA] at h
  simp only at h
  have hcode := lexA_code hA
  split at h
  · rename_i hc
    cases h
    refine ⟨hc, ?_⟩
    rcases hcode with ⟨e, _⟩ | ⟨e, _⟩
    · exact absurd e hc
    · rcases e with ⟨_, e2, e3⟩ | ⟨_, _, ts, e⟩
      · omega
      · have := (lexL_ge s.length 0 s (Nat.le_refl _)).2 c k (by rw [e])
        omega
  · split at h
    · cases h
    · cases h
      refine ⟨by decide, ?_⟩
      rename_i j hp
      cases hj : l[j]? with
      | none => exact Nat.zero_le _
      | some t =>
        show t.at_ ≤ _
        have := lexA_at (l := s) t (by rw [hA]; exact List.mem_of_getElem? hj)
        omega
end Go.Proofs.YtohalcbhckahmaaDoor
