/-
  Layer 4, plain: what the laws say of a text's tokens. No program text in sight.
-/
import Derived.Test.YtohalcbhckahmaaDoorLexP
namespace Go.Proofs.YtohalcbhckahmaaDoor
open Go
set_option linter.all false

theorem takeWhile_append_stop (p : UInt8 → Bool) (b : UInt8) (h : p b = false) (r : List UInt8) : ∀ l : List UInt8, (l ++ b :: r).takeWhile p = l.takeWhile p := by
  intro l
  induction l with
  | nil => rw [List.nil_append, List.takeWhile_cons, if_neg (by simp [h])]; rfl
  | cons c l ih =>
    rw [List.cons_append, List.takeWhile_cons, List.takeWhile_cons, ih]
theorem takeWhile_of_all (p : UInt8 → Bool) : ∀ l : List UInt8, l.all p = true → l.takeWhile p = l := by
  intro l
  induction l with
  | nil => intro _; rfl
  | cons c l ih =>
    intro h
    simp only [List.all_cons, Bool.and_eq_true] at h
    rw [List.takeWhile_cons, if_pos h.1, ih h.2]
theorem takeWhile_take_le (p : UInt8 → Bool) : ∀ (l : List UInt8) (n : Nat), (l.takeWhile p).length ≤ n → (l.take n).takeWhile p = l.takeWhile p := by
  intro l
  induction l with
  | nil => intro n _; simp
  | cons c l ih =>
    intro n h
    rw [List.takeWhile_cons] at h ⊢
    by_cases hc : p c = true
    · rw [if_pos hc] at h ⊢
      simp only [List.length_cons] at h
      obtain ⟨m, rfl⟩ : ∃ m, n = m + 1 := ⟨n - 1, by omega⟩
      rw [List.take_succ_cons, List.takeWhile_cons, if_pos hc, ih m (by omega)]
    · rw [if_neg hc]
      cases n with
      | zero => rfl
      | succ n => rw [List.take_succ_cons, List.takeWhile_cons, if_neg hc]
theorem headD_append_stop (b : UInt8) (r l : List UInt8) : (l ++ b :: r).headD 0 = if l = [] then b else l.headD 0 := by
  cases l <;> simp

/-- A byte that ends whatever token stands before it. -/
def stops (b : UInt8) : Prop := isIns b = false ∧ isDig b = false ∧ b.toNat ≠ 62
theorem stops_eol : stops 10 := by unfold stops; decide
theorem tokR_append (c : UInt8) (l : List UInt8) (b : UInt8) (hb : stops b) (r : List UInt8) : tokR (c :: l ++ b :: r) = tokR (c :: l) := by
  obtain ⟨h1, h2, h3⟩ := hb
  have e1 : (c :: (l ++ b :: r)).takeWhile isIns = (c :: l).takeWhile isIns := takeWhile_append_stop isIns b h1 r (c :: l)
  have e2 : (l ++ b :: r).takeWhile isDig = l.takeWhile isDig := takeWhile_append_stop isDig b h2 r l
  have z1 : isDig 0 = false := by decide
  have e3 : (isDig ((l ++ b :: r).headD 0) = true) = (isDig (l.headD 0) = true) := by
    rw [headD_append_stop]
    split
    · rename_i h; rw [h, h2]; simp [z1]
    · rfl
  have e4 : (((l ++ b :: r).headD 0).toNat = 62) = ((l.headD 0).toNat = 62) := by
    rw [headD_append_stop]
    split
    · rename_i h; rw [h]; simp [h3]
    · rfl
  rw [List.cons_append]
  rw [tokR_cons, tokR_cons]
  simp only [e1, e2, e3, e4]

theorem lexL_shift : ∀ (n d p : Nat) (l : List UInt8), l.length ≤ n → lexL (p + d) l = (((lexL p l).1.map fun t => { t with at_ := t.at_ + d }), (lexL p l).2.map fun e => (e.1, e.2 + d)) := by
  intro n
  induction n with
  | zero =>
    intro d p l h
    obtain rfl : l = [] := List.eq_nil_of_length_eq_zero (by omega)
    rfl
  | succ n ih =>
    intro d p l h
    cases l with
    | nil => rfl
    | cons c r =>
      simp only [List.length_cons] at h
      cases h1 : isBlk c with
      | true =>
        rw [lexL_blank _ _ _ h1, lexL_blank _ _ _ h1, show p + d + 1 = p + 1 + d by omega, ih d (p + 1) r (by omega)]
      | false =>
        by_cases h2 : c.toNat = 35
        · rw [lexL_hash _ _ _ h2, lexL_hash _ _ _ h2, show p + d + 1 + (r.takeWhile notEol).length = p + 1 + (r.takeWhile notEol).length + d by omega,
            ih d _ _ (by rw [List.length_drop]; omega)]
        · cases ht : tokR (c :: r) with
          | bad e => rw [lexL_bad _ _ _ h1 h2 ht, lexL_bad _ _ _ h1 h2 ht]; rfl
          | good s t m k =>
            have hk := tokR_len ht
            simp only [List.length_cons] at hk
            rw [lexL_good _ _ _ h1 h2 ht, lexL_good _ _ _ h1 h2 ht, show p + d + k = p + k + d by omega, ih d _ _ (by rw [List.length_drop, List.length_cons]; omega)]
            rfl

/-- Two texts with a line's end between them. -/
theorem lexL_join : ∀ (n p : Nat) (a b : List UInt8), a.length ≤ n →
    lexL p (a ++ 10 :: b) = match (lexL p a).2 with
      | some e => ((lexL p a).1, some e)
      | none => ((lexL p a).1 ++ (lexL (p + a.length + 1) b).1, (lexL (p + a.length + 1) b).2) := by
  intro n
  induction n with
  | zero =>
    intro p a b h
    obtain rfl : a = [] := List.eq_nil_of_length_eq_zero (by omega)
    rw [List.nil_append, lexL_blank p 10 b (by decide)]
    rfl
  | succ n ih =>
    intro p a b h
    cases a with
    | nil => rw [List.nil_append, lexL_blank p 10 b (by decide)]; rfl
    | cons c r =>
      simp only [List.length_cons] at h
      cases h1 : isBlk c with
      | true =>
        rw [List.cons_append, lexL_blank _ _ _ h1, lexL_blank _ _ _ h1, ih (p + 1) r b (by omega)]
        rw [List.length_cons, show p + (r.length + 1) + 1 = p + 1 + r.length + 1 by omega]
      | false =>
        by_cases h2 : c.toNat = 35
        · have hs : (r ++ 10 :: b).takeWhile notEol = r.takeWhile notEol := takeWhile_append_stop notEol 10 (by decide) b r
          have hle := takeWhile_le notEol r
          rw [List.cons_append, lexL_hash _ _ _ h2, lexL_hash _ _ _ h2, hs, List.drop_append_of_le_length hle, ih _ _ b (by rw [List.length_drop]; omega), List.length_drop, List.length_cons,
            show p + 1 + (r.takeWhile notEol).length + (r.length - (r.takeWhile notEol).length) + 1 = p + (r.length + 1) + 1 by omega]
        · have ha := tokR_append c r 10 stops_eol b
          rw [List.cons_append] at ha
          cases ht : tokR (c :: r) with
          | bad e =>
            rw [ht] at ha
            rw [List.cons_append, lexL_bad _ _ _ h1 h2 ha, lexL_bad _ _ _ h1 h2 ht]
          | good s t m k =>
            rw [ht] at ha
            have hk := tokR_len ht
            have hd : (c :: (r ++ 10 :: b)).drop k = (c :: r).drop k ++ 10 :: b := by
              rw [← List.cons_append, List.drop_append_of_le_length hk.2]
            rw [List.cons_append, lexL_good _ _ _ h1 h2 ha, lexL_good _ _ _ h1 h2 ht, hd, ih _ _ b (by rw [List.length_drop, List.length_cons]; omega)]
            have hl : p + k + ((c :: r).drop k).length + 1 = p + (c :: r).length + 1 := by rw [List.length_drop]; omega
            rw [hl]
            cases (lexL (p + k) ((c :: r).drop k)).2 <;> rfl

theorem tokR_take {l : List UInt8} {s n : Int} {t : List UInt8} {k : Nat} (h : tokR l = .good s t n k) (m : Nat) (hm : k ≤ m) : tokR (l.take m) = .good s t n k := by
  cases l with
  | nil => cases h
  | cons c r =>
    have hk := tokR_len h
    obtain ⟨m, rfl⟩ : ∃ j, m = j + 1 := ⟨m - 1, by omega⟩
    rw [List.take_succ_cons]
    have z1 : isDig 0 = false := by decide
    have hh : ∀ q : UInt8 → Prop, ¬ q 0 → (q ((r.take m).headD 0) → q (r.headD 0)) := by
      intro q h0 hq
      cases r with
      | nil => simpa using hq
      | cons d r =>
        cases m with
        | zero => exact absurd (by simpa using hq) h0
        | succ m => simpa using hq
    have hh2 : 1 ≤ m → (r.take m).headD 0 = r.headD 0 := by
      intro h1
      cases r with
      | nil => simp
      | cons d r =>
        obtain ⟨j, rfl⟩ : ∃ j, m = j + 1 := ⟨m - 1, by omega⟩
        simp
    rw [tokR_cons] at h ⊢
    by_cases c1 : isLet c = true
    · rw [if_pos c1] at h ⊢
      split at h
      · cases h
      · rename_i h16
        cases h
        have e : (c :: r.take m).takeWhile isIns = (c :: r).takeWhile isIns := by
          have := takeWhile_take_le isIns (c :: r) (m + 1) (by omega)
          rwa [List.take_succ_cons] at this
        rw [e, if_neg h16]
    · rw [if_neg c1] at h ⊢
      by_cases c2 : isDig c = true ∨ (c.toNat = 45 ∧ isDig (r.headD 0) = true)
      · rw [if_pos c2] at h
        split at h
        · rename_i v hv
          cases h
          have e : (r.take m).takeWhile isDig = r.takeWhile isDig := takeWhile_take_le isDig r m (by omega)
          have c2' : isDig c = true ∨ (c.toNat = 45 ∧ isDig ((r.take m).headD 0) = true) := by
            rcases c2 with c2 | ⟨c2, c3⟩
            · exact Or.inl c2
            · refine Or.inr ⟨c2, ?_⟩
              have h1 : 1 ≤ (r.takeWhile isDig).length := by
                obtain ⟨r', e⟩ := headD_some r (fun e => by rw [e] at c3; exact absurd c3 (by decide))
                rw [e, List.takeWhile_cons]
                rw [if_pos c3]; simp
              rw [hh2 (by omega)]; exact c3
          rw [if_pos c2', e, hv]
        · cases h
      · rw [if_neg c2] at h
        have c2' : ¬ (isDig c = true ∨ (c.toNat = 45 ∧ isDig ((r.take m).headD 0) = true)) := by
          rintro (x | ⟨x, y⟩)
          · exact c2 (Or.inl x)
          · exact c2 (Or.inr ⟨x, hh (fun b => isDig b = true) (by simp [z1]) y⟩)
        rw [if_neg c2']
        by_cases c3 : c.toNat = 45 ∧ (r.headD 0).toNat = 62
        · rw [if_pos c3] at h
          cases h
          rw [if_pos ⟨c3.1, by rw [hh2 (by omega)]; exact c3.2⟩]
        · rw [if_neg c3] at h
          have c3' : ¬ (c.toNat = 45 ∧ ((r.take m).headD 0).toNat = 62) := by
            rintro ⟨x, y⟩
            exact c3 ⟨x, hh (fun b => b.toNat = 62) (by decide) y⟩
          rw [if_neg c3']
          split at h
          · rename_i c4
            cases h
            rw [if_pos c4]
          · cases h

/-- Places: a token's is that of its first byte, or further on. -/
theorem lexL_ge : ∀ (n p : Nat) (l : List UInt8), l.length ≤ n → (∀ t ∈ (lexL p l).1, p ≤ t.at_ ∧ t.at_ < p + l.length) ∧ (∀ c a, (lexL p l).2 = some (c, a) → p ≤ a ∧ a < p + l.length) := by
  intro n
  induction n with
  | zero =>
    intro p l h
    obtain rfl : l = [] := List.eq_nil_of_length_eq_zero (by omega)
    rw [lexL_nil]
    exact ⟨by simp, by simp⟩
  | succ n ih =>
    intro p l h
    cases l with
    | nil => rw [lexL_nil]; exact ⟨by simp, by simp⟩
    | cons c r =>
      simp only [List.length_cons] at h
      cases h1 : isBlk c with
      | true =>
        rw [lexL_blank _ _ _ h1, List.length_cons]
        obtain ⟨i1, i2⟩ := ih (p + 1) r (by omega)
        exact ⟨fun t ht => by have := i1 t ht; omega, fun c a hca => by have := i2 c a hca; omega⟩
      | false =>
        by_cases h2 : c.toNat = 35
        · rw [lexL_hash _ _ _ h2, List.length_cons]
          have hle := takeWhile_le notEol r
          obtain ⟨i1, i2⟩ := ih (p + 1 + (r.takeWhile notEol).length) (r.drop (r.takeWhile notEol).length) (by rw [List.length_drop]; omega)
          rw [List.length_drop] at i1 i2
          exact ⟨fun t ht => by have := i1 t ht; omega, fun c a hca => by have := i2 c a hca; omega⟩
        · cases ht : tokR (c :: r) with
          | bad e =>
            rw [lexL_bad _ _ _ h1 h2 ht, List.length_cons]
            refine ⟨by simp, fun c a hca => ?_⟩
            cases hca; omega
          | good s t m k =>
            have hk := tokR_len ht
            simp only [List.length_cons] at hk
            rw [lexL_good _ _ _ h1 h2 ht, List.length_cons]
            obtain ⟨i1, i2⟩ := ih (p + k) ((c :: r).drop k) (by rw [List.length_drop, List.length_cons]; omega)
            rw [List.length_drop, List.length_cons] at i1 i2
            refine ⟨fun t ht => ?_, fun c a hca => by have := i2 c a hca; omega⟩
            rcases List.mem_cons.1 ht with rfl | ht
            · simp only; omega
            · have := i1 t ht; omega

/-- What stands ahead of an error's place, or of a token, is read. -/
theorem lexL_ahead : ∀ (n p : Nat) (l : List UInt8), l.length ≤ n →
    (∀ c a, (lexL p l).2 = some (c, a) → lexL p (l.take (a - p)) = ((lexL p l).1, none)) ∧
    (∀ i t, (lexL p l).1[i]? = some t → lexL p (l.take (t.at_ - p)) = ((lexL p l).1.take i, none)) := by
  intro n
  induction n with
  | zero =>
    intro p l h
    obtain rfl : l = [] := List.eq_nil_of_length_eq_zero (by omega)
    rw [lexL_nil]
    exact ⟨by simp, by simp⟩
  | succ n ih =>
    intro p l h
    have hge := lexL_ge _ p l (Nat.le_refl _)
    cases l with
    | nil => rw [lexL_nil]; exact ⟨by simp, by simp⟩
    | cons c r =>
      simp only [List.length_cons] at h
      cases h1 : isBlk c with
      | true =>
        have hg := lexL_ge _ (p + 1) r (Nat.le_refl _)
        rw [lexL_blank _ _ _ h1]
        obtain ⟨i1, i2⟩ := ih (p + 1) r (by omega)
        refine ⟨fun e a hea => ?_, fun i t hit => ?_⟩
        · have := hg.2 e a hea
          obtain ⟨j, hj⟩ : ∃ j, a - p = j + 1 := ⟨a - p - 1, by omega⟩
          rw [hj, List.take_succ_cons, lexL_blank _ _ _ h1, show j = a - (p + 1) by omega]
          exact i1 e a hea
        · have := hg.1 t (List.mem_of_getElem? hit)
          obtain ⟨j, hj⟩ : ∃ j, t.at_ - p = j + 1 := ⟨t.at_ - p - 1, by omega⟩
          rw [hj, List.take_succ_cons, lexL_blank _ _ _ h1, show j = t.at_ - (p + 1) by omega]
          exact i2 i t hit
      | false =>
        by_cases h2 : c.toNat = 35
        · obtain ⟨m, hm⟩ : ∃ m, (r.takeWhile notEol).length = m := ⟨_, rfl⟩
          have hg := lexL_ge _ (p + 1 + m) (r.drop m) (Nat.le_refl _)
          obtain ⟨i1, i2⟩ := ih (p + 1 + m) (r.drop m) (by rw [List.length_drop]; omega)
          have key : ∀ q, p + 1 + m ≤ q → lexL p ((c :: r).take (q - p)) = lexL (p + 1 + m) ((r.drop m).take (q - (p + 1 + m))) := by
            intro q hq
            obtain ⟨j, hj⟩ : ∃ j, q - p = j + 1 := ⟨q - p - 1, by omega⟩
            rw [hj, List.take_succ_cons, lexL_hash _ _ _ h2, takeWhile_take_le notEol r j (by omega), hm, List.drop_take, show j - m = q - (p + 1 + m) by omega]
          rw [lexL_hash _ _ _ h2, hm]
          refine ⟨fun e a hea => ?_, fun i t hit => ?_⟩
          · have := hg.2 e a hea
            rw [key a (by omega)]
            exact i1 e a hea
          · have := hg.1 t (List.mem_of_getElem? hit)
            rw [key _ (by omega)]
            exact i2 i t hit
        · cases ht : tokR (c :: r) with
          | bad e =>
            rw [lexL_bad _ _ _ h1 h2 ht]
            refine ⟨fun c a hca => ?_, by simp⟩
            cases hca
            rw [Nat.sub_self]; rfl
          | good s t m k =>
            have hk := tokR_len ht
            have hg := lexL_ge _ (p + k) ((c :: r).drop k) (Nat.le_refl _)
            obtain ⟨i1, i2⟩ := ih (p + k) ((c :: r).drop k) (by rw [List.length_drop, List.length_cons]; omega)
            have key : ∀ q, p + k ≤ q → lexL p ((c :: r).take (q - p)) = (⟨s, t, m, p⟩ :: (lexL (p + k) (((c :: r).drop k).take (q - (p + k)))).1, (lexL (p + k) (((c :: r).drop k).take (q - (p + k)))).2) := by
              intro q hq
              have ht2 := tokR_take ht (q - p) (by omega)
              obtain ⟨j, hj⟩ : ∃ j, q - p = j + 1 := ⟨q - p - 1, by omega⟩
              rw [hj, List.take_succ_cons] at ht2
              rw [hj, List.take_succ_cons, lexL_good _ _ _ h1 h2 ht2, ← List.take_succ_cons, List.drop_take, show j + 1 - k = q - (p + k) by omega]
            rw [lexL_good _ _ _ h1 h2 ht]
            refine ⟨fun e a hea => ?_, fun i t' hit => ?_⟩
            · have := hg.2 e a hea
              rw [key a (by omega), i1 e a hea]
            · cases i with
              | zero =>
                simp only [List.getElem?_cons_zero, Option.some.injEq] at hit
                subst hit
                rw [Nat.sub_self]; rfl
              | succ i =>
                simp only [List.getElem?_cons_succ] at hit
                have := hg.1 t' (List.mem_of_getElem? hit)
                rw [key _ (by omega), i2 i t' hit]; rfl

/-- A name, in bytes. -/
def nameU : List UInt8 → Bool
  | [] => false
  | c :: r => isLet c && (r.all isIns && decide (r.length ≤ 15))
theorem nameB_eq (s : ByteArray) : nameB s = nameU s.data.toList := by
  unfold nameB bytesN
  cases s.data.toList with
  | nil => rfl
  | cons c r =>
    simp only [List.map_cons, nameL, nameU, List.all_map, List.length_map]
    rfl
theorem tokR_name (c : UInt8) (r : List UInt8) (h : nameU (c :: r) = true) : tokR (c :: r) = .good 1 (c :: r) 0 (r.length + 1) := by
  simp only [nameU, Bool.and_eq_true, decide_eq_true_iff] at h
  have hi : isIns c = true := (isIns_iff c).2 (Or.inl h.1)
  have e : (c :: r).takeWhile isIns = c :: r := takeWhile_of_all _ _ (by simp only [List.all_cons, hi, h.2.1, Bool.and_self])
  rw [tokR_cons]
  rw [if_pos h.1, e, if_neg (by simp only [List.length_cons]; omega)]
  rfl
theorem tokR_word {l t : List UInt8} {n : Int} {k : Nat} (h : tokR l = .good 1 t n k) : n = 0 ∧ nameU t = true := by
  cases l with
  | nil => cases h
  | cons c r =>
    rw [tokR_cons] at h
    split at h
    · rename_i c1
      split at h
      · cases h
      · rename_i h16
        cases h
        refine ⟨rfl, ?_⟩
        have hi : isIns c = true := (isIns_iff c).2 (Or.inl c1)
        have ha := takeWhile_all isIns r
        rw [List.takeWhile_cons, if_pos hi] at h16 ⊢
        simp only [List.length_cons] at h16
        simp only [nameU, c1, ha, Bool.true_and, decide_eq_true_iff]
        omega
    · split at h
      · split at h <;> cases h
      · split at h
        · cases h
        · split at h <;> cases h
theorem nameU_head {c : UInt8} {r : List UInt8} (h : nameU (c :: r) = true) : isBlk c = false ∧ c.toNat ≠ 35 := by
  simp only [nameU, Bool.and_eq_true] at h
  have := (isLet_iff c).1 h.1
  refine ⟨?_, by omega⟩
  unfold isBlk
  rw [decide_eq_false_iff_not]
  omega
/-- A name is what is read as one word, from its first byte to its last one. -/
theorem named_iff (l : List UInt8) : nameU l = true ↔ ((lexA l).2 = (0, 0) ∧ (lexA l).1.length = 2 ∧ (lexA l).1[0]? = some ⟨1, l, 0, 0⟩) := by
  constructor
  · intro h
    cases l with
    | nil => cases h
    | cons c r =>
      have ht := tokR_name c r h
      obtain ⟨h1, h2⟩ := nameU_head h
      have hL := lexL_good 0 c r h1 h2 ht
      rw [show (c :: r).drop (r.length + 1) = [] by rw [List.drop_eq_nil_iff]; simp, lexL_nil] at hL
      have hlen : r.length ≤ 15 := by
        simp only [nameU, Bool.and_eq_true, decide_eq_true_iff] at h; exact h.2.2
      unfold lexA
      rw [if_neg (by simp only [List.length_cons]; omega), hL]
      exact ⟨rfl, rfl, rfl⟩
  · rintro ⟨h1, h2, h3⟩
    unfold lexA at h1 h2 h3
    split at h1
    · cases h1
    · rename_i hlen
      rw [if_neg hlen] at h2 h3
      cases hx : lexL 0 l with
      | mk ts e =>
        rw [hx] at h1 h2 h3
        cases e with
        | some e =>
          obtain ⟨x, y⟩ := e
          simp only [List.length_nil] at h2
          omega
        | none =>
          simp only [List.length_append, List.length_singleton] at h2 h3
          cases ts with
          | nil => simp at h2
          | cons t ts =>
            simp only [List.cons_append, List.getElem?_cons_zero, Option.some.injEq] at h3
            subst h3
            cases l with
            | nil => rw [lexL_nil] at hx; cases hx
            | cons c r =>
              cases k1 : isBlk c with
              | true =>
                rw [lexL_blank _ _ _ k1] at hx
                have := (lexL_ge _ 1 r (Nat.le_refl _)).1 ⟨1, c :: r, 0, 0⟩ (by rw [show (0 + 1 : Nat) = 1 from rfl] at hx; rw [hx]; simp)
                simp at this
              | false =>
                by_cases k2 : c.toNat = 35
                · rw [lexL_hash _ _ _ k2] at hx
                  have := (lexL_ge _ _ _ (Nat.le_refl _)).1 ⟨1, c :: r, 0, 0⟩ (by rw [hx]; simp)
                  simp at this
                · cases ht : tokR (c :: r) with
                  | bad e => rw [lexL_bad _ _ _ k1 k2 ht] at hx; cases hx
                  | good s t m k =>
                    rw [lexL_good _ _ _ k1 k2 ht] at hx
                    simp only [Prod.mk.injEq, List.cons.injEq, LTok.mk.injEq] at hx
                    obtain ⟨⟨⟨rfl, rfl, rfl, _⟩, _⟩, _⟩ := hx
                    exact (tokR_word ht).2

/-- May a token stand in a text? -/
def markU (t : List UInt8) : Bool := decide (t = [123] ∨ t = [125] ∨ t = [61] ∨ t = [59] ∨ t = [46] ∨ t = [45, 62])
def LTok.right (t : LTok) : Bool :=
  if t.sort = 1 then decide (t.num = 0) && nameU t.text
  else if t.sort = 2 then decide (t.text = [])
  else if t.sort = 3 then decide (t.num = 0) && markU t.text
  else false
theorem tokR_sort {l : List UInt8} {s n : Int} {t : List UInt8} {k : Nat} (h : tokR l = .good s t n k) : (s = 1 ∨ s = 2 ∨ s = 3) ∧ (LTok.mk s t n 0).right = true ∧ -9223372036854775808 ≤ n ∧ n ≤ 9223372036854775807 := by
  cases l with
  | nil => cases h
  | cons c r =>
    have hw : s = 1 → n = 0 ∧ nameU t = true := fun e => by subst e; exact tokR_word h
    rw [tokR_cons] at h
    split at h
    · split at h
      · cases h
      · cases h
        obtain ⟨_, h2⟩ := hw rfl
        refine ⟨Or.inl rfl, ?_, by omega, by omega⟩
        simp [LTok.right, h2]
    · split at h
      · split at h
        · rename_i m hm
          cases h
          exact ⟨Or.inr (Or.inl rfl), rfl, numB_rng _ _ hm⟩
        · cases h
      · split at h
        · cases h; exact ⟨Or.inr (Or.inr rfl), rfl, by omega, by omega⟩
        · split at h
          · rename_i hm
            cases h
            refine ⟨Or.inr (Or.inr rfl), ?_, by omega, by omega⟩
            unfold isMrk at hm
            rw [decide_eq_true_iff] at hm
            have e : ∀ k : Nat, ∀ x : UInt8, x.toNat = k → [x] = [UInt8.ofNat k] := by
              intro k x hx; subst hx; rw [UInt8.ofNat_toNat]
            have : markU [c] = true := by
              unfold markU
              rw [decide_eq_true_iff]
              rcases hm with hm | hm | hm | hm | hm
              · exact Or.inl (e _ _ hm)
              · exact Or.inr (Or.inl (e _ _ hm))
              · exact Or.inr (Or.inr (Or.inl (e _ _ hm)))
              · exact Or.inr (Or.inr (Or.inr (Or.inl (e _ _ hm))))
              · exact Or.inr (Or.inr (Or.inr (Or.inr (Or.inl (e _ _ hm)))))
            simp [LTok.right, this]
          · cases h

/-- Each token stands where it says, as it is written; they follow one another. -/
def Placed (l : List UInt8) : Nat → List LTok → Prop
  | _, [] => True
  | a, t :: r => a ≤ t.at_ ∧ t.at_ + t.spelt.length ≤ l.length ∧ (l.drop t.at_).take t.spelt.length = t.spelt ∧ t.sort ≠ 0 ∧ t.right = true ∧ (-9223372036854775808 ≤ t.num ∧ t.num ≤ 9223372036854775807) ∧ Placed l (t.at_ + t.spelt.length) r
theorem Placed.mono {l : List UInt8} {a b : Nat} (h : a ≤ b) : ∀ {ts : List LTok}, Placed l b ts → Placed l a ts
  | [], _ => trivial
  | t :: r, hp => ⟨Nat.le_trans h hp.1, hp.2⟩
theorem lexL_placed (L : List UInt8) : ∀ (n p : Nat) (l : List UInt8), l.length ≤ n → l = L.drop p → p ≤ L.length → Placed L p (lexL p l).1 := by
  intro n
  induction n with
  | zero =>
    intro p l h _ _
    obtain rfl : l = [] := List.eq_nil_of_length_eq_zero (by omega)
    rw [lexL_nil]; trivial
  | succ n ih =>
    intro p l h hl hp
    cases l with
    | nil => rw [lexL_nil]; trivial
    | cons c r =>
      have hlen := congrArg List.length hl
      simp only [List.length_cons, List.length_drop] at h hlen
      have hdrop : ∀ j, (c :: r).drop j = L.drop (p + j) := fun j => by rw [hl, List.drop_drop]
      have hr : r = L.drop (p + 1) := by rw [← hdrop 1]; rfl
      cases h1 : isBlk c with
      | true =>
        rw [lexL_blank _ _ _ h1]
        exact (ih (p + 1) r (by omega) hr (by omega)).mono (by omega)
      | false =>
        by_cases h2 : c.toNat = 35
        · have hle := takeWhile_le notEol r
          rw [lexL_hash _ _ _ h2]
          exact (ih _ _ (by rw [List.length_drop]; omega) (by rw [hr, List.drop_drop]) (by omega)).mono (by omega)
        · cases ht : tokR (c :: r) with
          | bad e => rw [lexL_bad _ _ _ h1 h2 ht]; trivial
          | good s t m k =>
            have hk := tokR_len ht
            have hs := tokR_spelt ht
            obtain ⟨so, ri, rg⟩ := tokR_sort ht
            simp only [List.length_cons] at hk
            have hsl : (LTok.mk s t m p).spelt.length = k := by
              show (LTok.mk s t m 0).spelt.length = k
              rw [hs, List.length_take, List.length_cons]; omega
            rw [lexL_good _ _ _ h1 h2 ht]
            refine ⟨Nat.le_refl _, by show p + (LTok.mk s t m p).spelt.length ≤ _; rw [hsl]; omega, ?_, by rcases so with e | e | e <;> (simp only [e]; decide), ri, rg, ?_⟩
            · rw [hsl]
              show (L.drop p).take k = (LTok.mk s t m 0).spelt
              rw [← hl, hs]
            · rw [hsl]
              show Placed L (p + k) _
              exact ih (p + k) _ (by rw [List.length_drop, List.length_cons]; omega) (hdrop k) (by omega)

/-- What is written between two tokens. -/
def gapU (k : Nat) : List UInt8 := if k % 5 = 1 then [10] else if k % 5 = 2 then [9, 32, 13] else if k % 5 = 3 then [35, 120, 32, 45, 49, 32, 35, 10] else [32]
theorem gapU_len (k : Nat) : (gapU k).length ≤ 8 := by
  unfold gapU
  split
  · simp
  · split
    · simp
    · split <;> simp
theorem lexL_gap (k p : Nat) (l : List UInt8) : lexL p (gapU k ++ l) = lexL (p + (gapU k).length) l := by
  unfold gapU
  split
  · exact lexL_blank p 10 l (by decide)
  · split
    · show lexL p (9 :: 32 :: 13 :: l) = _
      rw [lexL_blank _ _ _ (by decide), lexL_blank _ _ _ (by decide), lexL_blank _ _ _ (by decide)]; rfl
    · split
      · show lexL p (35 :: ([120, 32, 45, 49, 32, 35] ++ 10 :: l)) = _
        rw [lexL_hash _ _ _ (by decide), takeWhile_append_stop notEol 10 (by decide) l, takeWhile_of_all notEol _ (by decide)]
        show lexL (p + 1 + 6) (10 :: l) = _
        rw [lexL_blank _ _ _ (by decide)]; rfl
      · exact lexL_blank p 32 l (by decide)
theorem gapU_head (k : Nat) : ∃ b r, gapU k = b :: r ∧ stops b := by
  unfold gapU stops
  split
  · exact ⟨_, _, rfl, by decide⟩
  · split
    · exact ⟨_, _, rfl, by decide⟩
    · split
      · exact ⟨_, _, rfl, by decide⟩
      · exact ⟨_, _, rfl, by decide⟩
theorem isDig_let {c : UInt8} (h : isDig c = true) : isLet c = false ∧ isBlk c = false ∧ c.toNat ≠ 35 := by
  have := (isDig_iff c).1 h
  refine ⟨?_, ?_, by omega⟩
  · cases e : isLet c with
    | false => rfl
    | true => have := (isLet_iff c).1 e; omega
  · unfold isBlk; rw [decide_eq_false_iff_not]; omega
/-- A token that may be, as it is written, is read as it is. -/
theorem tokR_back (t : LTok) (hr : t.right = true) (hn : -9223372036854775808 ≤ t.num ∧ t.num ≤ 9223372036854775807) :
    ∃ c r, t.spelt = c :: r ∧ isBlk c = false ∧ c.toNat ≠ 35 ∧ tokR (c :: r) = .good t.sort t.text t.num (r.length + 1) := by
  obtain ⟨s, x, m, a⟩ := t
  unfold LTok.right at hr
  simp only at hr hn
  split at hr
  · rename_i hs
    subst hs
    simp only [Bool.and_eq_true, decide_eq_true_iff] at hr
    obtain ⟨rfl, hx⟩ := hr
    cases x with
    | nil => cases hx
    | cons c r =>
      obtain ⟨h1, h2⟩ := nameU_head hx
      exact ⟨c, r, rfl, h1, h2, tokR_name c r hx⟩
  · split at hr
    · rename_i _ hs
      subst hs
      rw [decide_eq_true_iff] at hr
      subst hr
      have hb := numB_itoa m hn.1 hn.2
      show ∃ c r, Lib.itoa m = c :: r ∧ _
      by_cases hm : 0 ≤ m
      · obtain ⟨k, rfl⟩ := Int.eq_ofNat_of_zero_le hm
        have hall := decDigits_all k k (Nat.le_refl _)
        rw [Lib.itoa_nonneg] at hb ⊢
        cases hd : Lib.decDigits k with
        | nil => exact absurd hd (decDigits_ne k)
        | cons c r =>
          rw [hd] at hall hb
          simp only [List.all_cons, Bool.and_eq_true] at hall
          obtain ⟨d1, d2, d3⟩ := isDig_let hall.1
          refine ⟨c, r, rfl, d2, d3, ?_⟩
          rw [tokR_cons, if_neg (by rw [d1]; simp), if_pos (Or.inl hall.1), takeWhile_of_all _ _ hall.2, hb]
      · obtain ⟨k, rfl⟩ : ∃ k : Nat, m = -(k : Int) := ⟨m.natAbs, by omega⟩
        have hall := decDigits_all k k (Nat.le_refl _)
        rw [Lib.itoa_neg k (by omega)] at hb ⊢
        refine ⟨45, Lib.decDigits k, rfl, by decide, by decide, ?_⟩
        have hh : isDig ((Lib.decDigits k).headD 0) = true := by
          cases hd : Lib.decDigits k with
          | nil => exact absurd hd (decDigits_ne k)
          | cons c r =>
            rw [hd] at hall
            simp only [List.all_cons, Bool.and_eq_true] at hall
            exact hall.1
        rw [tokR_cons, if_neg (by decide), if_pos (Or.inr ⟨by decide, hh⟩), takeWhile_of_all _ _ hall, hb]
    · split at hr
      · rename_i _ _ hs
        subst hs
        simp only [Bool.and_eq_true, decide_eq_true_iff] at hr
        obtain ⟨rfl, hx⟩ := hr
        unfold markU at hx
        rw [decide_eq_true_iff] at hx
        rcases hx with rfl | rfl | rfl | rfl | rfl | rfl
        · exact ⟨123, [], rfl, by decide, by decide, by rfl⟩
        · exact ⟨125, [], rfl, by decide, by decide, by rfl⟩
        · exact ⟨61, [], rfl, by decide, by decide, by rfl⟩
        · exact ⟨59, [], rfl, by decide, by decide, by rfl⟩
        · exact ⟨46, [], rfl, by decide, by decide, by rfl⟩
        · exact ⟨45, [62], rfl, by decide, by decide, by rfl⟩
      · cases hr
theorem lexL_back (t : LTok) (hr : t.right = true) (hn : -9223372036854775808 ≤ t.num ∧ t.num ≤ 9223372036854775807) (k p : Nat) (l : List UInt8) :
    lexL p (t.spelt ++ gapU k ++ l) = ({ t with at_ := p } :: (lexL (p + t.spelt.length + (gapU k).length) l).1, (lexL (p + t.spelt.length + (gapU k).length) l).2) := by
  obtain ⟨c, r, hs, h1, h2, ht⟩ := tokR_back t hr hn
  obtain ⟨b, g, hg, hb⟩ := gapU_head k
  have ha := tokR_append c r b hb (g ++ l)
  rw [ht] at ha
  have hx : t.spelt ++ gapU k ++ l = c :: (r ++ b :: (g ++ l)) := by rw [hs, hg]; simp
  rw [List.cons_append] at ha
  rw [hx, lexL_good _ _ _ h1 h2 ha]
  have hd : (c :: (r ++ b :: (g ++ l))).drop (r.length + 1) = gapU k ++ l := by
    rw [List.drop_succ_cons, List.drop_left, hg, List.cons_append]
  rw [hd, lexL_gap, hs, List.length_cons]
end Go.Proofs.YtohalcbhckahmaaDoor
