/-
  Layer 4, plain: what a number is made of, as the document's value and as the library's numeral. No program text in sight.
-/
import Derived.Test.YtohalcbhckahmaaDoorGrP
import Derived.Lib.ItoaMem
import Derived.Lib.ItoaLen
import Derived.Lib.ParseIntBTie
namespace Go.Proofs.YtohalcbhckahmaaDoor
open Go
set_option linter.all false

def isLet (b : UInt8) : Bool := letterB (b.toNat : Int)
def isDig (b : UInt8) : Bool := digitB (b.toNat : Int)
def isIns (b : UInt8) : Bool := insideB (b.toNat : Int)

theorem isDig_iff (b : UInt8) : isDig b = true ↔ 48 ≤ b.toNat ∧ b.toNat ≤ 57 := by
  unfold isDig digitB
  rw [decide_eq_true_iff]
  omega

/-- What digits spell behind what the digits before them spell. -/
def valA (a : Nat) (l : List UInt8) : Nat := l.foldl (fun a b => a * 10 + (b.toNat - 48)) a
theorem valA_cons (a : Nat) (c : UInt8) (r : List UInt8) : valA a (c :: r) = valA (a * 10 + (c.toNat - 48)) r := by unfold valA; rw [List.foldl_cons]
theorem valA_nil (a : Nat) : valA a [] = a := rfl
theorem valA_le : ∀ (l : List UInt8) (a : Nat), a ≤ valA a l := by
  intro l
  induction l with
  | nil => intro a; exact Nat.le_refl _
  | cons c r ih => intro a; rw [valA_cons]; exact Nat.le_trans (by omega) (ih _)
theorem valA_snoc (a : Nat) (l : List UInt8) (c : UInt8) : valA a (l ++ [c]) = valA a l * 10 + (c.toNat - 48) := by
  unfold valA; rw [List.foldl_append]; rfl
theorem valA_lt : ∀ (l : List UInt8) (a : Nat), l.all isDig = true → valA a l < (a + 1) * 10 ^ l.length := by
  intro l
  induction l with
  | nil => intro a _; simp [valA_nil]
  | cons c r ih =>
    intro a h
    simp only [List.all_cons, Bool.and_eq_true] at h
    have hc := (isDig_iff c).1 h.1
    have := ih (a * 10 + (c.toNat - 48)) h.2
    rw [valA_cons, List.length_cons, Nat.pow_succ]
    refine Nat.lt_of_lt_of_le this ?_
    have h10 : a * 10 + (c.toNat - 48) + 1 ≤ (a + 1) * 10 := by omega
    have := Nat.mul_le_mul_right (10 ^ r.length) h10
    rw [Nat.mul_assoc, Nat.mul_comm 10] at this
    exact this
theorem valA_ge : ∀ (l : List UInt8) (a : Nat), a * 10 ^ l.length ≤ valA a l := by
  intro l
  induction l with
  | nil => intro a; simp [valA_nil]
  | cons c r ih =>
    intro a
    have := ih (a * 10 + (c.toNat - 48))
    rw [valA_cons, List.length_cons, Nat.pow_succ]
    refine Nat.le_trans ?_ this
    have h10 : a * 10 ≤ a * 10 + (c.toNat - 48) := by omega
    have := Nat.mul_le_mul_right (10 ^ r.length) h10
    rw [Nat.mul_assoc, Nat.mul_comm 10] at this
    exact this

theorem digit_back (c : UInt8) (h : isDig c = true) : UInt8.ofNat (48 + (c.toNat - 48)) = c := by
  have := (isDig_iff c).1 h
  rw [show 48 + (c.toNat - 48) = c.toNat by omega]
  exact UInt8.ofNat_toNat
theorem decDigits_valA : ∀ (l : List UInt8) (a : Nat), 1 ≤ a → l.all isDig = true → Lib.decDigits (valA a l) = Lib.decDigits a ++ l := by
  intro l
  induction l with
  | nil => intro a _ _; simp [valA_nil]
  | cons c r ih =>
    intro a ha h
    simp only [List.all_cons, Bool.and_eq_true] at h
    have hc := (isDig_iff c).1 h.1
    rw [valA_cons, ih _ (by omega) h.2]
    have e : Lib.decDigits (a * 10 + (c.toNat - 48)) = Lib.decDigits a ++ [c] := by
      rw [Lib.decDigits, dif_neg (by omega)]
      rw [show (a * 10 + (c.toNat - 48)) / 10 = a by omega, show (a * 10 + (c.toNat - 48)) % 10 = c.toNat - 48 by omega, digit_back c h.1]
    rw [e]; simp
theorem decDigits_val (c : UInt8) (r : List UInt8) (h : (c :: r).all isDig = true) (h0 : r = [] ∨ c.toNat ≠ 48) : Lib.decDigits (valA 0 (c :: r)) = c :: r := by
  simp only [List.all_cons, Bool.and_eq_true] at h
  have hc := (isDig_iff c).1 h.1
  have e1 : Lib.decDigits (c.toNat - 48) = [c] := by rw [Lib.decDigits_one (by omega), digit_back c h.1]
  rw [valA_cons, Nat.zero_mul, Nat.zero_add]
  rcases h0 with rfl | h0
  · rw [valA_nil, e1]
  · rw [decDigits_valA r _ (by omega) h.2, e1]; rfl
theorem decDigits_head : ∀ (d n : Nat), n ≤ d → 1 ≤ n → ∃ c r, Lib.decDigits n = c :: r ∧ c.toNat ≠ 48 := by
  intro d
  induction d with
  | zero => intro n h1 h2; omega
  | succ d ih =>
    intro n h1 h2
    by_cases h : n < 10
    · refine ⟨_, [], Lib.decDigits_one h, ?_⟩
      rw [UInt8.toNat_ofNat']; omega
    · obtain ⟨c, r, e, hc⟩ := ih (n / 10) (by omega) (by omega)
      refine ⟨c, r ++ [UInt8.ofNat (48 + n % 10)], ?_, hc⟩
      rw [Lib.decDigits, dif_neg h, e]; rfl
theorem decDigits_all : ∀ (d n : Nat), n ≤ d → (Lib.decDigits n).all isDig = true := by
  intro d
  induction d with
  | zero =>
    intro n h
    rw [Lib.decDigits_one (by omega)]
    have : n = 0 := by omega
    subst this; decide
  | succ d ih =>
    intro n h1
    have key : ∀ k < 10, isDig (UInt8.ofNat (48 + k)) = true := by decide
    by_cases h : n < 10
    · rw [Lib.decDigits_one h, List.all_cons, List.all_nil, key n h]; rfl
    · rw [Lib.decDigits, dif_neg h, List.all_append, ih (n / 10) (by omega)]
      rw [List.all_cons, List.all_nil, key (n % 10) (by omega)]; rfl
theorem decDigits_len_le : ∀ (k n : Nat), 1 ≤ k → n < 10 ^ k → (Lib.decDigits n).length ≤ k := by
  intro k
  induction k with
  | zero => intro n h; omega
  | succ k ih =>
    intro n _ hn
    by_cases h : n < 10
    · rw [Lib.decDigits_one h]; simp
    · rw [Lib.decDigits, dif_neg h, List.length_append]
      have h1 : 1 ≤ k := by
        rcases Nat.eq_zero_or_pos k with rfl | hk
        · simp at hn; omega
        · exact hk
      have h2 : n / 10 < 10 ^ k := by rw [Nat.pow_succ] at hn; omega
      have := ih (n / 10) h1 h2
      simp; omega
theorem decDigits_zero : Lib.decDigits 0 = [48] := Lib.decDigits_one (by omega)
theorem decDigits_ne (n : Nat) : Lib.decDigits n ≠ [] := by
  rcases Nat.eq_zero_or_pos n with rfl | h
  · rw [decDigits_zero]; simp
  · obtain ⟨c, r, e, _⟩ := decDigits_head n n (Nat.le_refl _) h
    rw [e]; simp
theorem valA_decDigits (n : Nat) : valA 0 (Lib.decDigits n) = n := by
  induction n using Nat.strongRecOn with
  | ind n ih =>
    by_cases h : n < 10
    · rw [Lib.decDigits_one h, valA_cons, valA_nil, UInt8.toNat_ofNat']; omega
    · rw [Lib.decDigits, dif_neg h, valA_snoc, ih (n / 10) (by omega), UInt8.toNat_ofNat']; omega

/-- Digits as a magnitude: none, if they are not in the one form, or too many. -/
def magN (l : List UInt8) : Option Nat := if (2 ≤ l.length ∧ l.head? = some 48) ∨ 19 < l.length then none else some (valA 0 l)
/-- What a Number is made of. -/
def numB (d : List UInt8) : Option Int := match d with
  | [] => none
  | c :: r =>
    if c.toNat = 45 then
      (if r = [48] then none else match magN r with
        | some v => if v ≤ 9223372036854775808 then some (-(v : Int)) else none
        | none => none)
    else match magN (c :: r) with
      | some v => if v < 9223372036854775808 then some (v : Int) else none
      | none => none

theorem numB_minus (r : List UInt8) : numB (45 :: r) = (if r = [48] then none else match magN r with
        | some v => if v ≤ 9223372036854775808 then some (-(v : Int)) else none
        | none => none) := by
  have h : (45 : UInt8).toNat = 45 := rfl
  unfold numB
  exact if_pos h
theorem parse_dig : ∀ (l : List UInt8) (a : Nat), l.all isDig = true → a < 18446744073709551616 → Lib.parseUint10 a l = if valA a l < 18446744073709551616 then .ok (valA a l) else .range := by
  intro l
  induction l with
  | nil => intro a _ ha; rw [valA_nil, if_pos ha]; rfl
  | cons c r ih =>
    intro a h ha
    simp only [List.all_cons, Bool.and_eq_true] at h
    have hc := (isDig_iff c).1 h.1
    have hle := valA_le r (a * 10 + (c.toNat - 48))
    rw [valA_cons]
    unfold Lib.parseUint10
    rw [if_pos hc]
    by_cases h1 : 1844674407370955162 ≤ a
    · rw [if_pos h1, if_neg (by omega)]
    · rw [if_neg h1]
      by_cases h2 : 18446744073709551616 ≤ a * 10 + (c.toNat - 48)
      · rw [if_pos h2, if_neg (by omega)]
      · rw [if_neg h2, ih _ h.2 (by omega)]
theorem mag_dig (l : List UInt8) (hn : l ≠ []) (h : l.all isDig = true) : Lib.parseMag l = if valA 0 l < 18446744073709551616 then .ok (valA 0 l) else .range := by
  unfold Lib.parseMag
  rw [if_neg hn, parse_dig l 0 h (by omega)]
theorem magN_none (l : List UInt8) (hn : l ≠ []) (hd : l.all isDig = true) (h : magN l = none) (hv : valA 0 l < 10000000000000000000) : Lib.decDigits (valA 0 l) ≠ l := by
  unfold magN at h
  split at h
  · rename_i hc
    intro e
    rcases hc with ⟨h2, h0⟩ | h19
    · rcases Nat.eq_zero_or_pos (valA 0 l) with z | z
      · rw [z, decDigits_zero] at e; rw [← e] at h2; simp at h2
      · obtain ⟨c, r, e2, hc⟩ := decDigits_head _ _ (Nat.le_refl _) z
        rw [e2] at e; rw [← e] at h0
        simp only [List.head?_cons, Option.some.injEq] at h0
        rw [h0] at hc; exact hc rfl
    · have := decDigits_len_le 19 (valA 0 l) (by omega) (by omega)
      rw [e] at this; omega
  · cases h
theorem magN_some (l : List UInt8) (hn : l ≠ []) (hd : l.all isDig = true) {v : Nat} (h : magN l = some v) : v = valA 0 l ∧ Lib.decDigits v = l ∧ v < 10000000000000000000 := by
  unfold magN at h
  split at h
  · cases h
  · rename_i hc
    cases h
    refine ⟨rfl, ?_, ?_⟩
    · cases l with
      | nil => exact absurd rfl hn
      | cons c r =>
        refine decDigits_val c r hd ?_
        by_cases hr : r = []
        · exact Or.inl hr
        · refine Or.inr fun h48 => hc (Or.inl ⟨?_, ?_⟩)
          · cases r with
            | nil => exact absurd rfl hr
            | cons => simp
          · simp only [List.head?_cons, Option.some.injEq]
            exact UInt8.toNat_inj.1 h48
    · have h1 := valA_lt l 0 hd
      have h2 : (10 : Nat) ^ l.length ≤ 10 ^ 19 := Nat.pow_le_pow_right (by omega) (by omega)
      have h3 : (10 : Nat) ^ 19 = 10000000000000000000 := by decide
      omega

theorem numB_plain (c : UInt8) (r : List UInt8) (hd : (c :: r).all isDig = true) :
    (∃ n, numB (c :: r) = some n ∧ Lib.parseIntB 64 (c :: r) = .ok n ∧ Lib.itoa n = c :: r) ∨
    (numB (c :: r) = none ∧ (Lib.parseIntB 64 (c :: r) = .range ∨ ∃ n, Lib.parseIntB 64 (c :: r) = .ok n ∧ Lib.itoa n ≠ c :: r)) := by
  have hc : isDig c = true := by simp only [List.all_cons, Bool.and_eq_true] at hd; exact hd.1
  have hcd := (isDig_iff c).1 hc
  have e : Lib.parseIntB 64 (c :: r) = Lib.signless (Lib.parseMag (c :: r)) := by rw [Lib.parseIntB_64, Lib.atoiAll_plain c r (by omega) (by omega)]
  have en : numB (c :: r) = match magN (c :: r) with
      | some v => if v < 9223372036854775808 then some (v : Int) else none
      | none => none := by
    show (if c.toNat = 45 then _ else _) = _
    rw [if_neg (by omega)]
  rw [e, en, mag_dig _ (by simp) hd]
  cases hm : magN (c :: r) with
  | some v =>
    obtain ⟨hv, hdd, _⟩ := magN_some _ (by simp) hd hm
    rw [← hv]
    by_cases h1 : v < 9223372036854775808
    · left
      refine ⟨v, by simp only [if_pos h1], ?_, ?_⟩
      · rw [if_pos (by omega)]; unfold Lib.signless; simp only; rw [if_neg (by omega)]
      · rw [Lib.itoa_nonneg]; exact hdd
    · right
      refine ⟨by simp only [if_neg h1], Or.inl ?_⟩
      by_cases h2 : v < 18446744073709551616
      · rw [if_pos h2]; unfold Lib.signless; simp only; rw [if_pos (by omega)]
      · rw [if_neg h2]; rfl
  | none =>
    right
    refine ⟨rfl, ?_⟩
    by_cases h1 : valA 0 (c :: r) < 9223372036854775808
    · refine Or.inr ⟨((valA 0 (c :: r) : Nat) : Int), ?_, ?_⟩
      · rw [if_pos (by omega)]; unfold Lib.signless; simp only; rw [if_neg (by omega)]
      · rw [Lib.itoa_nonneg]
        exact magN_none _ (by simp) hd hm (by omega)
    · left
      by_cases h2 : valA 0 (c :: r) < 18446744073709551616
      · rw [if_pos h2]; unfold Lib.signless; simp only; rw [if_pos (by omega)]
      · rw [if_neg h2]; rfl
theorem numB_below (r : List UInt8) (hn : r ≠ []) (hd : r.all isDig = true) :
    (∃ n, numB (45 :: r) = some n ∧ Lib.parseIntB 64 (45 :: r) = .ok n ∧ Lib.itoa n = 45 :: r) ∨
    (numB (45 :: r) = none ∧ (Lib.parseIntB 64 (45 :: r) = .range ∨ ∃ n, Lib.parseIntB 64 (45 :: r) = .ok n ∧ Lib.itoa n ≠ 45 :: r)) := by
  have e : Lib.parseIntB 64 (45 :: r) = Lib.signed (Lib.parseMag r) := by rw [Lib.parseIntB_64, Lib.atoiAll_minus]
  have en : numB (45 :: r) = (if r = [48] then none else match magN r with
        | some v => if v ≤ 9223372036854775808 then some (-(v : Int)) else none
        | none => none) := by
    exact numB_minus r
  rw [e, en, mag_dig _ hn hd]
  by_cases hz : r = [48]
  · subst hz
    right
    refine ⟨by rw [if_pos rfl], Or.inr ⟨0, ?_, ?_⟩⟩
    · have : valA 0 [48] = 0 := rfl
      rw [this, if_pos (by omega)]; rfl
    · show Lib.itoa ((0 : Nat) : Int) ≠ _
      rw [Lib.itoa_nonneg, decDigits_zero]; simp
  · rw [if_neg hz]
    have hpos : Lib.decDigits (valA 0 r) = r → 1 ≤ valA 0 r := by
      intro h
      rcases Nat.eq_zero_or_pos (valA 0 r) with z | z
      · rw [z, decDigits_zero] at h; exact absurd h.symm hz
      · exact z
    cases hm : magN r with
    | some v =>
      obtain ⟨hv, hdd, _⟩ := magN_some _ hn hd hm
      have hp := hpos (by rw [← hv]; exact hdd)
      rw [← hv] at hp ⊢
      by_cases h1 : v ≤ 9223372036854775808
      · left
        refine ⟨-(v : Int), by simp only [if_pos h1], ?_, ?_⟩
        · rw [if_pos (by omega)]; unfold Lib.signed; simp only; rw [if_neg (by omega)]
        · rw [Lib.itoa_neg v hp, hdd]
      · right
        refine ⟨by simp only [if_neg h1], Or.inl ?_⟩
        by_cases h2 : v < 18446744073709551616
        · rw [if_pos h2]; unfold Lib.signed; simp only; rw [if_pos (by omega)]
        · rw [if_neg h2]; rfl
    | none =>
      right
      refine ⟨rfl, ?_⟩
      by_cases h1 : valA 0 r ≤ 9223372036854775808
      · refine Or.inr ⟨-((valA 0 r : Nat) : Int), ?_, ?_⟩
        · rw [if_pos (by omega)]; unfold Lib.signed; simp only; rw [if_neg (by omega)]
        · rcases Nat.eq_zero_or_pos (valA 0 r) with z | z
          · rw [z]
            show Lib.itoa ((0 : Nat) : Int) ≠ _
            rw [Lib.itoa_nonneg, decDigits_zero]; simp
          · rw [Lib.itoa_neg _ z]
            intro h
            exact magN_none _ hn hd hm (by omega) (List.cons_inj_right 45 |>.1 h)
      · left
        by_cases h2 : valA 0 r < 18446744073709551616
        · rw [if_pos h2]; unfold Lib.signed; simp only; rw [if_pos (by omega)]
        · rw [if_neg h2]; rfl
/-- What is written is read. -/
theorem numB_itoa (n : Int) (h0 : -9223372036854775808 ≤ n) (h1 : n ≤ 9223372036854775807) : numB (Lib.itoa n) = some n := by
  have hmag : ∀ v : Nat, v < 10000000000000000000 → magN (Lib.decDigits v) = some v := by
    intro v hv
    unfold magN
    rw [if_neg, valA_decDigits]
    rintro (⟨h2, h48⟩ | h19)
    · rcases Nat.eq_zero_or_pos v with z | z
      · rw [z, decDigits_zero] at h2; simp at h2
      · obtain ⟨c, r, e, hc⟩ := decDigits_head v v (Nat.le_refl _) z
        rw [e] at h48
        simp only [List.head?_cons, Option.some.injEq] at h48
        rw [h48] at hc; exact hc rfl
    · have := decDigits_len_le 19 v (by omega) (by omega)
      omega
  by_cases hn : 0 ≤ n
  · obtain ⟨k, rfl⟩ := Int.eq_ofNat_of_zero_le hn
    rw [Lib.itoa_nonneg]
    have hall := decDigits_all k k (Nat.le_refl _)
    have hm := hmag k (by omega)
    cases hd : Lib.decDigits k with
    | nil => exact absurd hd (decDigits_ne k)
    | cons c r =>
      rw [hd] at hall hm
      have hc : isDig c = true := by simp only [List.all_cons, Bool.and_eq_true] at hall; exact hall.1
      have hcd := (isDig_iff c).1 hc
      show (if c.toNat = 45 then _ else _) = _
      rw [if_neg (by omega), hm]
      simp only
      rw [if_pos (by omega)]
  · obtain ⟨k, rfl⟩ : ∃ k : Nat, n = -(k : Int) := ⟨n.natAbs, by omega⟩
    rw [Lib.itoa_neg k (by omega)]
    rw [numB_minus, if_neg, hmag k (by omega)]
    · simp only
      rw [if_pos (by omega)]
    · intro e
      have := valA_decDigits k
      rw [e] at this
      have z : valA 0 [48] = 0 := rfl
      omega
theorem numB_rng (d : List UInt8) (n : Int) (h : numB d = some n) : -9223372036854775808 ≤ n ∧ n ≤ 9223372036854775807 := by
  cases d with
  | nil => cases h
  | cons c r =>
    unfold numB at h
    simp only at h
    split at h
    · split at h
      · cases h
      · split at h
        · split at h
          · cases h; omega
          · cases h
        · cases h
    · split at h
      · split at h
        · cases h; omega
        · cases h
      · cases h
end Go.Proofs.YtohalcbhckahmaaDoor
