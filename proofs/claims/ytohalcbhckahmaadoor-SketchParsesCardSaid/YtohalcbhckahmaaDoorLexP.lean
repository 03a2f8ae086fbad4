/-
  Layer 4, plain: a text's tokens, by definition. No program text in sight.
-/
import Derived.Test.YtohalcbhckahmaaDoorLexN
namespace Go.Proofs.YtohalcbhckahmaaDoor
open Go
set_option linter.all false

/-- What stands where a token should begin: an error, or the token's sort, text, number and how many bytes it has. -/
inductive TokR where
  | bad (code : Int)
  | good (sort : Int) (text : List UInt8) (num : Int) (len : Nat)
structure LTok where
  sort : Int
  text : List UInt8
  num : Int
  at_ : Nat

def isBlk (b : UInt8) : Bool := decide (b.toNat = 32 ∨ b.toNat = 9 ∨ b.toNat = 13 ∨ b.toNat = 10)
def notEol (b : UInt8) : Bool := decide (b.toNat ≠ 10)
def isMrk (b : UInt8) : Bool := decide (b.toNat = 123 ∨ b.toNat = 125 ∨ b.toNat = 61 ∨ b.toNat = 59 ∨ b.toNat = 46)

def tokR : List UInt8 → TokR
  | [] => .bad 40
  | c :: r =>
    if isLet c = true then
      (if 16 < ((c :: r).takeWhile isIns).length then .bad 42 else .good 1 ((c :: r).takeWhile isIns) 0 ((c :: r).takeWhile isIns).length)
    else if isDig c = true ∨ (c.toNat = 45 ∧ isDig (r.headD 0) = true) then
      (match numB (c :: r.takeWhile isDig) with
      | some n => .good 2 [] n ((r.takeWhile isDig).length + 1)
      | none => .bad 41)
    else if c.toNat = 45 ∧ (r.headD 0).toNat = 62 then .good 3 [45, 62] 0 2
    else if isMrk c = true then .good 3 [c] 0 1
    else .bad 40

theorem tokR_cons (c : UInt8) (r : List UInt8) : tokR (c :: r) =
    (if isLet c = true then
      (if 16 < ((c :: r).takeWhile isIns).length then .bad 42 else .good 1 ((c :: r).takeWhile isIns) 0 ((c :: r).takeWhile isIns).length)
    else if isDig c = true ∨ (c.toNat = 45 ∧ isDig (r.headD 0) = true) then
      (match numB (c :: r.takeWhile isDig) with
      | some n => .good 2 [] n ((r.takeWhile isDig).length + 1)
      | none => .bad 41)
    else if c.toNat = 45 ∧ (r.headD 0).toNat = 62 then .good 3 [45, 62] 0 2
    else if isMrk c = true then .good 3 [c] 0 1
    else .bad 40) := rfl
def lexF : Nat → Nat → List UInt8 → List LTok × Option (Int × Nat)
  | 0, _, _ => ([], none)
  | _ + 1, _, [] => ([], none)
  | f + 1, p, c :: r =>
    if isBlk c = true then lexF f (p + 1) r
    else if c.toNat = 35 then lexF f (p + 1 + (r.takeWhile notEol).length) (r.drop (r.takeWhile notEol).length)
    else match tokR (c :: r) with
      | .bad e => ([], some (e, p))
      | .good s t n k => (⟨s, t, n, p⟩ :: (lexF f (p + k) ((c :: r).drop k)).1, (lexF f (p + k) ((c :: r).drop k)).2)
def lexL (p : Nat) (l : List UInt8) : List LTok × Option (Int × Nat) := lexF l.length p l

/-- What the whole answers: the tokens, the error's number and its place. -/
def lexA (l : List UInt8) : List LTok × Int × Nat :=
  if 1048576 < l.length then ([], 2, 1048576)
  else match lexL 0 l with
    | (ts, none) => (ts ++ [⟨0, [], 0, l.length⟩], 0, 0)
    | (_, some (c, a)) => ([], c, a)

theorem isLet_iff (b : UInt8) : isLet b = true ↔ 97 ≤ b.toNat ∧ b.toNat ≤ 122 := by
  unfold isLet letterB
  rw [decide_eq_true_iff]
  omega
theorem isIns_iff (b : UInt8) : isIns b = true ↔ (isLet b = true ∨ isDig b = true ∨ b.toNat = 95) := by
  have e : ((b.toNat : Int) = 95) = (b.toNat = 95) := by rw [eq_iff_iff]; omega
  unfold isIns insideB isLet isDig
  simp only [Bool.or_eq_true, decide_eq_true_iff, e, or_assoc]
theorem takeWhile_take {α : Type} (p : α → Bool) (l : List α) : l.take (l.takeWhile p).length = l.takeWhile p := by
  exact (List.prefix_iff_eq_take.1 (List.takeWhile_prefix p)).symm
theorem takeWhile_le {α : Type} (p : α → Bool) (l : List α) : (l.takeWhile p).length ≤ l.length := (List.takeWhile_prefix p).length_le
theorem headD_some (r : List UInt8) (h : r.headD 0 ≠ 0) : ∃ r', r = r.headD 0 :: r' := by
  cases r with
  | nil => exact absurd rfl h
  | cons c r' => exact ⟨r', rfl⟩

theorem tokR_len {l : List UInt8} {s n : Int} {t : List UInt8} {k : Nat} (h : tokR l = .good s t n k) : 1 ≤ k ∧ k ≤ l.length := by
  cases l with
  | nil => cases h
  | cons c r =>
    rw [tokR_cons] at h
    split at h
    · rename_i hl
      split at h
      · cases h
      · cases h
        have hi : isIns c = true := (isIns_iff c).2 (Or.inl hl)
        refine ⟨?_, takeWhile_le _ _⟩
        rw [List.takeWhile_cons, if_pos hi]; simp
    · split at h
      · split at h
        · cases h
          have := takeWhile_le isDig r
          simp only [List.length_cons]; omega
        · cases h
      · split at h
        · rename_i hc
          cases h
          obtain ⟨r', e⟩ := headD_some r (fun e => by rw [e] at hc; exact absurd hc.2 (by decide))
          rw [e]; simp
        · split at h
          · cases h; simp
          · cases h

theorem lexF_fuel : ∀ (f g p : Nat) (l : List UInt8), l.length ≤ f → l.length ≤ g → lexF f p l = lexF g p l := by
  intro f
  induction f with
  | zero =>
    intro g p l h1 h2
    obtain rfl : l = [] := List.eq_nil_of_length_eq_zero (by omega)
    cases g <;> rfl
  | succ f ih =>
    intro g p l h1 h2
    cases l with
    | nil => cases g <;> rfl
    | cons c r =>
      cases g with
      | zero => simp at h2
      | succ g =>
        simp only [List.length_cons] at h1 h2
        unfold lexF
        split
        · exact ih _ _ _ (by omega) (by omega)
        · split
          · exact ih _ _ _ (by rw [List.length_drop]; omega) (by rw [List.length_drop]; omega)
          · split
            · rfl
            · rename_i s t n k ht
              have := tokR_len ht
              simp only [List.length_cons] at this
              rw [ih g (p + k) _ (by rw [List.length_drop, List.length_cons]; omega) (by rw [List.length_drop, List.length_cons]; omega)]
theorem lexL_nil (p : Nat) : lexL p [] = ([], none) := rfl
theorem lexL_blank (p : Nat) (c : UInt8) (r : List UInt8) (h : isBlk c = true) : lexL p (c :: r) = lexL (p + 1) r := by
  unfold lexL
  simp only [List.length_cons]
  rw [lexF, if_pos h]
theorem lexL_hash (p : Nat) (c : UInt8) (r : List UInt8) (h : c.toNat = 35) : lexL p (c :: r) = lexL (p + 1 + (r.takeWhile notEol).length) (r.drop (r.takeWhile notEol).length) := by
  unfold lexL
  simp only [List.length_cons]
  rw [lexF, if_neg (by unfold isBlk; simp [h]), if_pos h]
  exact lexF_fuel _ _ _ _ (by rw [List.length_drop]; omega) (Nat.le_refl _)
theorem lexL_bad (p : Nat) (c : UInt8) (r : List UInt8) (h1 : isBlk c = false) (h2 : c.toNat ≠ 35) {e : Int} (h : tokR (c :: r) = .bad e) : lexL p (c :: r) = ([], some (e, p)) := by
  unfold lexL
  simp only [List.length_cons]
  rw [lexF, if_neg (by simp [h1]), if_neg h2, h]
theorem lexL_good (p : Nat) (c : UInt8) (r : List UInt8) (h1 : isBlk c = false) (h2 : c.toNat ≠ 35) {s n : Int} {t : List UInt8} {k : Nat} (h : tokR (c :: r) = .good s t n k) :
    lexL p (c :: r) = (⟨s, t, n, p⟩ :: (lexL (p + k) ((c :: r).drop k)).1, (lexL (p + k) ((c :: r).drop k)).2) := by
  have hk := tokR_len h
  simp only [List.length_cons] at hk
  unfold lexL
  simp only [List.length_cons]
  rw [lexF, if_neg (by simp [h1]), if_neg h2, h]
  simp only
  rw [lexF_fuel r.length ((c :: r).drop k).length (p + k) _ (by rw [List.length_drop, List.length_cons]; omega) (Nat.le_refl _)]
/-- A token as it is written. -/
def LTok.spelt (t : LTok) : List UInt8 := if t.sort = 2 then Lib.itoa t.num else t.text
theorem takeWhile_all {α : Type} (p : α → Bool) : ∀ l : List α, (l.takeWhile p).all p = true := by
  intro l
  induction l with
  | nil => rfl
  | cons c r ih =>
    rw [List.takeWhile_cons]
    split
    · rename_i h; simp only [List.all_cons, h, ih, Bool.and_self]
    · rfl
/-- What a number's token is written as. -/
theorem num_spelt {c : UInt8} {r : List UInt8} {n : Int} (hc : isDig c = true ∨ (c.toNat = 45 ∧ isDig (r.headD 0) = true)) (h : numB (c :: r.takeWhile isDig) = some n) : Lib.itoa n = c :: r.takeWhile isDig := by
  have ha := takeWhile_all isDig r
  rcases hc with hc | ⟨hc, hd⟩
  · rcases numB_plain c (r.takeWhile isDig) (by simp only [List.all_cons, hc, ha, Bool.and_self]) with ⟨m, h1, _, h2⟩ | ⟨h1, _⟩
    · rw [h1] at h; cases h; exact h2
    · rw [h1] at h; cases h
  · obtain rfl : c = 45 := UInt8.toNat_inj.1 hc
    have hn : r.takeWhile isDig ≠ [] := by
      obtain ⟨r', e⟩ := headD_some r (fun e => by rw [e] at hd; exact absurd hd (by decide))
      rw [e, List.takeWhile_cons]
      rw [if_pos hd]; simp
    rcases numB_below (r.takeWhile isDig) hn ha with ⟨m, h1, _, h2⟩ | ⟨h1, _⟩
    · rw [h1] at h; cases h; exact h2
    · rw [h1] at h; cases h
theorem tokR_spelt {l : List UInt8} {s n : Int} {t : List UInt8} {k : Nat} (h : tokR l = .good s t n k) : (LTok.mk s t n 0).spelt = l.take k := by
  cases l with
  | nil => cases h
  | cons c r =>
    rw [tokR_cons] at h
    split at h
    · split at h
      · cases h
      · cases h
        exact (takeWhile_take isIns (c :: r)).symm
    · split at h
      · rename_i hc
        split at h
        · rename_i m hm
          cases h
          show Lib.itoa n = _
          rw [num_spelt hc hm, List.take_succ_cons, takeWhile_take]
        · cases h
      · split at h
        · rename_i hc
          cases h
          obtain ⟨r', e⟩ := headD_some r (fun e => by rw [e] at hc; exact absurd hc.2 (by decide))
          have h45 : c = 45 := UInt8.toNat_inj.1 hc.1
          have h62 : r.headD 0 = 62 := UInt8.toNat_inj.1 hc.2
          rw [e, h45, h62]; rfl
        · split at h
          · cases h; rfl
          · cases h
end Go.Proofs.YtohalcbhckahmaaDoor
