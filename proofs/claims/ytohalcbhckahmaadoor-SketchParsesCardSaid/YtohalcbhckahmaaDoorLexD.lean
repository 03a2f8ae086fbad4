/-
  Layer 4, the program's side: one token is read.
-/
import Derived.Test.YtohalcbhckahmaaDoorLexC
namespace Go.Proofs.YtohalcbhckahmaaDoor
open Go Go.RowKit Go.Joins
set_option linter.all false

/-- What the program answers where a token should begin. -/
def TokAns (w0 : World) (P : Nat) (s : ByteArray) (k : Nat) (ts : List LTok) (e : Ending) (w' : World) : Prop :=
  match tokR (s.data.toList.drop k) with
  | .good so tx nu len => e = .returned (I 0) ∧ Rd w0 w' P s (k + len) (ts ++ [⟨so, tx, nu, k⟩])
  | .bad c => e = .returned (I c) ∧ ∃ k', Rd w0 w' P s k' ts
theorem ans_good {w0 : World} {P : Nat} {s : ByteArray} {k : Nat} {ts : List LTok} {w' : World} {so nu : Int} {tx : List UInt8} {len : Nat} (ht : tokR (s.data.toList.drop k) = .good so tx nu len) (h : Rd w0 w' P s (k + len) (ts ++ [⟨so, tx, nu, k⟩])) : TokAns w0 P s k ts (.returned (I 0)) w' := by
  unfold TokAns; rw [ht]; exact ⟨rfl, h⟩
theorem ans_bad {w0 : World} {P : Nat} {s : ByteArray} {k k' : Nat} {ts : List LTok} {w' : World} {c : Int} (ht : tokR (s.data.toList.drop k) = .bad c) (h : Rd w0 w' P s k' ts) : TokAns w0 P s k ts (.returned (I c)) w' := by
  unfold TokAns; rw [ht]; exact ⟨rfl, k', h⟩
theorem b_eq (b : UInt8) (k : Nat) : ((b.toNat : Int) == (k : Int)) = decide (b.toNat = k) := by
  by_cases h : b.toNat = k
  · rw [h]; simp
  · rw [decide_eq_false h]; simpa using fun h2 : (b.toNat : Int) = (k : Int) => h (by omega)
theorem b_yes {b : UInt8} {k : Nat} (h : b.toNat = k) : ((b.toNat : Int) == (k : Int)) = true := by rw [b_eq, decide_eq_true h]
theorem b_no {b : UInt8} {k : Nat} (h : b.toNat ≠ k) : ((b.toNat : Int) == (k : Int)) = false := by rw [b_eq, decide_eq_false h]
set_option maxRecDepth 100000 in
set_option maxHeartbeats 4000000 in
theorem ctok_long (w0 w : World) (P : Nat) (s : ByteArray) (k : Nat) (ts : List LTok) (h : Rd w0 w P s k ts) (he : Env w0) (hk : k < s.size) (hs : s.size ≤ 1048576) (hn : ts.length ≤ 1048576)
    (hl : isLet (byteAt s k) = true) (h16 : 16 < ((s.data.toList.drop k).takeWhile isIns).length) :
    Calls Tryd.prog 52 #[.pointer (some ⟨P, 0, none⟩)] w (TokAns w0 P s k ts) := by
  obtain ⟨PO, hPO⟩ : ∃ PO, PO = TokAns w0 P s k ts := ⟨_, rfl⟩
  rw [← hPO]
  have HPO := Lib.hid hPO
  have hdr := dropAt' s k hk
  have hpk := rpeek0_any w0 w P s k ts h (by omega) (by omega)
  have hlet := fun W => clet_any W ((byteAt s k).toNat : Int)
  have hlen := toList_len s
  have h255 := (byteAt s k).toNat_lt
  clear hPO
  have HT : Hid (tokR (s.data.toList.drop k) = .bad 42) := Lib.hid (by
    rw [hdr] at h16 ⊢
    rw [tokR_cons, if_pos hl, if_pos h16])
  obtain ⟨tx, htx⟩ : ∃ tx, (s.data.toList.drop k).takeWhile isIns = tx := ⟨_, rfl⟩
  have hle : k + tx.length ≤ s.size := by
    have := takeWhile_le isIns (s.data.toList.drop k)
    rw [htx, List.length_drop] at this; omega
  have hw := fun W R => rwhile_ins w0 W P s k ts R (by omega) (by omega)
  rw [htx] at hw h16
  obtain ⟨Wd, hWd⟩ : ∃ Wd, s.extract k (k + tx.length) = Wd := ⟨_, rfl⟩
  have hWl : Wd.data.toList = tx := by rw [← hWd, extract_take, ← htx, takeWhile_take]
  have hWe : (⟨tx.toArray⟩ : ByteArray) = Wd := by apply ByteArray.ext; rw [← hWl]
  have hsz : Wd.size = tx.length := by rw [← toList_len, hWl]
  rw [hWd] at hw
  have hd : decide (16 < (Wd.size : Int)) = true := decide_eq_true (by omega)
  have hWb : Wd.size ≤ 1048576 := by omega


  have e1 : letterB ((byteAt s k).toNat : Int) = true := hl
  rw [e1] at hlet
  obtain ⟨b, hbb⟩ : ∃ b : Int, ((byteAt s k).toNat : Int) = b := ⟨_, rfl⟩
  rw [hbb] at hpk hlet
  clear hbb hWd hWl hWe hsz htx hdr hlen hl e1 h255 h16
  go_enter Tryd.func52, Tryd.ntmps52
  obtain ⟨_, c1, _, _, hB⟩ := h.cells
  go_wp2_with fail
  refine hpk.mono ?_
  rintro e w2 ⟨rfl, n2⟩
  have hR2 := h.new n2
  clear hpk h c1
  go_wp2_with fail
  refine (hlet _).mono ?_
  rintro e w3 ⟨rfl, rfl⟩
  go_wp2_with fail
  refine (hw _ hR2).mono ?_
  rintro e w4 ⟨rfl, hR4⟩
  clear hR2 hw hlet
  have HR4 := Lib.hid hR4
  clear hR4
  go_wp2_with fail
  rw [HPO.out]
  exact ans_bad HT.out HR4.out
set_option maxRecDepth 100000 in
set_option maxHeartbeats 4000000 in
theorem ctok_word (w0 w : World) (P : Nat) (s : ByteArray) (k : Nat) (ts : List LTok) (h : Rd w0 w P s k ts) (he : Env w0) (hk : k < s.size) (hs : s.size ≤ 1048576) (hn : ts.length ≤ 1048576)
    (hl : isLet (byteAt s k) = true) (h16 : ¬ 16 < ((s.data.toList.drop k).takeWhile isIns).length) :
    Calls Tryd.prog 52 #[.pointer (some ⟨P, 0, none⟩)] w (TokAns w0 P s k ts) := by
  obtain ⟨PO, hPO⟩ : ∃ PO, PO = TokAns w0 P s k ts := ⟨_, rfl⟩
  rw [← hPO]
  have HPO := Lib.hid hPO
  have hdr := dropAt' s k hk
  have hpk := rpeek0_any w0 w P s k ts h (by omega) (by omega)
  have hlet := fun W => clet_any W ((byteAt s k).toNat : Int)
  have hlen := toList_len s
  have h255 := (byteAt s k).toNat_lt
  clear hPO
  have HT : Hid (tokR (s.data.toList.drop k) = .good 1 ((s.data.toList.drop k).takeWhile isIns) 0 ((s.data.toList.drop k).takeWhile isIns).length) := Lib.hid (by
    rw [hdr] at h16 ⊢
    rw [tokR_cons, if_pos hl, if_neg h16])
  obtain ⟨tx, htx⟩ : ∃ tx, (s.data.toList.drop k).takeWhile isIns = tx := ⟨_, rfl⟩
  have hle : k + tx.length ≤ s.size := by
    have := takeWhile_le isIns (s.data.toList.drop k)
    rw [htx, List.length_drop] at this; omega
  have hw := fun W R => rwhile_ins w0 W P s k ts R (by omega) (by omega)
  rw [htx] at hw HT h16
  obtain ⟨Wd, hWd⟩ : ∃ Wd, s.extract k (k + tx.length) = Wd := ⟨_, rfl⟩
  have hWl : Wd.data.toList = tx := by rw [← hWd, extract_take, ← htx, takeWhile_take]
  have hWe : (⟨tx.toArray⟩ : ByteArray) = Wd := by apply ByteArray.ext; rw [← hWl]
  have hsz : Wd.size = tx.length := by rw [← toList_len, hWl]
  rw [hWd] at hw
  have hd : decide (16 < (Wd.size : Int)) = false := decide_eq_false (by omega)
  have hWb : Wd.size ≤ 1048576 := by omega
  have hput := fun W (k1 : Nat) R => cput_any w0 W P s k1 ts R 1 tx 0 k (by omega)
  rw [hWe] at hput
  have e1 : letterB ((byteAt s k).toNat : Int) = true := hl
  rw [e1] at hlet
  obtain ⟨b, hbb⟩ : ∃ b : Int, ((byteAt s k).toNat : Int) = b := ⟨_, rfl⟩
  rw [hbb] at hpk hlet
  clear hbb hWd hWl hWe hsz htx hdr hlen hl e1 h255 h16
  go_enter Tryd.func52, Tryd.ntmps52
  obtain ⟨_, c1, _, _, hB⟩ := h.cells
  go_wp2_with fail
  refine hpk.mono ?_
  rintro e w2 ⟨rfl, n2⟩
  have hR2 := h.new n2
  clear hpk h c1
  go_wp2_with fail
  refine (hlet _).mono ?_
  rintro e w3 ⟨rfl, rfl⟩
  go_wp2_with fail
  refine (hw _ hR2).mono ?_
  rintro e w4 ⟨rfl, hR4⟩
  clear hR2 hw hlet
  go_wp2_with fail
  refine (hput _ _ hR4).mono ?_
  rintro e w5 ⟨rfl, hR5⟩
  have HR5 := Lib.hid hR5
  clear hR4 hR5 hput
  go_wp2_with fail
  rw [HPO.out]
  exact ans_good HT.out HR5.out
set_option maxRecDepth 100000 in
set_option maxHeartbeats 4000000 in
theorem ctok_digit (w0 w : World) (P : Nat) (s : ByteArray) (k : Nat) (ts : List LTok) (h : Rd w0 w P s k ts) (he : Env w0) (hk : k < s.size) (hs : s.size ≤ 1048576) (hn : ts.length ≤ 1048576)
    (hl : isLet (byteAt s k) = false) (hd : isDig (byteAt s k) = true) :
    Calls Tryd.prog 52 #[.pointer (some ⟨P, 0, none⟩)] w (TokAns w0 P s k ts) := by
  obtain ⟨PO, hPO⟩ : ∃ PO, PO = TokAns w0 P s k ts := ⟨_, rfl⟩
  rw [← hPO]
  have HPO := Lib.hid hPO
  have hdr := dropAt' s k hk
  have hpk := rpeek0_any w0 w P s k ts h (by omega) (by omega)
  have hlet := fun W => clet_any W ((byteAt s k).toNat : Int)
  have hlen := toList_len s
  have h255 := (byteAt s k).toNat_lt
  clear hPO
  have hnum := fun W R => cnum_any w0 W P s k ts R he hk hs hn (Or.inl hd)
  have HT1 : Hid (∀ v, numB (numD s k) = some v → tokR (s.data.toList.drop k) = .good 2 [] v (numD s k).length) := Lib.hid (by
    intro v hv
    rw [hdr, tokR_cons, if_neg (by rw [hl]; simp), if_pos (Or.inl hd)]
    unfold numD at hv
    rw [hv]
    rfl)
  have HT2 : Hid (numB (numD s k) = none → tokR (s.data.toList.drop k) = .bad 41) := Lib.hid (by
    intro hv
    rw [hdr, tokR_cons, if_neg (by rw [hl]; simp), if_pos (Or.inl hd)]
    unfold numD at hv
    rw [hv])
  have e1 : letterB ((byteAt s k).toNat : Int) = false := hl
  have hdig := fun W => cdig_any W ((byteAt s k).toNat : Int)
  have e2 : digitB ((byteAt s k).toNat : Int) = true := hd
  rw [e1] at hlet
  rw [e2] at hdig
  obtain ⟨b, hbb⟩ : ∃ b : Int, ((byteAt s k).toNat : Int) = b := ⟨_, rfl⟩
  rw [hbb] at hpk hlet hdig
  clear hbb hdr hlen hl hd e1 e2 h255
  go_enter Tryd.func52, Tryd.ntmps52
  obtain ⟨_, c1, _, _, hB⟩ := h.cells
  go_wp2_with fail
  refine hpk.mono ?_
  rintro e w2 ⟨rfl, n2⟩
  have hR2 := h.new n2
  clear hpk h c1
  go_wp2_with fail
  refine (hlet _).mono ?_
  rintro e w3 ⟨rfl, rfl⟩
  go_wp2_with fail
  refine (hdig _).mono ?_
  rintro e w4 ⟨rfl, rfl⟩
  go_wp2_with fail
  refine (hnum _ hR2).mono ?_
  clear hR2 hnum hdig hlet
  rintro e w6 (⟨v, hv, rfl, hR6⟩ | ⟨hv, rfl, k6, hR6⟩)
  · have HR6 := Lib.hid (ans_good (HT1.out v hv) hR6)
    clear hR6 hv
    go_wp2_with fail
    rw [HPO.out]
    exact HR6.out
  · have HR6 := Lib.hid (ans_bad (HT2.out hv) hR6)
    clear hR6 hv
    go_wp2_with fail
    rw [HPO.out]
    exact HR6.out
set_option maxRecDepth 100000 in
set_option maxHeartbeats 4000000 in
theorem ctok_minus (w0 w : World) (P : Nat) (s : ByteArray) (k : Nat) (ts : List LTok) (h : Rd w0 w P s k ts) (he : Env w0) (hk : k < s.size) (hs : s.size ≤ 1048576) (hn : ts.length ≤ 1048576)
    (h45 : (byteAt s k).toNat = 45) (hd1 : isDig (byteAt s (k + 1)) = true) :
    Calls Tryd.prog 52 #[.pointer (some ⟨P, 0, none⟩)] w (TokAns w0 P s k ts) := by
  obtain ⟨PO, hPO⟩ : ∃ PO, PO = TokAns w0 P s k ts := ⟨_, rfl⟩
  rw [← hPO]
  have HPO := Lib.hid hPO
  have hdr := dropAt' s k hk
  have hpk := rpeek0_any w0 w P s k ts h (by omega) (by omega)
  have hlet := fun W => clet_any W ((byteAt s k).toNat : Int)
  have hlen := toList_len s
  have h255 := (byteAt s k).toNat_lt
  clear hPO
  have hl : isLet (byteAt s k) = false := by
    cases e : isLet (byteAt s k) with
    | false => rfl
    | true => have := (isLet_iff _).1 e; omega
  have hd : isDig (byteAt s k) = false := by
    cases e : isDig (byteAt s k) with
    | false => rfl
    | true => have := (isDig_iff _).1 e; omega
  have e45 : (((byteAt s k).toNat : Int) == 45) = true := b_yes (k := 45) h45
  have hnum := fun W R => cnum_any w0 W P s k ts R he hk hs hn (Or.inr ⟨h45, hd1⟩)
  have HT1 : Hid (∀ v, numB (numD s k) = some v → tokR (s.data.toList.drop k) = .good 2 [] v (numD s k).length) := Lib.hid (by
    intro v hv
    rw [hdr, tokR_cons, if_neg (by rw [hl]; simp), if_pos (Or.inr ⟨h45, hd1⟩)]
    unfold numD at hv
    rw [hv]
    rfl)
  have HT2 : Hid (numB (numD s k) = none → tokR (s.data.toList.drop k) = .bad 41) := Lib.hid (by
    intro hv
    rw [hdr, tokR_cons, if_neg (by rw [hl]; simp), if_pos (Or.inr ⟨h45, hd1⟩)]
    unfold numD at hv
    rw [hv])
  have e1 : letterB ((byteAt s k).toNat : Int) = false := hl
  have hdig := fun W => cdig_any W ((byteAt s k).toNat : Int)
  have e2 : digitB ((byteAt s k).toNat : Int) = false := hd
  rw [e1] at hlet
  rw [e2] at hdig
  have hpk1 := fun W R => rpeek1_any w0 W P s k ts R (by omega) (by omega)
  have hdig1 := fun W => cdig_any W ((byteAt s (k + 1)).toNat : Int)
  have h256 := (byteAt s (k + 1)).toNat_lt
  have e3 : digitB ((byteAt s (k + 1)).toNat : Int) = true := hd1
  rw [e3] at hdig1
  obtain ⟨b, hbb⟩ : ∃ b : Int, ((byteAt s k).toNat : Int) = b := ⟨_, rfl⟩
  obtain ⟨b1, hbb1⟩ : ∃ b1 : Int, ((byteAt s (k + 1)).toNat : Int) = b1 := ⟨_, rfl⟩
  rw [hbb] at hpk hlet hdig e45
  rw [hbb1] at hpk1 hdig1
  clear hbb hbb1 hdr hlen hl hd e1 e2 e3 h45 hd1 h255 h256
  go_enter Tryd.func52, Tryd.ntmps52
  obtain ⟨_, c1, _, _, hB⟩ := h.cells
  go_wp2_with fail
  refine hpk.mono ?_
  rintro e w2 ⟨rfl, n2⟩
  have hR2 := h.new n2
  clear hpk h c1
  go_wp2_with fail
  refine (hlet _).mono ?_
  rintro e w3 ⟨rfl, rfl⟩
  go_wp2_with fail
  refine (hdig _).mono ?_
  rintro e w4 ⟨rfl, rfl⟩
  go_wp2_with fail
  refine (hpk1 _ hR2).mono ?_
  rintro e w5 ⟨rfl, n5⟩
  have hR5 := hR2.new n5
  clear hR2
  go_wp2_with fail
  refine (hdig1 _).mono ?_
  rintro e w7 ⟨rfl, rfl⟩
  go_wp2_with fail
  refine (hnum _ hR5).mono ?_
  clear hR5 hnum hdig hlet hpk1 hdig1
  rintro e w6 (⟨v, hv, rfl, hR6⟩ | ⟨hv, rfl, k6, hR6⟩)
  · have HR6 := Lib.hid (ans_good (HT1.out v hv) hR6)
    clear hR6 hv
    go_wp2_with fail
    rw [HPO.out]
    exact HR6.out
  · have HR6 := Lib.hid (ans_bad (HT2.out hv) hR6)
    clear hR6 hv
    go_wp2_with fail
    rw [HPO.out]
    exact HR6.out
set_option maxRecDepth 100000 in
set_option maxHeartbeats 4000000 in
theorem ctok_arrow (w0 w : World) (P : Nat) (s : ByteArray) (k : Nat) (ts : List LTok) (h : Rd w0 w P s k ts) (he : Env w0) (hk : k < s.size) (hs : s.size ≤ 1048576) (hn : ts.length ≤ 1048576)
    (h45 : (byteAt s k).toNat = 45) (hd1 : isDig (byteAt s (k + 1)) = false) (h62 : (byteAt s (k + 1)).toNat = 62) :
    Calls Tryd.prog 52 #[.pointer (some ⟨P, 0, none⟩)] w (TokAns w0 P s k ts) := by
  obtain ⟨PO, hPO⟩ : ∃ PO, PO = TokAns w0 P s k ts := ⟨_, rfl⟩
  rw [← hPO]
  have HPO := Lib.hid hPO
  have hdr := dropAt' s k hk
  have hpk := rpeek0_any w0 w P s k ts h (by omega) (by omega)
  have hlet := fun W => clet_any W ((byteAt s k).toNat : Int)
  have hlen := toList_len s
  have h255 := (byteAt s k).toNat_lt
  clear hPO
  have hl : isLet (byteAt s k) = false := by
    cases e : isLet (byteAt s k) with
    | false => rfl
    | true => have := (isLet_iff _).1 e; omega
  have hd : isDig (byteAt s k) = false := by
    cases e : isDig (byteAt s k) with
    | false => rfl
    | true => have := (isDig_iff _).1 e; omega
  have e45 : (((byteAt s k).toNat : Int) == 45) = true := b_yes (k := 45) h45
  have HT : Hid (tokR (s.data.toList.drop k) = .good 3 [45, 62] 0 2) := Lib.hid (by
    have hn1 : ¬ (isDig (byteAt s k) = true ∨ ((byteAt s k).toNat = 45 ∧ isDig ((s.data.toList.drop (k + 1)).headD 0) = true)) := by
      rintro (x | ⟨_, x⟩)
      · rw [hd] at x; cases x
      · have : isDig (byteAt s (k + 1)) = true := x
        rw [hd1] at this; cases this
    rw [hdr, tokR_cons, if_neg (by rw [hl]; simp), if_neg hn1]
    rw [if_pos ⟨h45, h62⟩])
  have e1 : letterB ((byteAt s k).toNat : Int) = false := hl
  have hdig := fun W => cdig_any W ((byteAt s k).toNat : Int)
  have e2 : digitB ((byteAt s k).toNat : Int) = false := hd
  rw [e1] at hlet
  rw [e2] at hdig
  have hpk1 := fun W R => rpeek1_any w0 W P s k ts R (by omega) (by omega)
  have hdig1 := fun W => cdig_any W ((byteAt s (k + 1)).toNat : Int)
  have h256 := (byteAt s (k + 1)).toNat_lt
  have e3 : digitB ((byteAt s (k + 1)).toNat : Int) = false := hd1
  have e62 : (((byteAt s (k + 1)).toNat : Int) == 62) = true := b_yes (k := 62) h62
  rw [e3] at hdig1
  have hput := fun W (k1 : Nat) R => cput_any w0 W P s k1 ts R 3 [45, 62] 0 k (by omega)
  rw [show (⟨[45, 62].toArray⟩ : ByteArray) = ⟨#[45, 62]⟩ from rfl] at hput
  have hk2 : k + 1 < s.size := by
    by_cases x : k + 1 < s.size
    · exact x
    · rw [byteAt_out s _ x] at h62; exact absurd h62 (by decide)

  obtain ⟨b, hbb⟩ : ∃ b : Int, ((byteAt s k).toNat : Int) = b := ⟨_, rfl⟩
  obtain ⟨b1, hbb1⟩ : ∃ b1 : Int, ((byteAt s (k + 1)).toNat : Int) = b1 := ⟨_, rfl⟩
  rw [hbb] at hpk hlet hdig e45
  rw [hbb1] at hpk1 hdig1 e62
  clear hbb hbb1 hdr hlen hl hd e1 e2 e3 h45 hd1 h62 h255 h256
  go_enter Tryd.func52, Tryd.ntmps52
  obtain ⟨_, c1, _, _, hB⟩ := h.cells
  go_wp2_with fail
  refine hpk.mono ?_
  rintro e w2 ⟨rfl, n2⟩
  have hR2 := h.new n2
  clear hpk h c1
  go_wp2_with fail
  refine (hlet _).mono ?_
  rintro e w3 ⟨rfl, rfl⟩
  go_wp2_with fail
  refine (hdig _).mono ?_
  rintro e w4 ⟨rfl, rfl⟩
  go_wp2_with fail
  refine (hpk1 _ hR2).mono ?_
  rintro e w5 ⟨rfl, n5⟩
  have hR5 := hR2.new n5
  clear hR2
  go_wp2_with fail
  refine (hdig1 _).mono ?_
  rintro e w7 ⟨rfl, rfl⟩
  go_wp2_with fail
  refine (hpk1 _ hR5).mono ?_
  rintro e w8 ⟨rfl, n8⟩
  have hR8 := hR5.new n8
  clear hR5 hpk1 hdig hdig1 hlet
  obtain ⟨_, y0, y1, _, hB8⟩ := hR8.cells
  have HR9 := Lib.hid (hR8.go (k + 2))
  clear hR8
  go_wp2_with fail
  refine (hput _ _ HR9.out).mono ?_
  rintro e w9 ⟨rfl, hR9⟩
  have HRA := Lib.hid hR9
  clear hR9 hput
  go_wp2_with fail
  rw [HPO.out]
  exact ans_good HT.out HRA.out
set_option maxRecDepth 100000 in
set_option maxHeartbeats 4000000 in
theorem ctok_dash (w0 w : World) (P : Nat) (s : ByteArray) (k : Nat) (ts : List LTok) (h : Rd w0 w P s k ts) (he : Env w0) (hk : k < s.size) (hs : s.size ≤ 1048576) (hn : ts.length ≤ 1048576)
    (h45 : (byteAt s k).toNat = 45) (hd1 : isDig (byteAt s (k + 1)) = false) (h62 : (byteAt s (k + 1)).toNat ≠ 62) :
    Calls Tryd.prog 52 #[.pointer (some ⟨P, 0, none⟩)] w (TokAns w0 P s k ts) := by
  obtain ⟨PO, hPO⟩ : ∃ PO, PO = TokAns w0 P s k ts := ⟨_, rfl⟩
  rw [← hPO]
  have HPO := Lib.hid hPO
  have hdr := dropAt' s k hk
  have hpk := rpeek0_any w0 w P s k ts h (by omega) (by omega)
  have hlet := fun W => clet_any W ((byteAt s k).toNat : Int)
  have hlen := toList_len s
  have h255 := (byteAt s k).toNat_lt
  clear hPO
  have hl : isLet (byteAt s k) = false := by
    cases e : isLet (byteAt s k) with
    | false => rfl
    | true => have := (isLet_iff _).1 e; omega
  have hd : isDig (byteAt s k) = false := by
    cases e : isDig (byteAt s k) with
    | false => rfl
    | true => have := (isDig_iff _).1 e; omega
  have e45 : (((byteAt s k).toNat : Int) == 45) = true := b_yes (k := 45) h45
  have HT : Hid (tokR (s.data.toList.drop k) = .bad 40) := Lib.hid (by
    have hn1 : ¬ (isDig (byteAt s k) = true ∨ ((byteAt s k).toNat = 45 ∧ isDig ((s.data.toList.drop (k + 1)).headD 0) = true)) := by
      rintro (x | ⟨_, x⟩)
      · rw [hd] at x; cases x
      · have : isDig (byteAt s (k + 1)) = true := x
        rw [hd1] at this; cases this
    rw [hdr, tokR_cons, if_neg (by rw [hl]; simp), if_neg hn1]
    rw [if_neg (fun x => h62 x.2), if_neg (by unfold isMrk; rw [decide_eq_true_iff]; omega)])
  have e1 : letterB ((byteAt s k).toNat : Int) = false := hl
  have hdig := fun W => cdig_any W ((byteAt s k).toNat : Int)
  have e2 : digitB ((byteAt s k).toNat : Int) = false := hd
  rw [e1] at hlet
  rw [e2] at hdig
  have hpk1 := fun W R => rpeek1_any w0 W P s k ts R (by omega) (by omega)
  have hdig1 := fun W => cdig_any W ((byteAt s (k + 1)).toNat : Int)
  have h256 := (byteAt s (k + 1)).toNat_lt
  have e3 : digitB ((byteAt s (k + 1)).toNat : Int) = false := hd1
  have e62 : (((byteAt s (k + 1)).toNat : Int) == 62) = false := b_no (k := 62) h62
  rw [e3] at hdig1



  have f123 : (((byteAt s k).toNat : Int) == 123) = false := b_no (k := 123) (by omega)
  have f125 : (((byteAt s k).toNat : Int) == 125) = false := b_no (k := 125) (by omega)
  have f61 : (((byteAt s k).toNat : Int) == 61) = false := b_no (k := 61) (by omega)
  have f59 : (((byteAt s k).toNat : Int) == 59) = false := b_no (k := 59) (by omega)
  have f46 : (((byteAt s k).toNat : Int) == 46) = false := b_no (k := 46) (by omega)
  obtain ⟨b, hbb⟩ : ∃ b : Int, ((byteAt s k).toNat : Int) = b := ⟨_, rfl⟩
  obtain ⟨b1, hbb1⟩ : ∃ b1 : Int, ((byteAt s (k + 1)).toNat : Int) = b1 := ⟨_, rfl⟩
  rw [hbb] at hpk hlet hdig e45 f123 f125 f61 f59 f46
  rw [hbb1] at hpk1 hdig1 e62
  clear hbb hbb1 hdr hlen hl hd e1 e2 e3 h45 hd1 h62 h255 h256
  go_enter Tryd.func52, Tryd.ntmps52
  obtain ⟨_, c1, _, _, hB⟩ := h.cells
  go_wp2_with fail
  refine hpk.mono ?_
  rintro e w2 ⟨rfl, n2⟩
  have hR2 := h.new n2
  clear hpk h c1
  go_wp2_with fail
  refine (hlet _).mono ?_
  rintro e w3 ⟨rfl, rfl⟩
  go_wp2_with fail
  refine (hdig _).mono ?_
  rintro e w4 ⟨rfl, rfl⟩
  go_wp2_with fail
  refine (hpk1 _ hR2).mono ?_
  rintro e w5 ⟨rfl, n5⟩
  have hR5 := hR2.new n5
  clear hR2
  go_wp2_with fail
  refine (hdig1 _).mono ?_
  rintro e w7 ⟨rfl, rfl⟩
  go_wp2_with fail
  refine (hpk1 _ hR5).mono ?_
  rintro e w8 ⟨rfl, n8⟩
  have hR8 := hR5.new n8
  clear hR5 hpk1 hdig hdig1 hlet
  have HR8 := Lib.hid hR8
  clear hR8
  go_wp2_with fail
  rw [HPO.out]
  exact ans_bad HT.out HR8.out
set_option maxRecDepth 100000 in
set_option maxHeartbeats 4000000 in
theorem ctok_byte (w0 w : World) (P : Nat) (s : ByteArray) (k : Nat) (ts : List LTok) (h : Rd w0 w P s k ts) (he : Env w0) (hk : k < s.size) (hs : s.size ≤ 1048576) (hn : ts.length ≤ 1048576)
    (hl : isLet (byteAt s k) = false) (hd : isDig (byteAt s k) = false) (h45 : (byteAt s k).toNat ≠ 45) (hm : isMrk (byteAt s k) = false) :
    Calls Tryd.prog 52 #[.pointer (some ⟨P, 0, none⟩)] w (TokAns w0 P s k ts) := by
  obtain ⟨PO, hPO⟩ : ∃ PO, PO = TokAns w0 P s k ts := ⟨_, rfl⟩
  rw [← hPO]
  have HPO := Lib.hid hPO
  have hdr := dropAt' s k hk
  have hpk := rpeek0_any w0 w P s k ts h (by omega) (by omega)
  have hlet := fun W => clet_any W ((byteAt s k).toNat : Int)
  have hlen := toList_len s
  have h255 := (byteAt s k).toNat_lt
  clear hPO
  have HT : Hid (tokR (s.data.toList.drop k) = .bad 40) := Lib.hid (by
    have hn1 : ¬ (isDig (byteAt s k) = true ∨ ((byteAt s k).toNat = 45 ∧ isDig ((s.data.toList.drop (k + 1)).headD 0) = true)) := by
      rintro (x | ⟨x, _⟩)
      · rw [hd] at x; cases x
      · exact h45 x
    rw [hdr, tokR_cons, if_neg (by rw [hl]; simp), if_neg hn1, if_neg (fun x => h45 x.1)]
    rw [if_neg (by rw [hm]; simp)])
  unfold isMrk at hm
  rw [decide_eq_false_iff_not] at hm
  have e45 : (((byteAt s k).toNat : Int) == 45) = false := b_no (k := 45) h45
  have f123 : (((byteAt s k).toNat : Int) == 123) = false := b_no (k := 123) (by omega)
  have f125 : (((byteAt s k).toNat : Int) == 125) = false := b_no (k := 125) (by omega)
  have f61 : (((byteAt s k).toNat : Int) == 61) = false := b_no (k := 61) (by omega)
  have f59 : (((byteAt s k).toNat : Int) == 59) = false := b_no (k := 59) (by omega)
  have f46 : (((byteAt s k).toNat : Int) == 46) = false := b_no (k := 46) (by omega)
  have e1 : letterB ((byteAt s k).toNat : Int) = false := hl
  have hdig := fun W => cdig_any W ((byteAt s k).toNat : Int)
  have e2 : digitB ((byteAt s k).toNat : Int) = false := hd
  rw [e1] at hlet
  rw [e2] at hdig
  obtain ⟨b, hbb⟩ : ∃ b : Int, ((byteAt s k).toNat : Int) = b := ⟨_, rfl⟩
  rw [hbb] at hpk hlet hdig e45 f123 f125 f61 f59 f46
  clear hbb hdr hlen hl hd e1 e2 h45 hm h255
  go_enter Tryd.func52, Tryd.ntmps52
  obtain ⟨_, c1, _, _, hB⟩ := h.cells
  go_wp2_with fail
  refine hpk.mono ?_
  rintro e w2 ⟨rfl, n2⟩
  have hR2 := h.new n2
  clear hpk h c1
  go_wp2_with fail
  refine (hlet _).mono ?_
  rintro e w3 ⟨rfl, rfl⟩
  have HR2 := Lib.hid hR2
  clear hR2
  go_wp2_with fail
  refine (hdig _).mono ?_
  rintro e w4 ⟨rfl, rfl⟩
  go_wp2_with fail
  rw [HPO.out]
  exact ans_bad HT.out HR2.out
set_option maxRecDepth 100000 in
set_option maxHeartbeats 4000000 in
theorem ctok_m123 (w0 w : World) (P : Nat) (s : ByteArray) (k : Nat) (ts : List LTok) (h : Rd w0 w P s k ts) (he : Env w0) (hk : k < s.size) (hs : s.size ≤ 1048576) (hn : ts.length ≤ 1048576)
    (hm : (byteAt s k).toNat = 123) :
    Calls Tryd.prog 52 #[.pointer (some ⟨P, 0, none⟩)] w (TokAns w0 P s k ts) := by
  obtain ⟨PO, hPO⟩ : ∃ PO, PO = TokAns w0 P s k ts := ⟨_, rfl⟩
  rw [← hPO]
  have HPO := Lib.hid hPO
  have hdr := dropAt' s k hk
  have hpk := rpeek0_any w0 w P s k ts h (by omega) (by omega)
  have hlet := fun W => clet_any W ((byteAt s k).toNat : Int)
  have hlen := toList_len s
  have h255 := (byteAt s k).toNat_lt
  clear hPO
  have h45 : (byteAt s k).toNat ≠ 45 := by omega
  have hl : isLet (byteAt s k) = false := by
    cases e : isLet (byteAt s k) with
    | false => rfl
    | true => have := (isLet_iff _).1 e; omega
  have hd : isDig (byteAt s k) = false := by
    cases e : isDig (byteAt s k) with
    | false => rfl
    | true => have := (isDig_iff _).1 e; omega
  have HT : Hid (tokR (s.data.toList.drop k) = .good 3 [byteAt s k] 0 1) := Lib.hid (by
    have hn1 : ¬ (isDig (byteAt s k) = true ∨ ((byteAt s k).toNat = 45 ∧ isDig ((s.data.toList.drop (k + 1)).headD 0) = true)) := by
      rintro (x | ⟨x, _⟩)
      · rw [hd] at x; cases x
      · exact h45 x
    rw [hdr, tokR_cons, if_neg (by rw [hl]; simp), if_neg hn1, if_neg (fun x => h45 x.1)]
    rw [if_pos (by unfold isMrk; rw [decide_eq_true_iff]; omega)])
  have e45 : (((byteAt s k).toNat : Int) == 45) = false := b_no (k := 45) h45
  have f123 : (((byteAt s k).toNat : Int) == 123) = true := b_yes (k := 123) (by omega)
  obtain ⟨Wd, hWd⟩ : ∃ Wd, s.extract k (k + 1) = Wd := ⟨_, rfl⟩
  have hWe : (⟨[byteAt s k].toArray⟩ : ByteArray) = Wd := by
    apply ByteArray.ext
    apply Array.toList_inj.1
    rw [← hWd, extract_take, hdr]
    rfl
  have hput := fun W (k1 : Nat) R => cput_any w0 W P s k1 ts R 3 [byteAt s k] 0 k (by omega)
  rw [hWe] at hput
  have HW := Lib.hid hWd
  have e1 : letterB ((byteAt s k).toNat : Int) = false := hl
  have hdig := fun W => cdig_any W ((byteAt s k).toNat : Int)
  have e2 : digitB ((byteAt s k).toNat : Int) = false := hd
  rw [e1] at hlet
  rw [e2] at hdig
  obtain ⟨b, hbb⟩ : ∃ b : Int, ((byteAt s k).toNat : Int) = b := ⟨_, rfl⟩
  rw [hbb] at hpk hlet hdig e45 f123
  clear hbb hdr hlen hl hd e1 e2 h45 hm h255 hWd hWe
  go_enter Tryd.func52, Tryd.ntmps52
  obtain ⟨_, c1, _, _, hB⟩ := h.cells
  go_wp2_with fail
  refine hpk.mono ?_
  rintro e w2 ⟨rfl, n2⟩
  have hR2 := h.new n2
  clear hpk h c1
  go_wp2_with fail
  refine (hlet _).mono ?_
  rintro e w3 ⟨rfl, rfl⟩
  obtain ⟨_, y0, y1, _, hB2⟩ := hR2.cells
  have HR3 := Lib.hid (hR2.go (k + 1))
  clear hR2
  go_wp2_with fail
  refine (hdig _).mono ?_
  rintro e w4 ⟨rfl, rfl⟩
  go_wp2_with fail
  obtain ⟨W3, hW3⟩ : ∃ W3, w4.setCell ⟨P, 1, none⟩ (I ((k + 1 : Nat) : Int)) = W3 := ⟨_, rfl⟩
  have hR3 := HR3.out
  rw [hW3] at hR3
  have hxx : w4.setCell ⟨P, 1, none⟩ (I ((k : Int) + 1)) = W3 := hW3
  rw [hxx]
  obtain ⟨x0, x1, _, _, hB3⟩ := hR3.cells
  have hkI : (k : Int) < (s.size : Int) := by omega
  have hSX : (fun w' : World => w'.cell? ⟨P, 0, none⟩ = some (.string s) ∧ w'.cell? ⟨P, 1, none⟩ = some (I ((k + 1 : Nat) : Int))) W3.drew := ⟨New.cell ((New.refl W3).drew) x0, New.cell ((New.refl W3).drew) x1⟩
  refine wp_region_X (fun w' : World => w'.cell? ⟨P, 0, none⟩ = some (.string s) ∧ w'.cell? ⟨P, 1, none⟩ = some (I ((k + 1 : Nat) : Int))) [14, 15] (by kernel_rfl) hSX ?_
  refine anyX_take 0 (by kernel_rfl) (by kernel_rfl) (by kernel_rfl) (by kernel_rfl) (by kernel_rfl) hSX ?_
  intro oi ho; simp only [List.getElem?_toArray, List.getElem?_cons_succ, List.getElem?_cons_zero, Option.some.injEq] at ho; subst ho
  refine ⟨?_, fun _ _ _ h => h, Or.inl ⟨by rfl, ?_⟩, ?_⟩; rotate_left 1
  · (intro wS hSw; (try dsimp only at hSw); go_simp; try with_reducible rfl)
  simp only [Act.put, List.setIfInBounds_toArray, List.set_cons_zero, List.set_cons_succ]
  refine anyX_take 1 (by kernel_rfl) (by kernel_rfl) (by kernel_rfl) (by kernel_rfl) (by kernel_rfl) hSX ?_
  intro oi ho; simp only [List.getElem?_toArray, List.getElem?_cons_succ, List.getElem?_cons_zero, Option.some.injEq] at ho; subst ho
  refine ⟨?_, fun _ _ _ h => h, Or.inl ⟨by rfl, ?_⟩, ?_⟩; rotate_left 1
  · (intro wS hSw; (try dsimp only at hSw); go_simp; try with_reducible rfl)
  simp only [Act.put, List.setIfInBounds_toArray, List.set_cons_zero, List.set_cons_succ]
  refine anyX_take 2 (by kernel_rfl) (by kernel_rfl) (by kernel_rfl) (by kernel_rfl) (by kernel_rfl) hSX ?_
  intro oi ho; simp only [List.getElem?_toArray, List.getElem?_cons_succ, List.getElem?_cons_zero, Option.some.injEq] at ho; subst ho
  refine ⟨?_, fun _ _ _ h => h, Or.inl ⟨by rfl, ?_⟩, ?_⟩; rotate_left 1
  · (intro wS hSw; (try dsimp only at hSw); go_simp; try with_reducible rfl)
  simp only [Act.put, List.setIfInBounds_toArray, List.set_cons_zero, List.set_cons_succ]
  refine anyX_take 3 (by kernel_rfl) (by kernel_rfl) (by kernel_rfl) (by kernel_rfl) (by kernel_rfl) hSX ?_
  intro oi ho; simp only [List.getElem?_toArray, List.getElem?_cons_succ, List.getElem?_cons_zero, Option.some.injEq] at ho; subst ho
  refine ⟨?_, fun _ _ _ h => h, Or.inl ⟨by rfl, ?_⟩, ?_⟩; rotate_left 1
  · (intro wS hSw; (try dsimp only at hSw); go_simp; try with_reducible rfl)
  simp only [Act.put, List.setIfInBounds_toArray, List.set_cons_zero, List.set_cons_succ]
  refine anyX_take 4 (by kernel_rfl) (by kernel_rfl) (by kernel_rfl) (by kernel_rfl) (by kernel_rfl) hSX ?_
  intro oi ho; simp only [List.getElem?_toArray, List.getElem?_cons_succ, List.getElem?_cons_zero, Option.some.injEq] at ho; subst ho
  refine ⟨?_, fun _ _ _ h => h, Or.inl ⟨by rfl, ?_⟩, ?_⟩; rotate_left 1
  · (intro wS hSw; (try dsimp only at hSw); go_simp; try with_reducible rfl)
  simp only [Act.put, List.setIfInBounds_toArray, List.set_cons_zero, List.set_cons_succ]
  refine anyX_take 5 (by kernel_rfl) (by kernel_rfl) (by kernel_rfl) (by kernel_rfl) (by kernel_rfl) hSX ?_
  intro oi ho; simp only [List.getElem?_toArray, List.getElem?_cons_succ, List.getElem?_cons_zero, Option.some.injEq] at ho; subst ho
  refine ⟨?_, fun _ _ _ h => h, Or.inl ⟨by rfl, ?_⟩, ?_⟩; rotate_left 1
  · (intro wS hSw; (try dsimp only at hSw); go_simp; try with_reducible rfl)
  simp only [Act.put, List.setIfInBounds_toArray, List.set_cons_zero, List.set_cons_succ]
  refine anyX_take 6 (by kernel_rfl) (by kernel_rfl) (by kernel_rfl) (by kernel_rfl) (by kernel_rfl) hSX ?_
  intro oi ho; simp only [List.getElem?_toArray, List.getElem?_cons_succ, List.getElem?_cons_zero, Option.some.injEq] at ho; subst ho
  refine ⟨?_, fun _ _ _ h => h, Or.inl ⟨by rfl, ?_⟩, ?_⟩; rotate_left 1
  · (intro wS hSw; (try dsimp only at hSw); go_simp; try with_reducible rfl)
  simp only [Act.put, List.setIfInBounds_toArray, List.set_cons_zero, List.set_cons_succ]
  refine anyX_take 7 (by kernel_rfl) (by kernel_rfl) (by kernel_rfl) (by kernel_rfl) (by kernel_rfl) hSX ?_
  intro oi ho; simp only [List.getElem?_toArray, List.getElem?_cons_succ, List.getElem?_cons_zero, Option.some.injEq] at ho; subst ho
  refine ⟨?_, fun _ _ _ h => h, Or.inl ⟨by rfl, ?_⟩, ?_⟩; rotate_left 1
  · (intro wS hSw; (try dsimp only at hSw); go_simp; try with_reducible rfl)
  simp only [Act.put, List.setIfInBounds_toArray, List.set_cons_zero, List.set_cons_succ]
  refine anyX_take 8 (by kernel_rfl) (by kernel_rfl) (by kernel_rfl) (by kernel_rfl) (by kernel_rfl) hSX ?_
  intro oi ho; simp only [List.getElem?_toArray, List.getElem?_cons_succ, List.getElem?_cons_zero, Option.some.injEq] at ho; subst ho
  refine ⟨?_, fun _ _ _ h => h, Or.inl ⟨by rfl, ?_⟩, ?_⟩; rotate_left 1
  · (intro wS hSw; (try dsimp only at hSw); go_simp; try with_reducible rfl)
  simp only [Act.put, List.setIfInBounds_toArray, List.set_cons_zero, List.set_cons_succ]
  refine anyX_take 9 (by kernel_rfl) (by kernel_rfl) (by kernel_rfl) (by kernel_rfl) (by kernel_rfl) hSX ?_
  intro oi ho; simp only [List.getElem?_toArray, List.getElem?_cons_succ, List.getElem?_cons_zero, Option.some.injEq] at ho; subst ho
  refine ⟨?_, fun _ _ _ h => h, Or.inl ⟨by rfl, ?_⟩, ?_⟩; rotate_left 1
  · (intro wS hSw; (try dsimp only at hSw); go_simp; try with_reducible rfl)
  simp only [Act.put, List.setIfInBounds_toArray, List.set_cons_zero, List.set_cons_succ]
  refine anyX_take 10 (by kernel_rfl) (by kernel_rfl) (by kernel_rfl) (by kernel_rfl) (by kernel_rfl) hSX ?_
  intro oi ho; simp only [List.getElem?_toArray, List.getElem?_cons_succ, List.getElem?_cons_zero, Option.some.injEq] at ho; subst ho
  refine ⟨?_, fun _ _ _ h => h, Or.inl ⟨by rfl, ?_⟩, ?_⟩; rotate_left 1
  · (intro wS hSw; (try dsimp only at hSw); go_simp; try with_reducible rfl)
  simp only [Act.put, List.setIfInBounds_toArray, List.set_cons_zero, List.set_cons_succ]
  refine anyX_take 11 (by kernel_rfl) (by kernel_rfl) (by kernel_rfl) (by kernel_rfl) (by kernel_rfl) hSX ?_
  intro oi ho; simp only [List.getElem?_toArray, List.getElem?_cons_succ, List.getElem?_cons_zero, Option.some.injEq] at ho; subst ho
  refine ⟨?_, fun _ _ _ h => h, Or.inl ⟨by rfl, ?_⟩, ?_⟩; rotate_left 1
  · (intro wS hSw; (try dsimp only at hSw); go_simp; try with_reducible rfl)
  simp only [Act.put, List.setIfInBounds_toArray, List.set_cons_zero, List.set_cons_succ]
  refine anyX_take 12 (by kernel_rfl) (by kernel_rfl) (by kernel_rfl) (by kernel_rfl) (by kernel_rfl) hSX ?_
  intro oi ho; simp only [List.getElem?_toArray, List.getElem?_cons_succ, List.getElem?_cons_zero, Option.some.injEq] at ho; subst ho
  refine ⟨.string Wd, fun _ _ _ h => h, Or.inl ⟨by rfl, ?_⟩, ?_⟩
  · (intro wS hSw; (try dsimp only at hSw); go_simp; rw [if_pos ⟨by omega, by omega⟩, if_pos (by omega), HW.out])
  simp only [Act.put, List.setIfInBounds_toArray, List.set_cons_zero, List.set_cons_succ]
  refine anyX_take 13 (by kernel_rfl) (by kernel_rfl) (by kernel_rfl) (by kernel_rfl) (by kernel_rfl) hSX ?_
  intro oi ho; simp only [List.getElem?_toArray, List.getElem?_cons_succ, List.getElem?_cons_zero, Option.some.injEq] at ho; subst ho
  refine ⟨?_, fun _ _ _ h => h, Or.inl ⟨by rfl, ?_⟩, ?_⟩; rotate_left 1
  · (intro wS hSw; (try dsimp only at hSw); go_simp; try with_reducible rfl)
  simp only [Act.put, List.setIfInBounds_toArray, List.set_cons_zero, List.set_cons_succ]
  refine anyX_one 14 (by kernel_rfl) ?_
  intro oi ho; simp only [List.getElem?_toArray, List.getElem?_cons_succ, List.getElem?_cons_zero, Option.some.injEq] at ho; subst ho; intro K hK
  (try simp only [Act.put, List.setIfInBounds_toArray, List.set_cons_zero, List.set_cons_succ])
  go_simp
  refine (hput _ _ (hR3.new ((New.refl W3).drew))).mono ?_
  rintro e w5 ⟨rfl, hR5⟩
  refine hK _ _ (fun h => by cases h) ?_
  clear hK K
  refine anyX_one 15 (by kernel_rfl) ?_
  intro oi ho; simp only [List.getElem?_toArray, List.getElem?_cons_succ, List.getElem?_cons_zero, Option.some.injEq] at ho; subst ho; intro K hK
  (try simp only [Act.put, List.setIfInBounds_toArray, List.set_cons_zero, List.set_cons_succ])
  go_simp
  refine hK _ _ (fun h => by cases h) ?_
  clear hK K
  refine anyX_done (by kernel_rfl) ?_
  (try simp only [Act.put, List.setIfInBounds_toArray, List.set_cons_zero, List.set_cons_succ])
  have HR5 := Lib.hid hR5
  clear hR5 hR3
  simp only [Exit.then]
  go_wp2_with fail
  rw [HPO.out]
  exact ans_good HT.out HR5.out
set_option maxRecDepth 100000 in
set_option maxHeartbeats 4000000 in
theorem ctok_m125 (w0 w : World) (P : Nat) (s : ByteArray) (k : Nat) (ts : List LTok) (h : Rd w0 w P s k ts) (he : Env w0) (hk : k < s.size) (hs : s.size ≤ 1048576) (hn : ts.length ≤ 1048576)
    (hm : (byteAt s k).toNat = 125) :
    Calls Tryd.prog 52 #[.pointer (some ⟨P, 0, none⟩)] w (TokAns w0 P s k ts) := by
  obtain ⟨PO, hPO⟩ : ∃ PO, PO = TokAns w0 P s k ts := ⟨_, rfl⟩
  rw [← hPO]
  have HPO := Lib.hid hPO
  have hdr := dropAt' s k hk
  have hpk := rpeek0_any w0 w P s k ts h (by omega) (by omega)
  have hlet := fun W => clet_any W ((byteAt s k).toNat : Int)
  have hlen := toList_len s
  have h255 := (byteAt s k).toNat_lt
  clear hPO
  have h45 : (byteAt s k).toNat ≠ 45 := by omega
  have hl : isLet (byteAt s k) = false := by
    cases e : isLet (byteAt s k) with
    | false => rfl
    | true => have := (isLet_iff _).1 e; omega
  have hd : isDig (byteAt s k) = false := by
    cases e : isDig (byteAt s k) with
    | false => rfl
    | true => have := (isDig_iff _).1 e; omega
  have HT : Hid (tokR (s.data.toList.drop k) = .good 3 [byteAt s k] 0 1) := Lib.hid (by
    have hn1 : ¬ (isDig (byteAt s k) = true ∨ ((byteAt s k).toNat = 45 ∧ isDig ((s.data.toList.drop (k + 1)).headD 0) = true)) := by
      rintro (x | ⟨x, _⟩)
      · rw [hd] at x; cases x
      · exact h45 x
    rw [hdr, tokR_cons, if_neg (by rw [hl]; simp), if_neg hn1, if_neg (fun x => h45 x.1)]
    rw [if_pos (by unfold isMrk; rw [decide_eq_true_iff]; omega)])
  have e45 : (((byteAt s k).toNat : Int) == 45) = false := b_no (k := 45) h45
  have f123 : (((byteAt s k).toNat : Int) == 123) = false := b_no (k := 123) (by omega)
  have f125 : (((byteAt s k).toNat : Int) == 125) = true := b_yes (k := 125) (by omega)
  obtain ⟨Wd, hWd⟩ : ∃ Wd, s.extract k (k + 1) = Wd := ⟨_, rfl⟩
  have hWe : (⟨[byteAt s k].toArray⟩ : ByteArray) = Wd := by
    apply ByteArray.ext
    apply Array.toList_inj.1
    rw [← hWd, extract_take, hdr]
    rfl
  have hput := fun W (k1 : Nat) R => cput_any w0 W P s k1 ts R 3 [byteAt s k] 0 k (by omega)
  rw [hWe] at hput
  have HW := Lib.hid hWd
  have e1 : letterB ((byteAt s k).toNat : Int) = false := hl
  have hdig := fun W => cdig_any W ((byteAt s k).toNat : Int)
  have e2 : digitB ((byteAt s k).toNat : Int) = false := hd
  rw [e1] at hlet
  rw [e2] at hdig
  obtain ⟨b, hbb⟩ : ∃ b : Int, ((byteAt s k).toNat : Int) = b := ⟨_, rfl⟩
  rw [hbb] at hpk hlet hdig e45 f123 f125
  clear hbb hdr hlen hl hd e1 e2 h45 hm h255 hWd hWe
  go_enter Tryd.func52, Tryd.ntmps52
  obtain ⟨_, c1, _, _, hB⟩ := h.cells
  go_wp2_with fail
  refine hpk.mono ?_
  rintro e w2 ⟨rfl, n2⟩
  have hR2 := h.new n2
  clear hpk h c1
  go_wp2_with fail
  refine (hlet _).mono ?_
  rintro e w3 ⟨rfl, rfl⟩
  obtain ⟨_, y0, y1, _, hB2⟩ := hR2.cells
  have HR3 := Lib.hid (hR2.go (k + 1))
  clear hR2
  go_wp2_with fail
  refine (hdig _).mono ?_
  rintro e w4 ⟨rfl, rfl⟩
  go_wp2_with fail
  obtain ⟨W3, hW3⟩ : ∃ W3, w4.setCell ⟨P, 1, none⟩ (I ((k + 1 : Nat) : Int)) = W3 := ⟨_, rfl⟩
  have hR3 := HR3.out
  rw [hW3] at hR3
  have hxx : w4.setCell ⟨P, 1, none⟩ (I ((k : Int) + 1)) = W3 := hW3
  rw [hxx]
  obtain ⟨x0, x1, _, _, hB3⟩ := hR3.cells
  have hkI : (k : Int) < (s.size : Int) := by omega
  have hSX : (fun w' : World => w'.cell? ⟨P, 0, none⟩ = some (.string s) ∧ w'.cell? ⟨P, 1, none⟩ = some (I ((k + 1 : Nat) : Int))) W3.drew := ⟨New.cell ((New.refl W3).drew) x0, New.cell ((New.refl W3).drew) x1⟩
  refine wp_region_X (fun w' : World => w'.cell? ⟨P, 0, none⟩ = some (.string s) ∧ w'.cell? ⟨P, 1, none⟩ = some (I ((k + 1 : Nat) : Int))) [14, 15] (by kernel_rfl) hSX ?_
  refine anyX_take 0 (by kernel_rfl) (by kernel_rfl) (by kernel_rfl) (by kernel_rfl) (by kernel_rfl) hSX ?_
  intro oi ho; simp only [List.getElem?_toArray, List.getElem?_cons_succ, List.getElem?_cons_zero, Option.some.injEq] at ho; subst ho
  refine ⟨?_, fun _ _ _ h => h, Or.inl ⟨by rfl, ?_⟩, ?_⟩; rotate_left 1
  · (intro wS hSw; (try dsimp only at hSw); go_simp; try with_reducible rfl)
  simp only [Act.put, List.setIfInBounds_toArray, List.set_cons_zero, List.set_cons_succ]
  refine anyX_take 1 (by kernel_rfl) (by kernel_rfl) (by kernel_rfl) (by kernel_rfl) (by kernel_rfl) hSX ?_
  intro oi ho; simp only [List.getElem?_toArray, List.getElem?_cons_succ, List.getElem?_cons_zero, Option.some.injEq] at ho; subst ho
  refine ⟨?_, fun _ _ _ h => h, Or.inl ⟨by rfl, ?_⟩, ?_⟩; rotate_left 1
  · (intro wS hSw; (try dsimp only at hSw); go_simp; try with_reducible rfl)
  simp only [Act.put, List.setIfInBounds_toArray, List.set_cons_zero, List.set_cons_succ]
  refine anyX_take 2 (by kernel_rfl) (by kernel_rfl) (by kernel_rfl) (by kernel_rfl) (by kernel_rfl) hSX ?_
  intro oi ho; simp only [List.getElem?_toArray, List.getElem?_cons_succ, List.getElem?_cons_zero, Option.some.injEq] at ho; subst ho
  refine ⟨?_, fun _ _ _ h => h, Or.inl ⟨by rfl, ?_⟩, ?_⟩; rotate_left 1
  · (intro wS hSw; (try dsimp only at hSw); go_simp; try with_reducible rfl)
  simp only [Act.put, List.setIfInBounds_toArray, List.set_cons_zero, List.set_cons_succ]
  refine anyX_take 3 (by kernel_rfl) (by kernel_rfl) (by kernel_rfl) (by kernel_rfl) (by kernel_rfl) hSX ?_
  intro oi ho; simp only [List.getElem?_toArray, List.getElem?_cons_succ, List.getElem?_cons_zero, Option.some.injEq] at ho; subst ho
  refine ⟨?_, fun _ _ _ h => h, Or.inl ⟨by rfl, ?_⟩, ?_⟩; rotate_left 1
  · (intro wS hSw; (try dsimp only at hSw); go_simp; try with_reducible rfl)
  simp only [Act.put, List.setIfInBounds_toArray, List.set_cons_zero, List.set_cons_succ]
  refine anyX_take 4 (by kernel_rfl) (by kernel_rfl) (by kernel_rfl) (by kernel_rfl) (by kernel_rfl) hSX ?_
  intro oi ho; simp only [List.getElem?_toArray, List.getElem?_cons_succ, List.getElem?_cons_zero, Option.some.injEq] at ho; subst ho
  refine ⟨?_, fun _ _ _ h => h, Or.inl ⟨by rfl, ?_⟩, ?_⟩; rotate_left 1
  · (intro wS hSw; (try dsimp only at hSw); go_simp; try with_reducible rfl)
  simp only [Act.put, List.setIfInBounds_toArray, List.set_cons_zero, List.set_cons_succ]
  refine anyX_take 5 (by kernel_rfl) (by kernel_rfl) (by kernel_rfl) (by kernel_rfl) (by kernel_rfl) hSX ?_
  intro oi ho; simp only [List.getElem?_toArray, List.getElem?_cons_succ, List.getElem?_cons_zero, Option.some.injEq] at ho; subst ho
  refine ⟨?_, fun _ _ _ h => h, Or.inl ⟨by rfl, ?_⟩, ?_⟩; rotate_left 1
  · (intro wS hSw; (try dsimp only at hSw); go_simp; try with_reducible rfl)
  simp only [Act.put, List.setIfInBounds_toArray, List.set_cons_zero, List.set_cons_succ]
  refine anyX_take 6 (by kernel_rfl) (by kernel_rfl) (by kernel_rfl) (by kernel_rfl) (by kernel_rfl) hSX ?_
  intro oi ho; simp only [List.getElem?_toArray, List.getElem?_cons_succ, List.getElem?_cons_zero, Option.some.injEq] at ho; subst ho
  refine ⟨?_, fun _ _ _ h => h, Or.inl ⟨by rfl, ?_⟩, ?_⟩; rotate_left 1
  · (intro wS hSw; (try dsimp only at hSw); go_simp; try with_reducible rfl)
  simp only [Act.put, List.setIfInBounds_toArray, List.set_cons_zero, List.set_cons_succ]
  refine anyX_take 7 (by kernel_rfl) (by kernel_rfl) (by kernel_rfl) (by kernel_rfl) (by kernel_rfl) hSX ?_
  intro oi ho; simp only [List.getElem?_toArray, List.getElem?_cons_succ, List.getElem?_cons_zero, Option.some.injEq] at ho; subst ho
  refine ⟨?_, fun _ _ _ h => h, Or.inl ⟨by rfl, ?_⟩, ?_⟩; rotate_left 1
  · (intro wS hSw; (try dsimp only at hSw); go_simp; try with_reducible rfl)
  simp only [Act.put, List.setIfInBounds_toArray, List.set_cons_zero, List.set_cons_succ]
  refine anyX_take 8 (by kernel_rfl) (by kernel_rfl) (by kernel_rfl) (by kernel_rfl) (by kernel_rfl) hSX ?_
  intro oi ho; simp only [List.getElem?_toArray, List.getElem?_cons_succ, List.getElem?_cons_zero, Option.some.injEq] at ho; subst ho
  refine ⟨?_, fun _ _ _ h => h, Or.inl ⟨by rfl, ?_⟩, ?_⟩; rotate_left 1
  · (intro wS hSw; (try dsimp only at hSw); go_simp; try with_reducible rfl)
  simp only [Act.put, List.setIfInBounds_toArray, List.set_cons_zero, List.set_cons_succ]
  refine anyX_take 9 (by kernel_rfl) (by kernel_rfl) (by kernel_rfl) (by kernel_rfl) (by kernel_rfl) hSX ?_
  intro oi ho; simp only [List.getElem?_toArray, List.getElem?_cons_succ, List.getElem?_cons_zero, Option.some.injEq] at ho; subst ho
  refine ⟨?_, fun _ _ _ h => h, Or.inl ⟨by rfl, ?_⟩, ?_⟩; rotate_left 1
  · (intro wS hSw; (try dsimp only at hSw); go_simp; try with_reducible rfl)
  simp only [Act.put, List.setIfInBounds_toArray, List.set_cons_zero, List.set_cons_succ]
  refine anyX_take 10 (by kernel_rfl) (by kernel_rfl) (by kernel_rfl) (by kernel_rfl) (by kernel_rfl) hSX ?_
  intro oi ho; simp only [List.getElem?_toArray, List.getElem?_cons_succ, List.getElem?_cons_zero, Option.some.injEq] at ho; subst ho
  refine ⟨?_, fun _ _ _ h => h, Or.inl ⟨by rfl, ?_⟩, ?_⟩; rotate_left 1
  · (intro wS hSw; (try dsimp only at hSw); go_simp; try with_reducible rfl)
  simp only [Act.put, List.setIfInBounds_toArray, List.set_cons_zero, List.set_cons_succ]
  refine anyX_take 11 (by kernel_rfl) (by kernel_rfl) (by kernel_rfl) (by kernel_rfl) (by kernel_rfl) hSX ?_
  intro oi ho; simp only [List.getElem?_toArray, List.getElem?_cons_succ, List.getElem?_cons_zero, Option.some.injEq] at ho; subst ho
  refine ⟨?_, fun _ _ _ h => h, Or.inl ⟨by rfl, ?_⟩, ?_⟩; rotate_left 1
  · (intro wS hSw; (try dsimp only at hSw); go_simp; try with_reducible rfl)
  simp only [Act.put, List.setIfInBounds_toArray, List.set_cons_zero, List.set_cons_succ]
  refine anyX_take 12 (by kernel_rfl) (by kernel_rfl) (by kernel_rfl) (by kernel_rfl) (by kernel_rfl) hSX ?_
  intro oi ho; simp only [List.getElem?_toArray, List.getElem?_cons_succ, List.getElem?_cons_zero, Option.some.injEq] at ho; subst ho
  refine ⟨.string Wd, fun _ _ _ h => h, Or.inl ⟨by rfl, ?_⟩, ?_⟩
  · (intro wS hSw; (try dsimp only at hSw); go_simp; rw [if_pos ⟨by omega, by omega⟩, if_pos (by omega), HW.out])
  simp only [Act.put, List.setIfInBounds_toArray, List.set_cons_zero, List.set_cons_succ]
  refine anyX_take 13 (by kernel_rfl) (by kernel_rfl) (by kernel_rfl) (by kernel_rfl) (by kernel_rfl) hSX ?_
  intro oi ho; simp only [List.getElem?_toArray, List.getElem?_cons_succ, List.getElem?_cons_zero, Option.some.injEq] at ho; subst ho
  refine ⟨?_, fun _ _ _ h => h, Or.inl ⟨by rfl, ?_⟩, ?_⟩; rotate_left 1
  · (intro wS hSw; (try dsimp only at hSw); go_simp; try with_reducible rfl)
  simp only [Act.put, List.setIfInBounds_toArray, List.set_cons_zero, List.set_cons_succ]
  refine anyX_one 14 (by kernel_rfl) ?_
  intro oi ho; simp only [List.getElem?_toArray, List.getElem?_cons_succ, List.getElem?_cons_zero, Option.some.injEq] at ho; subst ho; intro K hK
  (try simp only [Act.put, List.setIfInBounds_toArray, List.set_cons_zero, List.set_cons_succ])
  go_simp
  refine (hput _ _ (hR3.new ((New.refl W3).drew))).mono ?_
  rintro e w5 ⟨rfl, hR5⟩
  refine hK _ _ (fun h => by cases h) ?_
  clear hK K
  refine anyX_one 15 (by kernel_rfl) ?_
  intro oi ho; simp only [List.getElem?_toArray, List.getElem?_cons_succ, List.getElem?_cons_zero, Option.some.injEq] at ho; subst ho; intro K hK
  (try simp only [Act.put, List.setIfInBounds_toArray, List.set_cons_zero, List.set_cons_succ])
  go_simp
  refine hK _ _ (fun h => by cases h) ?_
  clear hK K
  refine anyX_done (by kernel_rfl) ?_
  (try simp only [Act.put, List.setIfInBounds_toArray, List.set_cons_zero, List.set_cons_succ])
  have HR5 := Lib.hid hR5
  clear hR5 hR3
  simp only [Exit.then]
  go_wp2_with fail
  rw [HPO.out]
  exact ans_good HT.out HR5.out
set_option maxRecDepth 100000 in
set_option maxHeartbeats 4000000 in
theorem ctok_m61 (w0 w : World) (P : Nat) (s : ByteArray) (k : Nat) (ts : List LTok) (h : Rd w0 w P s k ts) (he : Env w0) (hk : k < s.size) (hs : s.size ≤ 1048576) (hn : ts.length ≤ 1048576)
    (hm : (byteAt s k).toNat = 61) :
    Calls Tryd.prog 52 #[.pointer (some ⟨P, 0, none⟩)] w (TokAns w0 P s k ts) := by
  obtain ⟨PO, hPO⟩ : ∃ PO, PO = TokAns w0 P s k ts := ⟨_, rfl⟩
  rw [← hPO]
  have HPO := Lib.hid hPO
  have hdr := dropAt' s k hk
  have hpk := rpeek0_any w0 w P s k ts h (by omega) (by omega)
  have hlet := fun W => clet_any W ((byteAt s k).toNat : Int)
  have hlen := toList_len s
  have h255 := (byteAt s k).toNat_lt
  clear hPO
  have h45 : (byteAt s k).toNat ≠ 45 := by omega
  have hl : isLet (byteAt s k) = false := by
    cases e : isLet (byteAt s k) with
    | false => rfl
    | true => have := (isLet_iff _).1 e; omega
  have hd : isDig (byteAt s k) = false := by
    cases e : isDig (byteAt s k) with
    | false => rfl
    | true => have := (isDig_iff _).1 e; omega
  have HT : Hid (tokR (s.data.toList.drop k) = .good 3 [byteAt s k] 0 1) := Lib.hid (by
    have hn1 : ¬ (isDig (byteAt s k) = true ∨ ((byteAt s k).toNat = 45 ∧ isDig ((s.data.toList.drop (k + 1)).headD 0) = true)) := by
      rintro (x | ⟨x, _⟩)
      · rw [hd] at x; cases x
      · exact h45 x
    rw [hdr, tokR_cons, if_neg (by rw [hl]; simp), if_neg hn1, if_neg (fun x => h45 x.1)]
    rw [if_pos (by unfold isMrk; rw [decide_eq_true_iff]; omega)])
  have e45 : (((byteAt s k).toNat : Int) == 45) = false := b_no (k := 45) h45
  have f123 : (((byteAt s k).toNat : Int) == 123) = false := b_no (k := 123) (by omega)
  have f125 : (((byteAt s k).toNat : Int) == 125) = false := b_no (k := 125) (by omega)
  have f61 : (((byteAt s k).toNat : Int) == 61) = true := b_yes (k := 61) (by omega)
  obtain ⟨Wd, hWd⟩ : ∃ Wd, s.extract k (k + 1) = Wd := ⟨_, rfl⟩
  have hWe : (⟨[byteAt s k].toArray⟩ : ByteArray) = Wd := by
    apply ByteArray.ext
    apply Array.toList_inj.1
    rw [← hWd, extract_take, hdr]
    rfl
  have hput := fun W (k1 : Nat) R => cput_any w0 W P s k1 ts R 3 [byteAt s k] 0 k (by omega)
  rw [hWe] at hput
  have HW := Lib.hid hWd
  have e1 : letterB ((byteAt s k).toNat : Int) = false := hl
  have hdig := fun W => cdig_any W ((byteAt s k).toNat : Int)
  have e2 : digitB ((byteAt s k).toNat : Int) = false := hd
  rw [e1] at hlet
  rw [e2] at hdig
  obtain ⟨b, hbb⟩ : ∃ b : Int, ((byteAt s k).toNat : Int) = b := ⟨_, rfl⟩
  rw [hbb] at hpk hlet hdig e45 f123 f125 f61
  clear hbb hdr hlen hl hd e1 e2 h45 hm h255 hWd hWe
  go_enter Tryd.func52, Tryd.ntmps52
  obtain ⟨_, c1, _, _, hB⟩ := h.cells
  go_wp2_with fail
  refine hpk.mono ?_
  rintro e w2 ⟨rfl, n2⟩
  have hR2 := h.new n2
  clear hpk h c1
  go_wp2_with fail
  refine (hlet _).mono ?_
  rintro e w3 ⟨rfl, rfl⟩
  obtain ⟨_, y0, y1, _, hB2⟩ := hR2.cells
  have HR3 := Lib.hid (hR2.go (k + 1))
  clear hR2
  go_wp2_with fail
  refine (hdig _).mono ?_
  rintro e w4 ⟨rfl, rfl⟩
  go_wp2_with fail
  obtain ⟨W3, hW3⟩ : ∃ W3, w4.setCell ⟨P, 1, none⟩ (I ((k + 1 : Nat) : Int)) = W3 := ⟨_, rfl⟩
  have hR3 := HR3.out
  rw [hW3] at hR3
  have hxx : w4.setCell ⟨P, 1, none⟩ (I ((k : Int) + 1)) = W3 := hW3
  rw [hxx]
  obtain ⟨x0, x1, _, _, hB3⟩ := hR3.cells
  have hkI : (k : Int) < (s.size : Int) := by omega
  have hSX : (fun w' : World => w'.cell? ⟨P, 0, none⟩ = some (.string s) ∧ w'.cell? ⟨P, 1, none⟩ = some (I ((k + 1 : Nat) : Int))) W3.drew := ⟨New.cell ((New.refl W3).drew) x0, New.cell ((New.refl W3).drew) x1⟩
  refine wp_region_X (fun w' : World => w'.cell? ⟨P, 0, none⟩ = some (.string s) ∧ w'.cell? ⟨P, 1, none⟩ = some (I ((k + 1 : Nat) : Int))) [14, 15] (by kernel_rfl) hSX ?_
  refine anyX_take 0 (by kernel_rfl) (by kernel_rfl) (by kernel_rfl) (by kernel_rfl) (by kernel_rfl) hSX ?_
  intro oi ho; simp only [List.getElem?_toArray, List.getElem?_cons_succ, List.getElem?_cons_zero, Option.some.injEq] at ho; subst ho
  refine ⟨?_, fun _ _ _ h => h, Or.inl ⟨by rfl, ?_⟩, ?_⟩; rotate_left 1
  · (intro wS hSw; (try dsimp only at hSw); go_simp; try with_reducible rfl)
  simp only [Act.put, List.setIfInBounds_toArray, List.set_cons_zero, List.set_cons_succ]
  refine anyX_take 1 (by kernel_rfl) (by kernel_rfl) (by kernel_rfl) (by kernel_rfl) (by kernel_rfl) hSX ?_
  intro oi ho; simp only [List.getElem?_toArray, List.getElem?_cons_succ, List.getElem?_cons_zero, Option.some.injEq] at ho; subst ho
  refine ⟨?_, fun _ _ _ h => h, Or.inl ⟨by rfl, ?_⟩, ?_⟩; rotate_left 1
  · (intro wS hSw; (try dsimp only at hSw); go_simp; try with_reducible rfl)
  simp only [Act.put, List.setIfInBounds_toArray, List.set_cons_zero, List.set_cons_succ]
  refine anyX_take 2 (by kernel_rfl) (by kernel_rfl) (by kernel_rfl) (by kernel_rfl) (by kernel_rfl) hSX ?_
  intro oi ho; simp only [List.getElem?_toArray, List.getElem?_cons_succ, List.getElem?_cons_zero, Option.some.injEq] at ho; subst ho
  refine ⟨?_, fun _ _ _ h => h, Or.inl ⟨by rfl, ?_⟩, ?_⟩; rotate_left 1
  · (intro wS hSw; (try dsimp only at hSw); go_simp; try with_reducible rfl)
  simp only [Act.put, List.setIfInBounds_toArray, List.set_cons_zero, List.set_cons_succ]
  refine anyX_take 3 (by kernel_rfl) (by kernel_rfl) (by kernel_rfl) (by kernel_rfl) (by kernel_rfl) hSX ?_
  intro oi ho; simp only [List.getElem?_toArray, List.getElem?_cons_succ, List.getElem?_cons_zero, Option.some.injEq] at ho; subst ho
  refine ⟨?_, fun _ _ _ h => h, Or.inl ⟨by rfl, ?_⟩, ?_⟩; rotate_left 1
  · (intro wS hSw; (try dsimp only at hSw); go_simp; try with_reducible rfl)
  simp only [Act.put, List.setIfInBounds_toArray, List.set_cons_zero, List.set_cons_succ]
  refine anyX_take 4 (by kernel_rfl) (by kernel_rfl) (by kernel_rfl) (by kernel_rfl) (by kernel_rfl) hSX ?_
  intro oi ho; simp only [List.getElem?_toArray, List.getElem?_cons_succ, List.getElem?_cons_zero, Option.some.injEq] at ho; subst ho
  refine ⟨?_, fun _ _ _ h => h, Or.inl ⟨by rfl, ?_⟩, ?_⟩; rotate_left 1
  · (intro wS hSw; (try dsimp only at hSw); go_simp; try with_reducible rfl)
  simp only [Act.put, List.setIfInBounds_toArray, List.set_cons_zero, List.set_cons_succ]
  refine anyX_take 5 (by kernel_rfl) (by kernel_rfl) (by kernel_rfl) (by kernel_rfl) (by kernel_rfl) hSX ?_
  intro oi ho; simp only [List.getElem?_toArray, List.getElem?_cons_succ, List.getElem?_cons_zero, Option.some.injEq] at ho; subst ho
  refine ⟨?_, fun _ _ _ h => h, Or.inl ⟨by rfl, ?_⟩, ?_⟩; rotate_left 1
  · (intro wS hSw; (try dsimp only at hSw); go_simp; try with_reducible rfl)
  simp only [Act.put, List.setIfInBounds_toArray, List.set_cons_zero, List.set_cons_succ]
  refine anyX_take 6 (by kernel_rfl) (by kernel_rfl) (by kernel_rfl) (by kernel_rfl) (by kernel_rfl) hSX ?_
  intro oi ho; simp only [List.getElem?_toArray, List.getElem?_cons_succ, List.getElem?_cons_zero, Option.some.injEq] at ho; subst ho
  refine ⟨?_, fun _ _ _ h => h, Or.inl ⟨by rfl, ?_⟩, ?_⟩; rotate_left 1
  · (intro wS hSw; (try dsimp only at hSw); go_simp; try with_reducible rfl)
  simp only [Act.put, List.setIfInBounds_toArray, List.set_cons_zero, List.set_cons_succ]
  refine anyX_take 7 (by kernel_rfl) (by kernel_rfl) (by kernel_rfl) (by kernel_rfl) (by kernel_rfl) hSX ?_
  intro oi ho; simp only [List.getElem?_toArray, List.getElem?_cons_succ, List.getElem?_cons_zero, Option.some.injEq] at ho; subst ho
  refine ⟨?_, fun _ _ _ h => h, Or.inl ⟨by rfl, ?_⟩, ?_⟩; rotate_left 1
  · (intro wS hSw; (try dsimp only at hSw); go_simp; try with_reducible rfl)
  simp only [Act.put, List.setIfInBounds_toArray, List.set_cons_zero, List.set_cons_succ]
  refine anyX_take 8 (by kernel_rfl) (by kernel_rfl) (by kernel_rfl) (by kernel_rfl) (by kernel_rfl) hSX ?_
  intro oi ho; simp only [List.getElem?_toArray, List.getElem?_cons_succ, List.getElem?_cons_zero, Option.some.injEq] at ho; subst ho
  refine ⟨?_, fun _ _ _ h => h, Or.inl ⟨by rfl, ?_⟩, ?_⟩; rotate_left 1
  · (intro wS hSw; (try dsimp only at hSw); go_simp; try with_reducible rfl)
  simp only [Act.put, List.setIfInBounds_toArray, List.set_cons_zero, List.set_cons_succ]
  refine anyX_take 9 (by kernel_rfl) (by kernel_rfl) (by kernel_rfl) (by kernel_rfl) (by kernel_rfl) hSX ?_
  intro oi ho; simp only [List.getElem?_toArray, List.getElem?_cons_succ, List.getElem?_cons_zero, Option.some.injEq] at ho; subst ho
  refine ⟨?_, fun _ _ _ h => h, Or.inl ⟨by rfl, ?_⟩, ?_⟩; rotate_left 1
  · (intro wS hSw; (try dsimp only at hSw); go_simp; try with_reducible rfl)
  simp only [Act.put, List.setIfInBounds_toArray, List.set_cons_zero, List.set_cons_succ]
  refine anyX_take 10 (by kernel_rfl) (by kernel_rfl) (by kernel_rfl) (by kernel_rfl) (by kernel_rfl) hSX ?_
  intro oi ho; simp only [List.getElem?_toArray, List.getElem?_cons_succ, List.getElem?_cons_zero, Option.some.injEq] at ho; subst ho
  refine ⟨?_, fun _ _ _ h => h, Or.inl ⟨by rfl, ?_⟩, ?_⟩; rotate_left 1
  · (intro wS hSw; (try dsimp only at hSw); go_simp; try with_reducible rfl)
  simp only [Act.put, List.setIfInBounds_toArray, List.set_cons_zero, List.set_cons_succ]
  refine anyX_take 11 (by kernel_rfl) (by kernel_rfl) (by kernel_rfl) (by kernel_rfl) (by kernel_rfl) hSX ?_
  intro oi ho; simp only [List.getElem?_toArray, List.getElem?_cons_succ, List.getElem?_cons_zero, Option.some.injEq] at ho; subst ho
  refine ⟨?_, fun _ _ _ h => h, Or.inl ⟨by rfl, ?_⟩, ?_⟩; rotate_left 1
  · (intro wS hSw; (try dsimp only at hSw); go_simp; try with_reducible rfl)
  simp only [Act.put, List.setIfInBounds_toArray, List.set_cons_zero, List.set_cons_succ]
  refine anyX_take 12 (by kernel_rfl) (by kernel_rfl) (by kernel_rfl) (by kernel_rfl) (by kernel_rfl) hSX ?_
  intro oi ho; simp only [List.getElem?_toArray, List.getElem?_cons_succ, List.getElem?_cons_zero, Option.some.injEq] at ho; subst ho
  refine ⟨.string Wd, fun _ _ _ h => h, Or.inl ⟨by rfl, ?_⟩, ?_⟩
  · (intro wS hSw; (try dsimp only at hSw); go_simp; rw [if_pos ⟨by omega, by omega⟩, if_pos (by omega), HW.out])
  simp only [Act.put, List.setIfInBounds_toArray, List.set_cons_zero, List.set_cons_succ]
  refine anyX_take 13 (by kernel_rfl) (by kernel_rfl) (by kernel_rfl) (by kernel_rfl) (by kernel_rfl) hSX ?_
  intro oi ho; simp only [List.getElem?_toArray, List.getElem?_cons_succ, List.getElem?_cons_zero, Option.some.injEq] at ho; subst ho
  refine ⟨?_, fun _ _ _ h => h, Or.inl ⟨by rfl, ?_⟩, ?_⟩; rotate_left 1
  · (intro wS hSw; (try dsimp only at hSw); go_simp; try with_reducible rfl)
  simp only [Act.put, List.setIfInBounds_toArray, List.set_cons_zero, List.set_cons_succ]
  refine anyX_one 14 (by kernel_rfl) ?_
  intro oi ho; simp only [List.getElem?_toArray, List.getElem?_cons_succ, List.getElem?_cons_zero, Option.some.injEq] at ho; subst ho; intro K hK
  (try simp only [Act.put, List.setIfInBounds_toArray, List.set_cons_zero, List.set_cons_succ])
  go_simp
  refine (hput _ _ (hR3.new ((New.refl W3).drew))).mono ?_
  rintro e w5 ⟨rfl, hR5⟩
  refine hK _ _ (fun h => by cases h) ?_
  clear hK K
  refine anyX_one 15 (by kernel_rfl) ?_
  intro oi ho; simp only [List.getElem?_toArray, List.getElem?_cons_succ, List.getElem?_cons_zero, Option.some.injEq] at ho; subst ho; intro K hK
  (try simp only [Act.put, List.setIfInBounds_toArray, List.set_cons_zero, List.set_cons_succ])
  go_simp
  refine hK _ _ (fun h => by cases h) ?_
  clear hK K
  refine anyX_done (by kernel_rfl) ?_
  (try simp only [Act.put, List.setIfInBounds_toArray, List.set_cons_zero, List.set_cons_succ])
  have HR5 := Lib.hid hR5
  clear hR5 hR3
  simp only [Exit.then]
  go_wp2_with fail
  rw [HPO.out]
  exact ans_good HT.out HR5.out
set_option maxRecDepth 100000 in
set_option maxHeartbeats 4000000 in
theorem ctok_m59 (w0 w : World) (P : Nat) (s : ByteArray) (k : Nat) (ts : List LTok) (h : Rd w0 w P s k ts) (he : Env w0) (hk : k < s.size) (hs : s.size ≤ 1048576) (hn : ts.length ≤ 1048576)
    (hm : (byteAt s k).toNat = 59) :
    Calls Tryd.prog 52 #[.pointer (some ⟨P, 0, none⟩)] w (TokAns w0 P s k ts) := by
  obtain ⟨PO, hPO⟩ : ∃ PO, PO = TokAns w0 P s k ts := ⟨_, rfl⟩
  rw [← hPO]
  have HPO := Lib.hid hPO
  have hdr := dropAt' s k hk
  have hpk := rpeek0_any w0 w P s k ts h (by omega) (by omega)
  have hlet := fun W => clet_any W ((byteAt s k).toNat : Int)
  have hlen := toList_len s
  have h255 := (byteAt s k).toNat_lt
  clear hPO
  have h45 : (byteAt s k).toNat ≠ 45 := by omega
  have hl : isLet (byteAt s k) = false := by
    cases e : isLet (byteAt s k) with
    | false => rfl
    | true => have := (isLet_iff _).1 e; omega
  have hd : isDig (byteAt s k) = false := by
    cases e : isDig (byteAt s k) with
    | false => rfl
    | true => have := (isDig_iff _).1 e; omega
  have HT : Hid (tokR (s.data.toList.drop k) = .good 3 [byteAt s k] 0 1) := Lib.hid (by
    have hn1 : ¬ (isDig (byteAt s k) = true ∨ ((byteAt s k).toNat = 45 ∧ isDig ((s.data.toList.drop (k + 1)).headD 0) = true)) := by
      rintro (x | ⟨x, _⟩)
      · rw [hd] at x; cases x
      · exact h45 x
    rw [hdr, tokR_cons, if_neg (by rw [hl]; simp), if_neg hn1, if_neg (fun x => h45 x.1)]
    rw [if_pos (by unfold isMrk; rw [decide_eq_true_iff]; omega)])
  have e45 : (((byteAt s k).toNat : Int) == 45) = false := b_no (k := 45) h45
  have f123 : (((byteAt s k).toNat : Int) == 123) = false := b_no (k := 123) (by omega)
  have f125 : (((byteAt s k).toNat : Int) == 125) = false := b_no (k := 125) (by omega)
  have f61 : (((byteAt s k).toNat : Int) == 61) = false := b_no (k := 61) (by omega)
  have f59 : (((byteAt s k).toNat : Int) == 59) = true := b_yes (k := 59) (by omega)
  obtain ⟨Wd, hWd⟩ : ∃ Wd, s.extract k (k + 1) = Wd := ⟨_, rfl⟩
  have hWe : (⟨[byteAt s k].toArray⟩ : ByteArray) = Wd := by
    apply ByteArray.ext
    apply Array.toList_inj.1
    rw [← hWd, extract_take, hdr]
    rfl
  have hput := fun W (k1 : Nat) R => cput_any w0 W P s k1 ts R 3 [byteAt s k] 0 k (by omega)
  rw [hWe] at hput
  have HW := Lib.hid hWd
  have e1 : letterB ((byteAt s k).toNat : Int) = false := hl
  have hdig := fun W => cdig_any W ((byteAt s k).toNat : Int)
  have e2 : digitB ((byteAt s k).toNat : Int) = false := hd
  rw [e1] at hlet
  rw [e2] at hdig
  obtain ⟨b, hbb⟩ : ∃ b : Int, ((byteAt s k).toNat : Int) = b := ⟨_, rfl⟩
  rw [hbb] at hpk hlet hdig e45 f123 f125 f61 f59
  clear hbb hdr hlen hl hd e1 e2 h45 hm h255 hWd hWe
  go_enter Tryd.func52, Tryd.ntmps52
  obtain ⟨_, c1, _, _, hB⟩ := h.cells
  go_wp2_with fail
  refine hpk.mono ?_
  rintro e w2 ⟨rfl, n2⟩
  have hR2 := h.new n2
  clear hpk h c1
  go_wp2_with fail
  refine (hlet _).mono ?_
  rintro e w3 ⟨rfl, rfl⟩
  obtain ⟨_, y0, y1, _, hB2⟩ := hR2.cells
  have HR3 := Lib.hid (hR2.go (k + 1))
  clear hR2
  go_wp2_with fail
  refine (hdig _).mono ?_
  rintro e w4 ⟨rfl, rfl⟩
  go_wp2_with fail
  obtain ⟨W3, hW3⟩ : ∃ W3, w4.setCell ⟨P, 1, none⟩ (I ((k + 1 : Nat) : Int)) = W3 := ⟨_, rfl⟩
  have hR3 := HR3.out
  rw [hW3] at hR3
  have hxx : w4.setCell ⟨P, 1, none⟩ (I ((k : Int) + 1)) = W3 := hW3
  rw [hxx]
  obtain ⟨x0, x1, _, _, hB3⟩ := hR3.cells
  have hkI : (k : Int) < (s.size : Int) := by omega
  have hSX : (fun w' : World => w'.cell? ⟨P, 0, none⟩ = some (.string s) ∧ w'.cell? ⟨P, 1, none⟩ = some (I ((k + 1 : Nat) : Int))) W3.drew := ⟨New.cell ((New.refl W3).drew) x0, New.cell ((New.refl W3).drew) x1⟩
  refine wp_region_X (fun w' : World => w'.cell? ⟨P, 0, none⟩ = some (.string s) ∧ w'.cell? ⟨P, 1, none⟩ = some (I ((k + 1 : Nat) : Int))) [14, 15] (by kernel_rfl) hSX ?_
  refine anyX_take 0 (by kernel_rfl) (by kernel_rfl) (by kernel_rfl) (by kernel_rfl) (by kernel_rfl) hSX ?_
  intro oi ho; simp only [List.getElem?_toArray, List.getElem?_cons_succ, List.getElem?_cons_zero, Option.some.injEq] at ho; subst ho
  refine ⟨?_, fun _ _ _ h => h, Or.inl ⟨by rfl, ?_⟩, ?_⟩; rotate_left 1
  · (intro wS hSw; (try dsimp only at hSw); go_simp; try with_reducible rfl)
  simp only [Act.put, List.setIfInBounds_toArray, List.set_cons_zero, List.set_cons_succ]
  refine anyX_take 1 (by kernel_rfl) (by kernel_rfl) (by kernel_rfl) (by kernel_rfl) (by kernel_rfl) hSX ?_
  intro oi ho; simp only [List.getElem?_toArray, List.getElem?_cons_succ, List.getElem?_cons_zero, Option.some.injEq] at ho; subst ho
  refine ⟨?_, fun _ _ _ h => h, Or.inl ⟨by rfl, ?_⟩, ?_⟩; rotate_left 1
  · (intro wS hSw; (try dsimp only at hSw); go_simp; try with_reducible rfl)
  simp only [Act.put, List.setIfInBounds_toArray, List.set_cons_zero, List.set_cons_succ]
  refine anyX_take 2 (by kernel_rfl) (by kernel_rfl) (by kernel_rfl) (by kernel_rfl) (by kernel_rfl) hSX ?_
  intro oi ho; simp only [List.getElem?_toArray, List.getElem?_cons_succ, List.getElem?_cons_zero, Option.some.injEq] at ho; subst ho
  refine ⟨?_, fun _ _ _ h => h, Or.inl ⟨by rfl, ?_⟩, ?_⟩; rotate_left 1
  · (intro wS hSw; (try dsimp only at hSw); go_simp; try with_reducible rfl)
  simp only [Act.put, List.setIfInBounds_toArray, List.set_cons_zero, List.set_cons_succ]
  refine anyX_take 3 (by kernel_rfl) (by kernel_rfl) (by kernel_rfl) (by kernel_rfl) (by kernel_rfl) hSX ?_
  intro oi ho; simp only [List.getElem?_toArray, List.getElem?_cons_succ, List.getElem?_cons_zero, Option.some.injEq] at ho; subst ho
  refine ⟨?_, fun _ _ _ h => h, Or.inl ⟨by rfl, ?_⟩, ?_⟩; rotate_left 1
  · (intro wS hSw; (try dsimp only at hSw); go_simp; try with_reducible rfl)
  simp only [Act.put, List.setIfInBounds_toArray, List.set_cons_zero, List.set_cons_succ]
  refine anyX_take 4 (by kernel_rfl) (by kernel_rfl) (by kernel_rfl) (by kernel_rfl) (by kernel_rfl) hSX ?_
  intro oi ho; simp only [List.getElem?_toArray, List.getElem?_cons_succ, List.getElem?_cons_zero, Option.some.injEq] at ho; subst ho
  refine ⟨?_, fun _ _ _ h => h, Or.inl ⟨by rfl, ?_⟩, ?_⟩; rotate_left 1
  · (intro wS hSw; (try dsimp only at hSw); go_simp; try with_reducible rfl)
  simp only [Act.put, List.setIfInBounds_toArray, List.set_cons_zero, List.set_cons_succ]
  refine anyX_take 5 (by kernel_rfl) (by kernel_rfl) (by kernel_rfl) (by kernel_rfl) (by kernel_rfl) hSX ?_
  intro oi ho; simp only [List.getElem?_toArray, List.getElem?_cons_succ, List.getElem?_cons_zero, Option.some.injEq] at ho; subst ho
  refine ⟨?_, fun _ _ _ h => h, Or.inl ⟨by rfl, ?_⟩, ?_⟩; rotate_left 1
  · (intro wS hSw; (try dsimp only at hSw); go_simp; try with_reducible rfl)
  simp only [Act.put, List.setIfInBounds_toArray, List.set_cons_zero, List.set_cons_succ]
  refine anyX_take 6 (by kernel_rfl) (by kernel_rfl) (by kernel_rfl) (by kernel_rfl) (by kernel_rfl) hSX ?_
  intro oi ho; simp only [List.getElem?_toArray, List.getElem?_cons_succ, List.getElem?_cons_zero, Option.some.injEq] at ho; subst ho
  refine ⟨?_, fun _ _ _ h => h, Or.inl ⟨by rfl, ?_⟩, ?_⟩; rotate_left 1
  · (intro wS hSw; (try dsimp only at hSw); go_simp; try with_reducible rfl)
  simp only [Act.put, List.setIfInBounds_toArray, List.set_cons_zero, List.set_cons_succ]
  refine anyX_take 7 (by kernel_rfl) (by kernel_rfl) (by kernel_rfl) (by kernel_rfl) (by kernel_rfl) hSX ?_
  intro oi ho; simp only [List.getElem?_toArray, List.getElem?_cons_succ, List.getElem?_cons_zero, Option.some.injEq] at ho; subst ho
  refine ⟨?_, fun _ _ _ h => h, Or.inl ⟨by rfl, ?_⟩, ?_⟩; rotate_left 1
  · (intro wS hSw; (try dsimp only at hSw); go_simp; try with_reducible rfl)
  simp only [Act.put, List.setIfInBounds_toArray, List.set_cons_zero, List.set_cons_succ]
  refine anyX_take 8 (by kernel_rfl) (by kernel_rfl) (by kernel_rfl) (by kernel_rfl) (by kernel_rfl) hSX ?_
  intro oi ho; simp only [List.getElem?_toArray, List.getElem?_cons_succ, List.getElem?_cons_zero, Option.some.injEq] at ho; subst ho
  refine ⟨?_, fun _ _ _ h => h, Or.inl ⟨by rfl, ?_⟩, ?_⟩; rotate_left 1
  · (intro wS hSw; (try dsimp only at hSw); go_simp; try with_reducible rfl)
  simp only [Act.put, List.setIfInBounds_toArray, List.set_cons_zero, List.set_cons_succ]
  refine anyX_take 9 (by kernel_rfl) (by kernel_rfl) (by kernel_rfl) (by kernel_rfl) (by kernel_rfl) hSX ?_
  intro oi ho; simp only [List.getElem?_toArray, List.getElem?_cons_succ, List.getElem?_cons_zero, Option.some.injEq] at ho; subst ho
  refine ⟨?_, fun _ _ _ h => h, Or.inl ⟨by rfl, ?_⟩, ?_⟩; rotate_left 1
  · (intro wS hSw; (try dsimp only at hSw); go_simp; try with_reducible rfl)
  simp only [Act.put, List.setIfInBounds_toArray, List.set_cons_zero, List.set_cons_succ]
  refine anyX_take 10 (by kernel_rfl) (by kernel_rfl) (by kernel_rfl) (by kernel_rfl) (by kernel_rfl) hSX ?_
  intro oi ho; simp only [List.getElem?_toArray, List.getElem?_cons_succ, List.getElem?_cons_zero, Option.some.injEq] at ho; subst ho
  refine ⟨?_, fun _ _ _ h => h, Or.inl ⟨by rfl, ?_⟩, ?_⟩; rotate_left 1
  · (intro wS hSw; (try dsimp only at hSw); go_simp; try with_reducible rfl)
  simp only [Act.put, List.setIfInBounds_toArray, List.set_cons_zero, List.set_cons_succ]
  refine anyX_take 11 (by kernel_rfl) (by kernel_rfl) (by kernel_rfl) (by kernel_rfl) (by kernel_rfl) hSX ?_
  intro oi ho; simp only [List.getElem?_toArray, List.getElem?_cons_succ, List.getElem?_cons_zero, Option.some.injEq] at ho; subst ho
  refine ⟨?_, fun _ _ _ h => h, Or.inl ⟨by rfl, ?_⟩, ?_⟩; rotate_left 1
  · (intro wS hSw; (try dsimp only at hSw); go_simp; try with_reducible rfl)
  simp only [Act.put, List.setIfInBounds_toArray, List.set_cons_zero, List.set_cons_succ]
  refine anyX_take 12 (by kernel_rfl) (by kernel_rfl) (by kernel_rfl) (by kernel_rfl) (by kernel_rfl) hSX ?_
  intro oi ho; simp only [List.getElem?_toArray, List.getElem?_cons_succ, List.getElem?_cons_zero, Option.some.injEq] at ho; subst ho
  refine ⟨.string Wd, fun _ _ _ h => h, Or.inl ⟨by rfl, ?_⟩, ?_⟩
  · (intro wS hSw; (try dsimp only at hSw); go_simp; rw [if_pos ⟨by omega, by omega⟩, if_pos (by omega), HW.out])
  simp only [Act.put, List.setIfInBounds_toArray, List.set_cons_zero, List.set_cons_succ]
  refine anyX_take 13 (by kernel_rfl) (by kernel_rfl) (by kernel_rfl) (by kernel_rfl) (by kernel_rfl) hSX ?_
  intro oi ho; simp only [List.getElem?_toArray, List.getElem?_cons_succ, List.getElem?_cons_zero, Option.some.injEq] at ho; subst ho
  refine ⟨?_, fun _ _ _ h => h, Or.inl ⟨by rfl, ?_⟩, ?_⟩; rotate_left 1
  · (intro wS hSw; (try dsimp only at hSw); go_simp; try with_reducible rfl)
  simp only [Act.put, List.setIfInBounds_toArray, List.set_cons_zero, List.set_cons_succ]
  refine anyX_one 14 (by kernel_rfl) ?_
  intro oi ho; simp only [List.getElem?_toArray, List.getElem?_cons_succ, List.getElem?_cons_zero, Option.some.injEq] at ho; subst ho; intro K hK
  (try simp only [Act.put, List.setIfInBounds_toArray, List.set_cons_zero, List.set_cons_succ])
  go_simp
  refine (hput _ _ (hR3.new ((New.refl W3).drew))).mono ?_
  rintro e w5 ⟨rfl, hR5⟩
  refine hK _ _ (fun h => by cases h) ?_
  clear hK K
  refine anyX_one 15 (by kernel_rfl) ?_
  intro oi ho; simp only [List.getElem?_toArray, List.getElem?_cons_succ, List.getElem?_cons_zero, Option.some.injEq] at ho; subst ho; intro K hK
  (try simp only [Act.put, List.setIfInBounds_toArray, List.set_cons_zero, List.set_cons_succ])
  go_simp
  refine hK _ _ (fun h => by cases h) ?_
  clear hK K
  refine anyX_done (by kernel_rfl) ?_
  (try simp only [Act.put, List.setIfInBounds_toArray, List.set_cons_zero, List.set_cons_succ])
  have HR5 := Lib.hid hR5
  clear hR5 hR3
  simp only [Exit.then]
  go_wp2_with fail
  rw [HPO.out]
  exact ans_good HT.out HR5.out
set_option maxRecDepth 100000 in
set_option maxHeartbeats 4000000 in
theorem ctok_m46 (w0 w : World) (P : Nat) (s : ByteArray) (k : Nat) (ts : List LTok) (h : Rd w0 w P s k ts) (he : Env w0) (hk : k < s.size) (hs : s.size ≤ 1048576) (hn : ts.length ≤ 1048576)
    (hm : (byteAt s k).toNat = 46) :
    Calls Tryd.prog 52 #[.pointer (some ⟨P, 0, none⟩)] w (TokAns w0 P s k ts) := by
  obtain ⟨PO, hPO⟩ : ∃ PO, PO = TokAns w0 P s k ts := ⟨_, rfl⟩
  rw [← hPO]
  have HPO := Lib.hid hPO
  have hdr := dropAt' s k hk
  have hpk := rpeek0_any w0 w P s k ts h (by omega) (by omega)
  have hlet := fun W => clet_any W ((byteAt s k).toNat : Int)
  have hlen := toList_len s
  have h255 := (byteAt s k).toNat_lt
  clear hPO
  have h45 : (byteAt s k).toNat ≠ 45 := by omega
  have hl : isLet (byteAt s k) = false := by
    cases e : isLet (byteAt s k) with
    | false => rfl
    | true => have := (isLet_iff _).1 e; omega
  have hd : isDig (byteAt s k) = false := by
    cases e : isDig (byteAt s k) with
    | false => rfl
    | true => have := (isDig_iff _).1 e; omega
  have HT : Hid (tokR (s.data.toList.drop k) = .good 3 [byteAt s k] 0 1) := Lib.hid (by
    have hn1 : ¬ (isDig (byteAt s k) = true ∨ ((byteAt s k).toNat = 45 ∧ isDig ((s.data.toList.drop (k + 1)).headD 0) = true)) := by
      rintro (x | ⟨x, _⟩)
      · rw [hd] at x; cases x
      · exact h45 x
    rw [hdr, tokR_cons, if_neg (by rw [hl]; simp), if_neg hn1, if_neg (fun x => h45 x.1)]
    rw [if_pos (by unfold isMrk; rw [decide_eq_true_iff]; omega)])
  have e45 : (((byteAt s k).toNat : Int) == 45) = false := b_no (k := 45) h45
  have f123 : (((byteAt s k).toNat : Int) == 123) = false := b_no (k := 123) (by omega)
  have f125 : (((byteAt s k).toNat : Int) == 125) = false := b_no (k := 125) (by omega)
  have f61 : (((byteAt s k).toNat : Int) == 61) = false := b_no (k := 61) (by omega)
  have f59 : (((byteAt s k).toNat : Int) == 59) = false := b_no (k := 59) (by omega)
  have f46 : (((byteAt s k).toNat : Int) == 46) = true := b_yes (k := 46) (by omega)
  obtain ⟨Wd, hWd⟩ : ∃ Wd, s.extract k (k + 1) = Wd := ⟨_, rfl⟩
  have hWe : (⟨[byteAt s k].toArray⟩ : ByteArray) = Wd := by
    apply ByteArray.ext
    apply Array.toList_inj.1
    rw [← hWd, extract_take, hdr]
    rfl
  have hput := fun W (k1 : Nat) R => cput_any w0 W P s k1 ts R 3 [byteAt s k] 0 k (by omega)
  rw [hWe] at hput
  have HW := Lib.hid hWd
  have e1 : letterB ((byteAt s k).toNat : Int) = false := hl
  have hdig := fun W => cdig_any W ((byteAt s k).toNat : Int)
  have e2 : digitB ((byteAt s k).toNat : Int) = false := hd
  rw [e1] at hlet
  rw [e2] at hdig
  obtain ⟨b, hbb⟩ : ∃ b : Int, ((byteAt s k).toNat : Int) = b := ⟨_, rfl⟩
  rw [hbb] at hpk hlet hdig e45 f123 f125 f61 f59 f46
  clear hbb hdr hlen hl hd e1 e2 h45 hm h255 hWd hWe
  go_enter Tryd.func52, Tryd.ntmps52
  obtain ⟨_, c1, _, _, hB⟩ := h.cells
  go_wp2_with fail
  refine hpk.mono ?_
  rintro e w2 ⟨rfl, n2⟩
  have hR2 := h.new n2
  clear hpk h c1
  go_wp2_with fail
  refine (hlet _).mono ?_
  rintro e w3 ⟨rfl, rfl⟩
  obtain ⟨_, y0, y1, _, hB2⟩ := hR2.cells
  have HR3 := Lib.hid (hR2.go (k + 1))
  clear hR2
  go_wp2_with fail
  refine (hdig _).mono ?_
  rintro e w4 ⟨rfl, rfl⟩
  go_wp2_with fail
  obtain ⟨W3, hW3⟩ : ∃ W3, w4.setCell ⟨P, 1, none⟩ (I ((k + 1 : Nat) : Int)) = W3 := ⟨_, rfl⟩
  have hR3 := HR3.out
  rw [hW3] at hR3
  have hxx : w4.setCell ⟨P, 1, none⟩ (I ((k : Int) + 1)) = W3 := hW3
  rw [hxx]
  obtain ⟨x0, x1, _, _, hB3⟩ := hR3.cells
  have hkI : (k : Int) < (s.size : Int) := by omega
  have hSX : (fun w' : World => w'.cell? ⟨P, 0, none⟩ = some (.string s) ∧ w'.cell? ⟨P, 1, none⟩ = some (I ((k + 1 : Nat) : Int))) W3.drew := ⟨New.cell ((New.refl W3).drew) x0, New.cell ((New.refl W3).drew) x1⟩
  refine wp_region_X (fun w' : World => w'.cell? ⟨P, 0, none⟩ = some (.string s) ∧ w'.cell? ⟨P, 1, none⟩ = some (I ((k + 1 : Nat) : Int))) [14, 15] (by kernel_rfl) hSX ?_
  refine anyX_take 0 (by kernel_rfl) (by kernel_rfl) (by kernel_rfl) (by kernel_rfl) (by kernel_rfl) hSX ?_
  intro oi ho; simp only [List.getElem?_toArray, List.getElem?_cons_succ, List.getElem?_cons_zero, Option.some.injEq] at ho; subst ho
  refine ⟨?_, fun _ _ _ h => h, Or.inl ⟨by rfl, ?_⟩, ?_⟩; rotate_left 1
  · (intro wS hSw; (try dsimp only at hSw); go_simp; try with_reducible rfl)
  simp only [Act.put, List.setIfInBounds_toArray, List.set_cons_zero, List.set_cons_succ]
  refine anyX_take 1 (by kernel_rfl) (by kernel_rfl) (by kernel_rfl) (by kernel_rfl) (by kernel_rfl) hSX ?_
  intro oi ho; simp only [List.getElem?_toArray, List.getElem?_cons_succ, List.getElem?_cons_zero, Option.some.injEq] at ho; subst ho
  refine ⟨?_, fun _ _ _ h => h, Or.inl ⟨by rfl, ?_⟩, ?_⟩; rotate_left 1
  · (intro wS hSw; (try dsimp only at hSw); go_simp; try with_reducible rfl)
  simp only [Act.put, List.setIfInBounds_toArray, List.set_cons_zero, List.set_cons_succ]
  refine anyX_take 2 (by kernel_rfl) (by kernel_rfl) (by kernel_rfl) (by kernel_rfl) (by kernel_rfl) hSX ?_
  intro oi ho; simp only [List.getElem?_toArray, List.getElem?_cons_succ, List.getElem?_cons_zero, Option.some.injEq] at ho; subst ho
  refine ⟨?_, fun _ _ _ h => h, Or.inl ⟨by rfl, ?_⟩, ?_⟩; rotate_left 1
  · (intro wS hSw; (try dsimp only at hSw); go_simp; try with_reducible rfl)
  simp only [Act.put, List.setIfInBounds_toArray, List.set_cons_zero, List.set_cons_succ]
  refine anyX_take 3 (by kernel_rfl) (by kernel_rfl) (by kernel_rfl) (by kernel_rfl) (by kernel_rfl) hSX ?_
  intro oi ho; simp only [List.getElem?_toArray, List.getElem?_cons_succ, List.getElem?_cons_zero, Option.some.injEq] at ho; subst ho
  refine ⟨?_, fun _ _ _ h => h, Or.inl ⟨by rfl, ?_⟩, ?_⟩; rotate_left 1
  · (intro wS hSw; (try dsimp only at hSw); go_simp; try with_reducible rfl)
  simp only [Act.put, List.setIfInBounds_toArray, List.set_cons_zero, List.set_cons_succ]
  refine anyX_take 4 (by kernel_rfl) (by kernel_rfl) (by kernel_rfl) (by kernel_rfl) (by kernel_rfl) hSX ?_
  intro oi ho; simp only [List.getElem?_toArray, List.getElem?_cons_succ, List.getElem?_cons_zero, Option.some.injEq] at ho; subst ho
  refine ⟨?_, fun _ _ _ h => h, Or.inl ⟨by rfl, ?_⟩, ?_⟩; rotate_left 1
  · (intro wS hSw; (try dsimp only at hSw); go_simp; try with_reducible rfl)
  simp only [Act.put, List.setIfInBounds_toArray, List.set_cons_zero, List.set_cons_succ]
  refine anyX_take 5 (by kernel_rfl) (by kernel_rfl) (by kernel_rfl) (by kernel_rfl) (by kernel_rfl) hSX ?_
  intro oi ho; simp only [List.getElem?_toArray, List.getElem?_cons_succ, List.getElem?_cons_zero, Option.some.injEq] at ho; subst ho
  refine ⟨?_, fun _ _ _ h => h, Or.inl ⟨by rfl, ?_⟩, ?_⟩; rotate_left 1
  · (intro wS hSw; (try dsimp only at hSw); go_simp; try with_reducible rfl)
  simp only [Act.put, List.setIfInBounds_toArray, List.set_cons_zero, List.set_cons_succ]
  refine anyX_take 6 (by kernel_rfl) (by kernel_rfl) (by kernel_rfl) (by kernel_rfl) (by kernel_rfl) hSX ?_
  intro oi ho; simp only [List.getElem?_toArray, List.getElem?_cons_succ, List.getElem?_cons_zero, Option.some.injEq] at ho; subst ho
  refine ⟨?_, fun _ _ _ h => h, Or.inl ⟨by rfl, ?_⟩, ?_⟩; rotate_left 1
  · (intro wS hSw; (try dsimp only at hSw); go_simp; try with_reducible rfl)
  simp only [Act.put, List.setIfInBounds_toArray, List.set_cons_zero, List.set_cons_succ]
  refine anyX_take 7 (by kernel_rfl) (by kernel_rfl) (by kernel_rfl) (by kernel_rfl) (by kernel_rfl) hSX ?_
  intro oi ho; simp only [List.getElem?_toArray, List.getElem?_cons_succ, List.getElem?_cons_zero, Option.some.injEq] at ho; subst ho
  refine ⟨?_, fun _ _ _ h => h, Or.inl ⟨by rfl, ?_⟩, ?_⟩; rotate_left 1
  · (intro wS hSw; (try dsimp only at hSw); go_simp; try with_reducible rfl)
  simp only [Act.put, List.setIfInBounds_toArray, List.set_cons_zero, List.set_cons_succ]
  refine anyX_take 8 (by kernel_rfl) (by kernel_rfl) (by kernel_rfl) (by kernel_rfl) (by kernel_rfl) hSX ?_
  intro oi ho; simp only [List.getElem?_toArray, List.getElem?_cons_succ, List.getElem?_cons_zero, Option.some.injEq] at ho; subst ho
  refine ⟨?_, fun _ _ _ h => h, Or.inl ⟨by rfl, ?_⟩, ?_⟩; rotate_left 1
  · (intro wS hSw; (try dsimp only at hSw); go_simp; try with_reducible rfl)
  simp only [Act.put, List.setIfInBounds_toArray, List.set_cons_zero, List.set_cons_succ]
  refine anyX_take 9 (by kernel_rfl) (by kernel_rfl) (by kernel_rfl) (by kernel_rfl) (by kernel_rfl) hSX ?_
  intro oi ho; simp only [List.getElem?_toArray, List.getElem?_cons_succ, List.getElem?_cons_zero, Option.some.injEq] at ho; subst ho
  refine ⟨?_, fun _ _ _ h => h, Or.inl ⟨by rfl, ?_⟩, ?_⟩; rotate_left 1
  · (intro wS hSw; (try dsimp only at hSw); go_simp; try with_reducible rfl)
  simp only [Act.put, List.setIfInBounds_toArray, List.set_cons_zero, List.set_cons_succ]
  refine anyX_take 10 (by kernel_rfl) (by kernel_rfl) (by kernel_rfl) (by kernel_rfl) (by kernel_rfl) hSX ?_
  intro oi ho; simp only [List.getElem?_toArray, List.getElem?_cons_succ, List.getElem?_cons_zero, Option.some.injEq] at ho; subst ho
  refine ⟨?_, fun _ _ _ h => h, Or.inl ⟨by rfl, ?_⟩, ?_⟩; rotate_left 1
  · (intro wS hSw; (try dsimp only at hSw); go_simp; try with_reducible rfl)
  simp only [Act.put, List.setIfInBounds_toArray, List.set_cons_zero, List.set_cons_succ]
  refine anyX_take 11 (by kernel_rfl) (by kernel_rfl) (by kernel_rfl) (by kernel_rfl) (by kernel_rfl) hSX ?_
  intro oi ho; simp only [List.getElem?_toArray, List.getElem?_cons_succ, List.getElem?_cons_zero, Option.some.injEq] at ho; subst ho
  refine ⟨?_, fun _ _ _ h => h, Or.inl ⟨by rfl, ?_⟩, ?_⟩; rotate_left 1
  · (intro wS hSw; (try dsimp only at hSw); go_simp; try with_reducible rfl)
  simp only [Act.put, List.setIfInBounds_toArray, List.set_cons_zero, List.set_cons_succ]
  refine anyX_take 12 (by kernel_rfl) (by kernel_rfl) (by kernel_rfl) (by kernel_rfl) (by kernel_rfl) hSX ?_
  intro oi ho; simp only [List.getElem?_toArray, List.getElem?_cons_succ, List.getElem?_cons_zero, Option.some.injEq] at ho; subst ho
  refine ⟨.string Wd, fun _ _ _ h => h, Or.inl ⟨by rfl, ?_⟩, ?_⟩
  · (intro wS hSw; (try dsimp only at hSw); go_simp; rw [if_pos ⟨by omega, by omega⟩, if_pos (by omega), HW.out])
  simp only [Act.put, List.setIfInBounds_toArray, List.set_cons_zero, List.set_cons_succ]
  refine anyX_take 13 (by kernel_rfl) (by kernel_rfl) (by kernel_rfl) (by kernel_rfl) (by kernel_rfl) hSX ?_
  intro oi ho; simp only [List.getElem?_toArray, List.getElem?_cons_succ, List.getElem?_cons_zero, Option.some.injEq] at ho; subst ho
  refine ⟨?_, fun _ _ _ h => h, Or.inl ⟨by rfl, ?_⟩, ?_⟩; rotate_left 1
  · (intro wS hSw; (try dsimp only at hSw); go_simp; try with_reducible rfl)
  simp only [Act.put, List.setIfInBounds_toArray, List.set_cons_zero, List.set_cons_succ]
  refine anyX_one 14 (by kernel_rfl) ?_
  intro oi ho; simp only [List.getElem?_toArray, List.getElem?_cons_succ, List.getElem?_cons_zero, Option.some.injEq] at ho; subst ho; intro K hK
  (try simp only [Act.put, List.setIfInBounds_toArray, List.set_cons_zero, List.set_cons_succ])
  go_simp
  refine (hput _ _ (hR3.new ((New.refl W3).drew))).mono ?_
  rintro e w5 ⟨rfl, hR5⟩
  refine hK _ _ (fun h => by cases h) ?_
  clear hK K
  refine anyX_one 15 (by kernel_rfl) ?_
  intro oi ho; simp only [List.getElem?_toArray, List.getElem?_cons_succ, List.getElem?_cons_zero, Option.some.injEq] at ho; subst ho; intro K hK
  (try simp only [Act.put, List.setIfInBounds_toArray, List.set_cons_zero, List.set_cons_succ])
  go_simp
  refine hK _ _ (fun h => by cases h) ?_
  clear hK K
  refine anyX_done (by kernel_rfl) ?_
  (try simp only [Act.put, List.setIfInBounds_toArray, List.set_cons_zero, List.set_cons_succ])
  have HR5 := Lib.hid hR5
  clear hR5 hR3
  simp only [Exit.then]
  go_wp2_with fail
  rw [HPO.out]
  exact ans_good HT.out HR5.out
/-- One token is read. -/
theorem ctok_any (w0 w : World) (P : Nat) (s : ByteArray) (k : Nat) (ts : List LTok) (h : Rd w0 w P s k ts) (he : Env w0) (hk : k < s.size) (hs : s.size ≤ 1048576) (hn : ts.length ≤ 1048576) :
    Calls Tryd.prog 52 #[.pointer (some ⟨P, 0, none⟩)] w (TokAns w0 P s k ts) := by
  cases hl : isLet (byteAt s k) with
  | true =>
    by_cases h16 : 16 < ((s.data.toList.drop k).takeWhile isIns).length
    · exact ctok_long w0 w P s k ts h he hk hs hn hl h16
    · exact ctok_word w0 w P s k ts h he hk hs hn hl h16
  | false =>
    cases hd : isDig (byteAt s k) with
    | true => exact ctok_digit w0 w P s k ts h he hk hs hn hl hd
    | false =>
      by_cases h45 : (byteAt s k).toNat = 45
      · cases hd1 : isDig (byteAt s (k + 1)) with
        | true => exact ctok_minus w0 w P s k ts h he hk hs hn h45 hd1
        | false =>
          by_cases h62 : (byteAt s (k + 1)).toNat = 62
          · exact ctok_arrow w0 w P s k ts h he hk hs hn h45 hd1 h62
          · exact ctok_dash w0 w P s k ts h he hk hs hn h45 hd1 h62
      · cases hm : isMrk (byteAt s k) with
        | false => exact ctok_byte w0 w P s k ts h he hk hs hn hl hd h45 hm
        | true =>
          unfold isMrk at hm
          rw [decide_eq_true_iff] at hm
          rcases hm with hm | hm | hm | hm | hm
          · exact ctok_m123 w0 w P s k ts h he hk hs hn hm
          · exact ctok_m125 w0 w P s k ts h he hk hs hn hm
          · exact ctok_m61 w0 w P s k ts h he hk hs hn hm
          · exact ctok_m59 w0 w P s k ts h he hk hs hn hm
          · exact ctok_m46 w0 w P s k ts h he hk hs hn hm
end Go.Proofs.YtohalcbhckahmaaDoor
