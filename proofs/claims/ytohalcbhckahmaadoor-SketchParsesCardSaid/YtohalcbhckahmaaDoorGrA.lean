/-
  Layer 8: names, both sides.
-/
import Derived.Test.YtohalcbhckahmaaDoorGrP
import Derived.Test.YtohalcbhckahmaaDoorMem2
import Derived.Test.YtohalcbhckahmaaDoorMem3
import Derived.Lib.SmallJoins
import Derived.Lib.Hide
import Derived.Deep.QuietTactic
import Derived.BigQuiet
import Derived.StillTailTactics
namespace Go.Proofs.YtohalcbhckahmaaDoor
open Go Go.RowKit Go.Joins
set_option linter.all false

theorem bytesN_at (s : ByteArray) (k : Nat) (hk : k < s.size) : (bytesN s)[k]? = some (s[k].toNat : Int) := by
  have hk' : k < (bytesN s).length := by rw [bytesN_len]; exact hk
  rw [List.getElem?_eq_getElem hk']
  simp [bytesN]; rfl

theorem clet_any (w : World) (b : Int) : Calls Tryd.prog 63 #[.int .u8 b] w fun e w' => e = .returned (.bool (letterB b)) ∧ w' = w := by
  by_cases h1 : 97 ≤ b
  · by_cases h2 : b ≤ 122
    · have e : letterB b = true := by unfold letterB; simp [h1, h2]
      rw [e]
      go_enter Tryd.func63, Tryd.ntmps63
      go_wp2_with fail
      go_ret
      exact ⟨rfl, rfl⟩
    · have e : letterB b = false := by unfold letterB; simp [h2]
      rw [e]
      go_enter Tryd.func63, Tryd.ntmps63
      go_wp2_with fail
      go_ret
      exact ⟨rfl, rfl⟩
  · have e : letterB b = false := by unfold letterB; simp [h1]
    rw [e]
    go_enter Tryd.func63, Tryd.ntmps63
    go_wp2_with fail
    go_ret
    exact ⟨rfl, rfl⟩
theorem cdig_any (w : World) (b : Int) : Calls Tryd.prog 77 #[.int .u8 b] w fun e w' => e = .returned (.bool (digitB b)) ∧ w' = w := by
  by_cases h1 : 48 ≤ b
  · by_cases h2 : b ≤ 57
    · have e : digitB b = true := by unfold digitB; simp [h1, h2]
      rw [e]
      go_enter Tryd.func77, Tryd.ntmps77
      go_wp2_with fail
      go_ret
      exact ⟨rfl, rfl⟩
    · have e : digitB b = false := by unfold digitB; simp [h2]
      rw [e]
      go_enter Tryd.func77, Tryd.ntmps77
      go_wp2_with fail
      go_ret
      exact ⟨rfl, rfl⟩
  · have e : digitB b = false := by unfold digitB; simp [h1]
    rw [e]
    go_enter Tryd.func77, Tryd.ntmps77
    go_wp2_with fail
    go_ret
    exact ⟨rfl, rfl⟩
theorem rlet_any (w : World) (b : Int) : Calls Tryd.prog 71 #[.int .u8 b] w fun e w' => e = .returned (.bool (letterB b)) ∧ w' = w := by
  by_cases h1 : 97 ≤ b
  · by_cases h2 : b ≤ 122
    · have e : letterB b = true := by unfold letterB; simp [h1, h2]
      rw [e]
      go_enter Tryd.func71, Tryd.ntmps71
      go_wp2_with fail
      go_ret
      exact ⟨rfl, rfl⟩
    · have e : letterB b = false := by unfold letterB; simp [h2]
      rw [e]
      go_enter Tryd.func71, Tryd.ntmps71
      go_wp2_with fail
      go_ret
      exact ⟨rfl, rfl⟩
  · have e : letterB b = false := by unfold letterB; simp [h1]
    rw [e]
    go_enter Tryd.func71, Tryd.ntmps71
    go_wp2_with fail
    go_ret
    exact ⟨rfl, rfl⟩
theorem rdig_any (w : World) (b : Int) : Calls Tryd.prog 79 #[.int .u8 b] w fun e w' => e = .returned (.bool (digitB b)) ∧ w' = w := by
  by_cases h1 : 48 ≤ b
  · by_cases h2 : b ≤ 57
    · have e : digitB b = true := by unfold digitB; simp [h1, h2]
      rw [e]
      go_enter Tryd.func79, Tryd.ntmps79
      go_wp2_with fail
      go_ret
      exact ⟨rfl, rfl⟩
    · have e : digitB b = false := by unfold digitB; simp [h2]
      rw [e]
      go_enter Tryd.func79, Tryd.ntmps79
      go_wp2_with fail
      go_ret
      exact ⟨rfl, rfl⟩
  · have e : digitB b = false := by unfold digitB; simp [h1]
    rw [e]
    go_enter Tryd.func79, Tryd.ntmps79
    go_wp2_with fail
    go_ret
    exact ⟨rfl, rfl⟩
theorem cins_any (w : World) (b : Int) : Calls Tryd.prog 66 #[.int .u8 b] w fun e w' => e = .returned (.bool (insideB b)) ∧ w' = w := by
  have hl := clet_any w b
  have hd := cdig_any w b
  cases e1 : letterB b with
  | true =>
    rw [e1] at hl
    have e : insideB b = true := by unfold insideB; rw [e1]; rfl
    rw [e]
    clear hd e1 e
    go_enter Tryd.func66, Tryd.ntmps66
    go_wp2_with fail
    refine hl.mono ?_
    rintro e w' ⟨rfl, rfl⟩
    go_wp2_with fail
    go_ret
    exact ⟨rfl, rfl⟩
  | false =>
    rw [e1] at hl
    cases e2 : digitB b with
    | true =>
      rw [e2] at hd
      have e : insideB b = true := by unfold insideB; rw [e1, e2]; rfl
      rw [e]
      clear e1 e2 e
      go_enter Tryd.func66, Tryd.ntmps66
      go_wp2_with fail
      refine hl.mono ?_
      rintro e w' ⟨rfl, rfl⟩
      go_wp2_with fail
      refine hd.mono ?_
      rintro e w'' ⟨rfl, rfl⟩
      go_wp2_with fail
      go_ret
      exact ⟨rfl, rfl⟩
    | false =>
      rw [e2] at hd
      have e : insideB b = (b == 95) := by unfold insideB; rw [e1, e2]; simp; rfl
      rw [e]
      clear e1 e2 e
      go_enter Tryd.func66, Tryd.ntmps66
      go_wp2_with fail
      refine hl.mono ?_
      rintro e w' ⟨rfl, rfl⟩
      go_wp2_with fail
      refine hd.mono ?_
      rintro e w'' ⟨rfl, rfl⟩
      go_wp2_with fail
      go_ret
      exact ⟨rfl, rfl⟩
theorem rins_any (w : World) (b : Int) : Calls Tryd.prog 72 #[.int .u8 b] w fun e w' => e = .returned (.bool (insideB b)) ∧ w' = w := by
  have hl := rlet_any w b
  have hd := rdig_any w b
  cases e1 : letterB b with
  | true =>
    rw [e1] at hl
    have e : insideB b = true := by unfold insideB; rw [e1]; rfl
    rw [e]
    clear hd e1 e
    go_enter Tryd.func72, Tryd.ntmps72
    go_wp2_with fail
    refine hl.mono ?_
    rintro e w' ⟨rfl, rfl⟩
    go_wp2_with fail
    go_ret
    exact ⟨rfl, rfl⟩
  | false =>
    rw [e1] at hl
    cases e2 : digitB b with
    | true =>
      rw [e2] at hd
      have e : insideB b = true := by unfold insideB; rw [e1, e2]; rfl
      rw [e]
      clear e1 e2 e
      go_enter Tryd.func72, Tryd.ntmps72
      go_wp2_with fail
      refine hl.mono ?_
      rintro e w' ⟨rfl, rfl⟩
      go_wp2_with fail
      refine hd.mono ?_
      rintro e w'' ⟨rfl, rfl⟩
      go_wp2_with fail
      go_ret
      exact ⟨rfl, rfl⟩
    | false =>
      rw [e2] at hd
      have e : insideB b = (b == 95) := by unfold insideB; rw [e1, e2]; simp; rfl
      rw [e]
      clear e1 e2 e
      go_enter Tryd.func72, Tryd.ntmps72
      go_wp2_with fail
      refine hl.mono ?_
      rintro e w' ⟨rfl, rfl⟩
      go_wp2_with fail
      refine hd.mono ?_
      rintro e w'' ⟨rfl, rfl⟩
      go_wp2_with fail
      go_ret
      exact ⟨rfl, rfl⟩
theorem nameB_cons (s : ByteArray) (h : 0 < s.size) : nameB s = (letterB (s[0].toNat : Int) && ((bytesN s).all insideB && decide (s.size ≤ 16))) := by
  have h0 := bytesN_at s 0 h
  have hl := bytesN_len s
  unfold nameB
  cases hb : bytesN s with
  | nil => rw [hb] at h0; simp at h0
  | cons b r =>
    rw [hb] at h0 hl
    simp only [List.getElem?_cons_zero, Option.some.injEq] at h0
    subst h0
    simp only [nameL, List.all_cons]
    simp only [List.length_cons] at hl
    cases e : letterB (s[0].toNat : Int) with
    | false => rfl
    | true =>
      have e2 : insideB (s[0].toNat : Int) = true := by unfold insideB; rw [e]; rfl
      rw [e2]
      have e3 : decide (r.length ≤ 15) = decide (s.size ≤ 16) := by
        by_cases hx : s.size ≤ 16
        · rw [decide_eq_true hx, decide_eq_true (by omega)]
        · rw [decide_eq_false hx, decide_eq_false (by omega)]
      rw [e3]; simp
theorem nameB_nil (s : ByteArray) (h : s.size = 0) : nameB s = false := by
  unfold nameB
  have : bytesN s = [] := List.eq_nil_of_length_eq_zero (by rw [bytesN_len]; exact h)
  rw [this]; rfl

set_option maxRecDepth 100000 in
set_option maxHeartbeats 1000000 in
theorem rname_any (w : World) (s : ByteArray) (hs : s.size ≤ 9223372036854775807) : Calls Tryd.prog 45 #[.string s] w fun e w' => e = .returned (.bool (nameB s)) ∧ New w w' := by
  by_cases h1 : s.size < 1
  · rw [nameB_nil s (by omega)]
    have d1 : decide (s.size < 1) = true := decide_eq_true h1
    go_enter Tryd.func45, Tryd.ntmps45
    go_wp2_with fail
    go_ret
    exact ⟨rfl, New.refl _⟩
  · have h0 : 0 < s.size := by omega
    rw [nameB_cons s h0]
    by_cases h2 : 16 < s.size
    · have e : decide (s.size ≤ 16) = false := decide_eq_false (by omega)
      rw [e]
      simp only [Bool.and_false]
      clear e
      go_enter Tryd.func45, Tryd.ntmps45
      go_wp2_with fail
      go_ret
      exact ⟨rfl, New.refl _⟩
    · have e : decide (s.size ≤ 16) = true := decide_eq_true (by omega)
      rw [e, Bool.and_true]
      clear e
      have hl := fun W => rlet_any W (s[0].toNat : Int)
      cases e1 : letterB (s[0].toNat : Int) with
      | false =>
        rw [e1] at hl
        rw [Bool.false_and]
        clear e1
        go_enter Tryd.func45, Tryd.ntmps45
        go_wp2_with fail
        refine (hl _).mono ?_
        rintro e w' ⟨rfl, rfl⟩
        go_wp2_with fail
        go_ret
        exact ⟨rfl, New.refl _⟩
      | true =>
        rw [e1] at hl
        rw [Bool.true_and]
        obtain ⟨A, hA⟩ : ∃ A, (bytesN s).all insideB = A := ⟨_, rfl⟩
        rw [hA]
        have HAA := Lib.hid hA
        clear e1 hA
        go_enter Tryd.func45, Tryd.ntmps45
        go_wp2_with fail
        refine (hl _).mono ?_
        rintro e w' ⟨rfl, rfl⟩
        go_wp2_with fail
        go_loopw [3] (fun i wr => ∃ k : Nat, k ≤ s.size ∧ i = .int .i64 k ∧ Hid (((bytesN s).take k).all insideB = true) ∧ wr = w') (fun i _ => s.size - (intOf i).toNat)
        case atStart => exact ⟨0, by omega, rfl, Lib.hid (by simp), rfl⟩
        case round =>
          obtain ⟨k, hk, rfl, HA, rfl⟩ := hrel
          by_cases hk1 : k < s.size
          · have hi := rins_any wr (s[k].toNat : Int)
            have hat := bytesN_at s k hk1
            have htk : (bytesN s).take (k + 1) = (bytesN s).take k ++ [(s[k].toNat : Int)] := by rw [List.take_succ, hat]; rfl
            have HT := Lib.hid htk
            have hkI : (k : Int) < (s.size : Int) := by omega
            have h255 : s[k].toNat < 256 := s[k].toNat_lt
            clear hat htk
            cases e2 : insideB (s[k].toNat : Int) with
            | false =>
              rw [e2] at hi
              have hfalse : (bytesN s).all insideB = false := by
                rw [← List.take_append_drop (k + 1) (bytesN s), List.all_append, HT.out, List.all_append]
                simp [e2]
              have HF : Hid (A = false) := Lib.hid (by rw [← HAA.out]; exact hfalse)
              clear e2 hfalse
              go_wp2_with fail
              refine hi.mono ?_
              rintro e w' ⟨rfl, rfl⟩
              go_wp2_with fail
              go_ret
              exact ⟨by rw [HF.out]; rfl, New.refl _⟩
            | true =>
              rw [e2] at hi
              have HA2 : Hid (((bytesN s).take (k + 1)).all insideB = true) := Lib.hid (by rw [HT.out, List.all_append, HA.out]; simp [e2])
              clear e2
              go_wp2_with fail
              refine hi.mono ?_
              rintro e w' ⟨rfl, rfl⟩
              go_wp2_with fail
              go_roundw
              case rel => exact ⟨k + 1, by omega, by go_num, HA2, by first | rfl | trivial⟩
              case measure => simp [intOf]; omega
          · have hall : (bytesN s).all insideB = true := by
              have := HA.out
              rwa [List.take_of_length_le (by rw [bytesN_len]; omega)] at this
            have HF : Hid (A = true) := Lib.hid (by rw [← HAA.out]; exact hall)
            clear hall
            go_wp2_with fail
            go_ret
            exact ⟨by rw [HF.out]; rfl, New.refl _⟩
end Go.Proofs.YtohalcbhckahmaaDoor
