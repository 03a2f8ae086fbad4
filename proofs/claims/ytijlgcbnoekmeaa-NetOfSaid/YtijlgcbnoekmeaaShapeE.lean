/-
  Walks, fifth part: the program's own Of at two parameters and more. Printed by gen_shapeD.py.
-/
import Derived.Test.YtijlgcbnoekmeaaShapeD
namespace Go.Proofs.Ytijlgcbnoekmeaa
open Go Go.RowKit
set_option linter.all false

set_option maxRecDepth 100000 in
set_option maxHeartbeats 1000000 in
theorem shOf_2_1 (n m : Int) (ao : Option Addr) (c : Nat) (w : World) (hx : SlAt w ao (Is [n, m])) :
    Calls Try.prog 43 #[.int .u8 1, .slice ao ([n, m] : List Int).length c] w (Rates w (shapeS 1 [n, m])) := by
  obtain ⟨b, off, rfl, hc⟩ := Is_at hx (i := 0) (by simp)
  obtain ⟨b', off', e, hd⟩ := Is_at hx (i := 1) (by simp)
  simp only [Option.some.injEq, Addr.mk.injEq, and_true] at e
  obtain ⟨rfl, rfl⟩ := e
  simp only [List.getElem_cons_zero, List.getElem_cons_succ] at hd
  simp only [Nat.add_zero, List.getElem_cons_zero] at hc
  go_enter Try.func43, Try.ntmps43
  go_upto_region 9 with ((go_at_call 49; refine (within_any _ _ _).mono ?_; rintro e w' ⟨rfl, rfl⟩))
  go_cut [10] (fun s w' => s = .bool (twoS [n, m]) ∧ w' = w)
  case first =>
    by_cases h1 : 1 ≤ n ∧ n ≤ 16
    · by_cases h2 : 1 ≤ m ∧ m ≤ 64
      · have hb := twoS_decide n m h1.1 h1.2 h2.1 h2.2
        have hd1 : decide (1 ≤ n ∧ n ≤ 16) = true := by simpa using h1
        have hd2 : decide (1 ≤ m ∧ m ≤ 64) = true := by simpa using h2
        obtain ⟨hb1, hb2⟩ := hb
        go_wp2_with (first | (go_at_call 49; refine (within_any _ _ _).mono ?_; rintro e w' ⟨rfl, rfl⟩))
        go_meet
        case rel => exact ⟨by simp [twoS, h1, h2], rfl⟩
      · have hd1 : decide (1 ≤ n ∧ n ≤ 16) = true := by simpa using h1
        have hd2 : decide (1 ≤ m ∧ m ≤ 64) = false := by simpa using h2
        go_wp2_with (first | (go_at_call 49; refine (within_any _ _ _).mono ?_; rintro e w' ⟨rfl, rfl⟩))
        go_meet
        case rel => exact ⟨by simp [twoS]; omega, rfl⟩
    · have hd1 : decide (1 ≤ n ∧ n ≤ 16) = false := by simpa using h1
      go_wp2_with (first | (go_at_call 49; refine (within_any _ _ _).mono ?_; rintro e w' ⟨rfl, rfl⟩))
      go_meet
      case rel => exact ⟨by simp [twoS]; omega, rfl⟩
  case rest =>
    obtain ⟨rfl, rfl⟩ := hcut
    have hr : shapeS 1 [n, m] = (0, [1], [1]) := by rfl
    have HR := Lib.hid hr; clear hr
    go_wp2_with (first | (go_at_call 49; refine (within_any _ _ _).mono ?_; rintro e w' ⟨rfl, rfl⟩) | (go_at_call 51; refine (shSame_i _ _ _ (by omega)).mono ?_; rintro e w' ⟨ao', c', rfl, hown', hnew'⟩) | (go_at_call 50; (with_reducible refine (shPorts1 _ _).mono ?_); rintro e w' ⟨ao', c', rfl, hown', hnew'⟩) | (go_at_call 50; (with_reducible refine (shPorts2 _ _ _).mono ?_); rintro e w' ⟨ao', c', rfl, hown', hnew'⟩))
    go_ret3
    rw [HR.out]
    exact Rates.mk2 (Keeps.alloc _ _) (by assumption) (by assumption) (Keeps.alloc _ _) hown' hnew' (by simp) (by simp)

set_option maxRecDepth 100000 in
set_option maxHeartbeats 1000000 in
theorem shOf_2_2 (n m : Int) (ao : Option Addr) (c : Nat) (w : World) (hx : SlAt w ao (Is [n, m])) :
    Calls Try.prog 43 #[.int .u8 2, .slice ao ([n, m] : List Int).length c] w (Rates w (shapeS 2 [n, m])) := by
  obtain ⟨b, off, rfl, hc⟩ := Is_at hx (i := 0) (by simp)
  obtain ⟨b', off', e, hd⟩ := Is_at hx (i := 1) (by simp)
  simp only [Option.some.injEq, Addr.mk.injEq, and_true] at e
  obtain ⟨rfl, rfl⟩ := e
  simp only [List.getElem_cons_zero, List.getElem_cons_succ] at hd
  simp only [Nat.add_zero, List.getElem_cons_zero] at hc
  go_enter Try.func43, Try.ntmps43
  go_upto_region 9 with ((go_at_call 49; refine (within_any _ _ _).mono ?_; rintro e w' ⟨rfl, rfl⟩))
  go_cut [10] (fun s w' => s = .bool (twoS [n, m]) ∧ w' = w)
  case first =>
    by_cases h1 : 1 ≤ n ∧ n ≤ 16
    · by_cases h2 : 1 ≤ m ∧ m ≤ 64
      · have hb := twoS_decide n m h1.1 h1.2 h2.1 h2.2
        have hd1 : decide (1 ≤ n ∧ n ≤ 16) = true := by simpa using h1
        have hd2 : decide (1 ≤ m ∧ m ≤ 64) = true := by simpa using h2
        obtain ⟨hb1, hb2⟩ := hb
        go_wp2_with (first | (go_at_call 49; refine (within_any _ _ _).mono ?_; rintro e w' ⟨rfl, rfl⟩))
        go_meet
        case rel => exact ⟨by simp [twoS, h1, h2], rfl⟩
      · have hd1 : decide (1 ≤ n ∧ n ≤ 16) = true := by simpa using h1
        have hd2 : decide (1 ≤ m ∧ m ≤ 64) = false := by simpa using h2
        go_wp2_with (first | (go_at_call 49; refine (within_any _ _ _).mono ?_; rintro e w' ⟨rfl, rfl⟩))
        go_meet
        case rel => exact ⟨by simp [twoS]; omega, rfl⟩
    · have hd1 : decide (1 ≤ n ∧ n ≤ 16) = false := by simpa using h1
      go_wp2_with (first | (go_at_call 49; refine (within_any _ _ _).mono ?_; rintro e w' ⟨rfl, rfl⟩))
      go_meet
      case rel => exact ⟨by simp [twoS]; omega, rfl⟩
  case rest =>
    obtain ⟨rfl, rfl⟩ := hcut
    have hr : shapeS 2 [n, m] = (61, [], []) := by rfl
    have HR := Lib.hid hr; clear hr
    go_wp2_with (first | (go_at_call 49; refine (within_any _ _ _).mono ?_; rintro e w' ⟨rfl, rfl⟩) | (go_at_call 51; refine (shSame_i _ _ _ (by omega)).mono ?_; rintro e w' ⟨ao', c', rfl, hown', hnew'⟩) | (go_at_call 50; (with_reducible refine (shPorts1 _ _).mono ?_); rintro e w' ⟨ao', c', rfl, hown', hnew'⟩) | (go_at_call 50; (with_reducible refine (shPorts2 _ _ _).mono ?_); rintro e w' ⟨ao', c', rfl, hown', hnew'⟩))
    go_ret3
    rw [HR.out]
    exact Rates.none _ _ _ (New.refl _)

set_option maxRecDepth 100000 in
set_option maxHeartbeats 1000000 in
theorem shOf_2_3 (n m : Int) (ao : Option Addr) (c : Nat) (w : World) (hx : SlAt w ao (Is [n, m])) :
    Calls Try.prog 43 #[.int .u8 3, .slice ao ([n, m] : List Int).length c] w (Rates w (shapeS 3 [n, m])) := by
  obtain ⟨b, off, rfl, hc⟩ := Is_at hx (i := 0) (by simp)
  obtain ⟨b', off', e, hd⟩ := Is_at hx (i := 1) (by simp)
  simp only [Option.some.injEq, Addr.mk.injEq, and_true] at e
  obtain ⟨rfl, rfl⟩ := e
  simp only [List.getElem_cons_zero, List.getElem_cons_succ] at hd
  simp only [Nat.add_zero, List.getElem_cons_zero] at hc
  go_enter Try.func43, Try.ntmps43
  go_upto_region 9 with ((go_at_call 49; refine (within_any _ _ _).mono ?_; rintro e w' ⟨rfl, rfl⟩))
  go_cut [10] (fun s w' => s = .bool (twoS [n, m]) ∧ w' = w)
  case first =>
    by_cases h1 : 1 ≤ n ∧ n ≤ 16
    · by_cases h2 : 1 ≤ m ∧ m ≤ 64
      · have hb := twoS_decide n m h1.1 h1.2 h2.1 h2.2
        have hd1 : decide (1 ≤ n ∧ n ≤ 16) = true := by simpa using h1
        have hd2 : decide (1 ≤ m ∧ m ≤ 64) = true := by simpa using h2
        obtain ⟨hb1, hb2⟩ := hb
        go_wp2_with (first | (go_at_call 49; refine (within_any _ _ _).mono ?_; rintro e w' ⟨rfl, rfl⟩))
        go_meet
        case rel => exact ⟨by simp [twoS, h1, h2], rfl⟩
      · have hd1 : decide (1 ≤ n ∧ n ≤ 16) = true := by simpa using h1
        have hd2 : decide (1 ≤ m ∧ m ≤ 64) = false := by simpa using h2
        go_wp2_with (first | (go_at_call 49; refine (within_any _ _ _).mono ?_; rintro e w' ⟨rfl, rfl⟩))
        go_meet
        case rel => exact ⟨by simp [twoS]; omega, rfl⟩
    · have hd1 : decide (1 ≤ n ∧ n ≤ 16) = false := by simpa using h1
      go_wp2_with (first | (go_at_call 49; refine (within_any _ _ _).mono ?_; rintro e w' ⟨rfl, rfl⟩))
      go_meet
      case rel => exact ⟨by simp [twoS]; omega, rfl⟩
  case rest =>
    obtain ⟨rfl, rfl⟩ := hcut
    have hr : shapeS 3 [n, m] = (61, [], []) := by rfl
    have HR := Lib.hid hr; clear hr
    go_wp2_with (first | (go_at_call 49; refine (within_any _ _ _).mono ?_; rintro e w' ⟨rfl, rfl⟩) | (go_at_call 51; refine (shSame_i _ _ _ (by omega)).mono ?_; rintro e w' ⟨ao', c', rfl, hown', hnew'⟩) | (go_at_call 50; (with_reducible refine (shPorts1 _ _).mono ?_); rintro e w' ⟨ao', c', rfl, hown', hnew'⟩) | (go_at_call 50; (with_reducible refine (shPorts2 _ _ _).mono ?_); rintro e w' ⟨ao', c', rfl, hown', hnew'⟩))
    go_ret3
    rw [HR.out]
    exact Rates.none _ _ _ (New.refl _)

set_option maxRecDepth 100000 in
set_option maxHeartbeats 1000000 in
theorem shOf_2_4 (n m : Int) (ao : Option Addr) (c : Nat) (w : World) (hx : SlAt w ao (Is [n, m])) :
    Calls Try.prog 43 #[.int .u8 4, .slice ao ([n, m] : List Int).length c] w (Rates w (shapeS 4 [n, m])) := by
  obtain ⟨b, off, rfl, hc⟩ := Is_at hx (i := 0) (by simp)
  obtain ⟨b', off', e, hd⟩ := Is_at hx (i := 1) (by simp)
  simp only [Option.some.injEq, Addr.mk.injEq, and_true] at e
  obtain ⟨rfl, rfl⟩ := e
  simp only [List.getElem_cons_zero, List.getElem_cons_succ] at hd
  simp only [Nat.add_zero, List.getElem_cons_zero] at hc
  go_enter Try.func43, Try.ntmps43
  go_upto_region 9 with ((go_at_call 49; refine (within_any _ _ _).mono ?_; rintro e w' ⟨rfl, rfl⟩))
  go_cut [10] (fun s w' => s = .bool (twoS [n, m]) ∧ w' = w)
  case first =>
    by_cases h1 : 1 ≤ n ∧ n ≤ 16
    · by_cases h2 : 1 ≤ m ∧ m ≤ 64
      · have hb := twoS_decide n m h1.1 h1.2 h2.1 h2.2
        have hd1 : decide (1 ≤ n ∧ n ≤ 16) = true := by simpa using h1
        have hd2 : decide (1 ≤ m ∧ m ≤ 64) = true := by simpa using h2
        obtain ⟨hb1, hb2⟩ := hb
        go_wp2_with (first | (go_at_call 49; refine (within_any _ _ _).mono ?_; rintro e w' ⟨rfl, rfl⟩))
        go_meet
        case rel => exact ⟨by simp [twoS, h1, h2], rfl⟩
      · have hd1 : decide (1 ≤ n ∧ n ≤ 16) = true := by simpa using h1
        have hd2 : decide (1 ≤ m ∧ m ≤ 64) = false := by simpa using h2
        go_wp2_with (first | (go_at_call 49; refine (within_any _ _ _).mono ?_; rintro e w' ⟨rfl, rfl⟩))
        go_meet
        case rel => exact ⟨by simp [twoS]; omega, rfl⟩
    · have hd1 : decide (1 ≤ n ∧ n ≤ 16) = false := by simpa using h1
      go_wp2_with (first | (go_at_call 49; refine (within_any _ _ _).mono ?_; rintro e w' ⟨rfl, rfl⟩))
      go_meet
      case rel => exact ⟨by simp [twoS]; omega, rfl⟩
  case rest =>
    obtain ⟨rfl, rfl⟩ := hcut
    by_cases h : twoS [n, m] = true
    · have h' : 1 ≤ n ∧ n ≤ 16 ∧ 1 ≤ m ∧ m ≤ 64 ∧ n * m ≤ 64 := by simpa [twoS] using h
      obtain ⟨h1, h2, h3, h4, h5⟩ := h'
      have hb := twoS_decide n m h1 h2 h3 h4
      obtain ⟨hb1, hb2⟩ := hb
      have hr : shapeS 4 [n, m] = (0, List.replicate n.toNat m, [n * m]) := by simp [shapeS, goodS, rates, h]
      have HR := Lib.hid hr; clear hr
      go_wp2_with (first | (go_at_call 49; refine (within_any _ _ _).mono ?_; rintro e w' ⟨rfl, rfl⟩) | (go_at_call 51; refine (shSame_i _ _ _ (by omega)).mono ?_; rintro e w' ⟨ao', c', rfl, hown', hnew'⟩) | (go_at_call 50; (with_reducible refine (shPorts1 _ _).mono ?_); rintro e w' ⟨ao', c', rfl, hown', hnew'⟩) | (go_at_call 50; (with_reducible refine (shPorts2 _ _ _).mono ?_); rintro e w' ⟨ao', c', rfl, hown', hnew'⟩))
      go_ret3
      rw [HR.out]
      exact Rates.mk2 (Keeps.refl _ _) (by assumption) (by assumption) (Keeps.alloc _ _) hown' hnew' (by simp) (by simp)
    · have h' : twoS [n, m] = false := by simpa using h
      have hr : shapeS 4 [n, m] = (61, [], []) := by simp [shapeS, goodS, h']
      have HR := Lib.hid hr; clear hr
      go_wp2_with (first | (go_at_call 49; refine (within_any _ _ _).mono ?_; rintro e w' ⟨rfl, rfl⟩) | (go_at_call 51; refine (shSame_i _ _ _ (by omega)).mono ?_; rintro e w' ⟨ao', c', rfl, hown', hnew'⟩) | (go_at_call 50; (with_reducible refine (shPorts1 _ _).mono ?_); rintro e w' ⟨ao', c', rfl, hown', hnew'⟩) | (go_at_call 50; (with_reducible refine (shPorts2 _ _ _).mono ?_); rintro e w' ⟨ao', c', rfl, hown', hnew'⟩))
      go_ret3
      rw [HR.out]
      exact Rates.none _ _ _ (New.refl _)

set_option maxRecDepth 100000 in
set_option maxHeartbeats 1000000 in
theorem shOf_2_5 (n m : Int) (ao : Option Addr) (c : Nat) (w : World) (hx : SlAt w ao (Is [n, m])) :
    Calls Try.prog 43 #[.int .u8 5, .slice ao ([n, m] : List Int).length c] w (Rates w (shapeS 5 [n, m])) := by
  obtain ⟨b, off, rfl, hc⟩ := Is_at hx (i := 0) (by simp)
  obtain ⟨b', off', e, hd⟩ := Is_at hx (i := 1) (by simp)
  simp only [Option.some.injEq, Addr.mk.injEq, and_true] at e
  obtain ⟨rfl, rfl⟩ := e
  simp only [List.getElem_cons_zero, List.getElem_cons_succ] at hd
  simp only [Nat.add_zero, List.getElem_cons_zero] at hc
  go_enter Try.func43, Try.ntmps43
  go_upto_region 9 with ((go_at_call 49; refine (within_any _ _ _).mono ?_; rintro e w' ⟨rfl, rfl⟩))
  go_cut [10] (fun s w' => s = .bool (twoS [n, m]) ∧ w' = w)
  case first =>
    by_cases h1 : 1 ≤ n ∧ n ≤ 16
    · by_cases h2 : 1 ≤ m ∧ m ≤ 64
      · have hb := twoS_decide n m h1.1 h1.2 h2.1 h2.2
        have hd1 : decide (1 ≤ n ∧ n ≤ 16) = true := by simpa using h1
        have hd2 : decide (1 ≤ m ∧ m ≤ 64) = true := by simpa using h2
        obtain ⟨hb1, hb2⟩ := hb
        go_wp2_with (first | (go_at_call 49; refine (within_any _ _ _).mono ?_; rintro e w' ⟨rfl, rfl⟩))
        go_meet
        case rel => exact ⟨by simp [twoS, h1, h2], rfl⟩
      · have hd1 : decide (1 ≤ n ∧ n ≤ 16) = true := by simpa using h1
        have hd2 : decide (1 ≤ m ∧ m ≤ 64) = false := by simpa using h2
        go_wp2_with (first | (go_at_call 49; refine (within_any _ _ _).mono ?_; rintro e w' ⟨rfl, rfl⟩))
        go_meet
        case rel => exact ⟨by simp [twoS]; omega, rfl⟩
    · have hd1 : decide (1 ≤ n ∧ n ≤ 16) = false := by simpa using h1
      go_wp2_with (first | (go_at_call 49; refine (within_any _ _ _).mono ?_; rintro e w' ⟨rfl, rfl⟩))
      go_meet
      case rel => exact ⟨by simp [twoS]; omega, rfl⟩
  case rest =>
    obtain ⟨rfl, rfl⟩ := hcut
    by_cases h : twoS [n, m] = true
    · have h' : 1 ≤ n ∧ n ≤ 16 ∧ 1 ≤ m ∧ m ≤ 64 ∧ n * m ≤ 64 := by simpa [twoS] using h
      obtain ⟨h1, h2, h3, h4, h5⟩ := h'
      have hb := twoS_decide n m h1 h2 h3 h4
      obtain ⟨hb1, hb2⟩ := hb
      have hr : shapeS 5 [n, m] = (0, [n * m], List.replicate n.toNat m) := by simp [shapeS, goodS, rates, h]
      have HR := Lib.hid hr; clear hr
      go_wp2_with (first | (go_at_call 49; refine (within_any _ _ _).mono ?_; rintro e w' ⟨rfl, rfl⟩) | (go_at_call 51; refine (shSame_i _ _ _ (by omega)).mono ?_; rintro e w' ⟨ao', c', rfl, hown', hnew'⟩) | (go_at_call 50; (with_reducible refine (shPorts1 _ _).mono ?_); rintro e w' ⟨ao', c', rfl, hown', hnew'⟩) | (go_at_call 50; (with_reducible refine (shPorts2 _ _ _).mono ?_); rintro e w' ⟨ao', c', rfl, hown', hnew'⟩))
      go_ret3
      rw [HR.out]
      exact Rates.mk2 (Keeps.alloc _ _) (by assumption) (by assumption) (Keeps.refl _ _) hown' hnew' (by simp) (by simp)
    · have h' : twoS [n, m] = false := by simpa using h
      have hr : shapeS 5 [n, m] = (61, [], []) := by simp [shapeS, goodS, h']
      have HR := Lib.hid hr; clear hr
      go_wp2_with (first | (go_at_call 49; refine (within_any _ _ _).mono ?_; rintro e w' ⟨rfl, rfl⟩) | (go_at_call 51; refine (shSame_i _ _ _ (by omega)).mono ?_; rintro e w' ⟨ao', c', rfl, hown', hnew'⟩) | (go_at_call 50; (with_reducible refine (shPorts1 _ _).mono ?_); rintro e w' ⟨ao', c', rfl, hown', hnew'⟩) | (go_at_call 50; (with_reducible refine (shPorts2 _ _ _).mono ?_); rintro e w' ⟨ao', c', rfl, hown', hnew'⟩))
      go_ret3
      rw [HR.out]
      exact Rates.none _ _ _ (New.refl _)

set_option maxRecDepth 100000 in
set_option maxHeartbeats 1000000 in
theorem shOf_2_6 (n m : Int) (ao : Option Addr) (c : Nat) (w : World) (hx : SlAt w ao (Is [n, m])) :
    Calls Try.prog 43 #[.int .u8 6, .slice ao ([n, m] : List Int).length c] w (Rates w (shapeS 6 [n, m])) := by
  obtain ⟨b, off, rfl, hc⟩ := Is_at hx (i := 0) (by simp)
  obtain ⟨b', off', e, hd⟩ := Is_at hx (i := 1) (by simp)
  simp only [Option.some.injEq, Addr.mk.injEq, and_true] at e
  obtain ⟨rfl, rfl⟩ := e
  simp only [List.getElem_cons_zero, List.getElem_cons_succ] at hd
  simp only [Nat.add_zero, List.getElem_cons_zero] at hc
  go_enter Try.func43, Try.ntmps43
  go_upto_region 9 with ((go_at_call 49; refine (within_any _ _ _).mono ?_; rintro e w' ⟨rfl, rfl⟩))
  go_cut [10] (fun s w' => s = .bool (twoS [n, m]) ∧ w' = w)
  case first =>
    by_cases h1 : 1 ≤ n ∧ n ≤ 16
    · by_cases h2 : 1 ≤ m ∧ m ≤ 64
      · have hb := twoS_decide n m h1.1 h1.2 h2.1 h2.2
        have hd1 : decide (1 ≤ n ∧ n ≤ 16) = true := by simpa using h1
        have hd2 : decide (1 ≤ m ∧ m ≤ 64) = true := by simpa using h2
        obtain ⟨hb1, hb2⟩ := hb
        go_wp2_with (first | (go_at_call 49; refine (within_any _ _ _).mono ?_; rintro e w' ⟨rfl, rfl⟩))
        go_meet
        case rel => exact ⟨by simp [twoS, h1, h2], rfl⟩
      · have hd1 : decide (1 ≤ n ∧ n ≤ 16) = true := by simpa using h1
        have hd2 : decide (1 ≤ m ∧ m ≤ 64) = false := by simpa using h2
        go_wp2_with (first | (go_at_call 49; refine (within_any _ _ _).mono ?_; rintro e w' ⟨rfl, rfl⟩))
        go_meet
        case rel => exact ⟨by simp [twoS]; omega, rfl⟩
    · have hd1 : decide (1 ≤ n ∧ n ≤ 16) = false := by simpa using h1
      go_wp2_with (first | (go_at_call 49; refine (within_any _ _ _).mono ?_; rintro e w' ⟨rfl, rfl⟩))
      go_meet
      case rel => exact ⟨by simp [twoS]; omega, rfl⟩
  case rest =>
    obtain ⟨rfl, rfl⟩ := hcut
    have hr : shapeS 6 [n, m] = (61, [], []) := by rfl
    have HR := Lib.hid hr; clear hr
    go_wp2_with (first | (go_at_call 49; refine (within_any _ _ _).mono ?_; rintro e w' ⟨rfl, rfl⟩) | (go_at_call 51; refine (shSame_i _ _ _ (by omega)).mono ?_; rintro e w' ⟨ao', c', rfl, hown', hnew'⟩) | (go_at_call 50; (with_reducible refine (shPorts1 _ _).mono ?_); rintro e w' ⟨ao', c', rfl, hown', hnew'⟩) | (go_at_call 50; (with_reducible refine (shPorts2 _ _ _).mono ?_); rintro e w' ⟨ao', c', rfl, hown', hnew'⟩))
    go_ret3
    rw [HR.out]
    exact Rates.none _ _ _ (New.refl _)

set_option maxRecDepth 100000 in
set_option maxHeartbeats 1000000 in
theorem shOf_2_7 (n m : Int) (ao : Option Addr) (c : Nat) (w : World) (hx : SlAt w ao (Is [n, m])) :
    Calls Try.prog 43 #[.int .u8 7, .slice ao ([n, m] : List Int).length c] w (Rates w (shapeS 7 [n, m])) := by
  obtain ⟨b, off, rfl, hc⟩ := Is_at hx (i := 0) (by simp)
  obtain ⟨b', off', e, hd⟩ := Is_at hx (i := 1) (by simp)
  simp only [Option.some.injEq, Addr.mk.injEq, and_true] at e
  obtain ⟨rfl, rfl⟩ := e
  simp only [List.getElem_cons_zero, List.getElem_cons_succ] at hd
  simp only [Nat.add_zero, List.getElem_cons_zero] at hc
  go_enter Try.func43, Try.ntmps43
  go_upto_region 9 with ((go_at_call 49; refine (within_any _ _ _).mono ?_; rintro e w' ⟨rfl, rfl⟩))
  go_cut [10] (fun s w' => s = .bool (twoS [n, m]) ∧ w' = w)
  case first =>
    by_cases h1 : 1 ≤ n ∧ n ≤ 16
    · by_cases h2 : 1 ≤ m ∧ m ≤ 64
      · have hb := twoS_decide n m h1.1 h1.2 h2.1 h2.2
        have hd1 : decide (1 ≤ n ∧ n ≤ 16) = true := by simpa using h1
        have hd2 : decide (1 ≤ m ∧ m ≤ 64) = true := by simpa using h2
        obtain ⟨hb1, hb2⟩ := hb
        go_wp2_with (first | (go_at_call 49; refine (within_any _ _ _).mono ?_; rintro e w' ⟨rfl, rfl⟩))
        go_meet
        case rel => exact ⟨by simp [twoS, h1, h2], rfl⟩
      · have hd1 : decide (1 ≤ n ∧ n ≤ 16) = true := by simpa using h1
        have hd2 : decide (1 ≤ m ∧ m ≤ 64) = false := by simpa using h2
        go_wp2_with (first | (go_at_call 49; refine (within_any _ _ _).mono ?_; rintro e w' ⟨rfl, rfl⟩))
        go_meet
        case rel => exact ⟨by simp [twoS]; omega, rfl⟩
    · have hd1 : decide (1 ≤ n ∧ n ≤ 16) = false := by simpa using h1
      go_wp2_with (first | (go_at_call 49; refine (within_any _ _ _).mono ?_; rintro e w' ⟨rfl, rfl⟩))
      go_meet
      case rel => exact ⟨by simp [twoS]; omega, rfl⟩
  case rest =>
    obtain ⟨rfl, rfl⟩ := hcut
    have hr : shapeS 7 [n, m] = (61, [], []) := by rfl
    have HR := Lib.hid hr; clear hr
    go_wp2_with (first | (go_at_call 49; refine (within_any _ _ _).mono ?_; rintro e w' ⟨rfl, rfl⟩) | (go_at_call 51; refine (shSame_i _ _ _ (by omega)).mono ?_; rintro e w' ⟨ao', c', rfl, hown', hnew'⟩) | (go_at_call 50; (with_reducible refine (shPorts1 _ _).mono ?_); rintro e w' ⟨ao', c', rfl, hown', hnew'⟩) | (go_at_call 50; (with_reducible refine (shPorts2 _ _ _).mono ?_); rintro e w' ⟨ao', c', rfl, hown', hnew'⟩))
    go_ret3
    rw [HR.out]
    exact Rates.none _ _ _ (New.refl _)

set_option maxRecDepth 100000 in
set_option maxHeartbeats 1000000 in
theorem shOf_2_8 (n m : Int) (ao : Option Addr) (c : Nat) (w : World) (hx : SlAt w ao (Is [n, m])) :
    Calls Try.prog 43 #[.int .u8 8, .slice ao ([n, m] : List Int).length c] w (Rates w (shapeS 8 [n, m])) := by
  obtain ⟨b, off, rfl, hc⟩ := Is_at hx (i := 0) (by simp)
  obtain ⟨b', off', e, hd⟩ := Is_at hx (i := 1) (by simp)
  simp only [Option.some.injEq, Addr.mk.injEq, and_true] at e
  obtain ⟨rfl, rfl⟩ := e
  simp only [List.getElem_cons_zero, List.getElem_cons_succ] at hd
  simp only [Nat.add_zero, List.getElem_cons_zero] at hc
  go_enter Try.func43, Try.ntmps43
  go_upto_region 9 with ((go_at_call 49; refine (within_any _ _ _).mono ?_; rintro e w' ⟨rfl, rfl⟩))
  go_cut [10] (fun s w' => s = .bool (twoS [n, m]) ∧ w' = w)
  case first =>
    by_cases h1 : 1 ≤ n ∧ n ≤ 16
    · by_cases h2 : 1 ≤ m ∧ m ≤ 64
      · have hb := twoS_decide n m h1.1 h1.2 h2.1 h2.2
        have hd1 : decide (1 ≤ n ∧ n ≤ 16) = true := by simpa using h1
        have hd2 : decide (1 ≤ m ∧ m ≤ 64) = true := by simpa using h2
        obtain ⟨hb1, hb2⟩ := hb
        go_wp2_with (first | (go_at_call 49; refine (within_any _ _ _).mono ?_; rintro e w' ⟨rfl, rfl⟩))
        go_meet
        case rel => exact ⟨by simp [twoS, h1, h2], rfl⟩
      · have hd1 : decide (1 ≤ n ∧ n ≤ 16) = true := by simpa using h1
        have hd2 : decide (1 ≤ m ∧ m ≤ 64) = false := by simpa using h2
        go_wp2_with (first | (go_at_call 49; refine (within_any _ _ _).mono ?_; rintro e w' ⟨rfl, rfl⟩))
        go_meet
        case rel => exact ⟨by simp [twoS]; omega, rfl⟩
    · have hd1 : decide (1 ≤ n ∧ n ≤ 16) = false := by simpa using h1
      go_wp2_with (first | (go_at_call 49; refine (within_any _ _ _).mono ?_; rintro e w' ⟨rfl, rfl⟩))
      go_meet
      case rel => exact ⟨by simp [twoS]; omega, rfl⟩
  case rest =>
    obtain ⟨rfl, rfl⟩ := hcut
    have hr : shapeS 8 [n, m] = (61, [], []) := by rfl
    have HR := Lib.hid hr; clear hr
    go_wp2_with (first | (go_at_call 49; refine (within_any _ _ _).mono ?_; rintro e w' ⟨rfl, rfl⟩) | (go_at_call 51; refine (shSame_i _ _ _ (by omega)).mono ?_; rintro e w' ⟨ao', c', rfl, hown', hnew'⟩) | (go_at_call 50; (with_reducible refine (shPorts1 _ _).mono ?_); rintro e w' ⟨ao', c', rfl, hown', hnew'⟩) | (go_at_call 50; (with_reducible refine (shPorts2 _ _ _).mono ?_); rintro e w' ⟨ao', c', rfl, hown', hnew'⟩))
    go_ret3
    rw [HR.out]
    exact Rates.none _ _ _ (New.refl _)

set_option maxRecDepth 100000 in
set_option maxHeartbeats 1000000 in
theorem shOf_2_9 (n m : Int) (ao : Option Addr) (c : Nat) (w : World) (hx : SlAt w ao (Is [n, m])) :
    Calls Try.prog 43 #[.int .u8 9, .slice ao ([n, m] : List Int).length c] w (Rates w (shapeS 9 [n, m])) := by
  obtain ⟨b, off, rfl, hc⟩ := Is_at hx (i := 0) (by simp)
  obtain ⟨b', off', e, hd⟩ := Is_at hx (i := 1) (by simp)
  simp only [Option.some.injEq, Addr.mk.injEq, and_true] at e
  obtain ⟨rfl, rfl⟩ := e
  simp only [List.getElem_cons_zero, List.getElem_cons_succ] at hd
  simp only [Nat.add_zero, List.getElem_cons_zero] at hc
  go_enter Try.func43, Try.ntmps43
  go_upto_region 9 with ((go_at_call 49; refine (within_any _ _ _).mono ?_; rintro e w' ⟨rfl, rfl⟩))
  go_cut [10] (fun s w' => s = .bool (twoS [n, m]) ∧ w' = w)
  case first =>
    by_cases h1 : 1 ≤ n ∧ n ≤ 16
    · by_cases h2 : 1 ≤ m ∧ m ≤ 64
      · have hb := twoS_decide n m h1.1 h1.2 h2.1 h2.2
        have hd1 : decide (1 ≤ n ∧ n ≤ 16) = true := by simpa using h1
        have hd2 : decide (1 ≤ m ∧ m ≤ 64) = true := by simpa using h2
        obtain ⟨hb1, hb2⟩ := hb
        go_wp2_with (first | (go_at_call 49; refine (within_any _ _ _).mono ?_; rintro e w' ⟨rfl, rfl⟩))
        go_meet
        case rel => exact ⟨by simp [twoS, h1, h2], rfl⟩
      · have hd1 : decide (1 ≤ n ∧ n ≤ 16) = true := by simpa using h1
        have hd2 : decide (1 ≤ m ∧ m ≤ 64) = false := by simpa using h2
        go_wp2_with (first | (go_at_call 49; refine (within_any _ _ _).mono ?_; rintro e w' ⟨rfl, rfl⟩))
        go_meet
        case rel => exact ⟨by simp [twoS]; omega, rfl⟩
    · have hd1 : decide (1 ≤ n ∧ n ≤ 16) = false := by simpa using h1
      go_wp2_with (first | (go_at_call 49; refine (within_any _ _ _).mono ?_; rintro e w' ⟨rfl, rfl⟩))
      go_meet
      case rel => exact ⟨by simp [twoS]; omega, rfl⟩
  case rest =>
    obtain ⟨rfl, rfl⟩ := hcut
    have hr : shapeS 9 [n, m] = (61, [], []) := by rfl
    have HR := Lib.hid hr; clear hr
    go_wp2_with (first | (go_at_call 49; refine (within_any _ _ _).mono ?_; rintro e w' ⟨rfl, rfl⟩) | (go_at_call 51; refine (shSame_i _ _ _ (by omega)).mono ?_; rintro e w' ⟨ao', c', rfl, hown', hnew'⟩) | (go_at_call 50; (with_reducible refine (shPorts1 _ _).mono ?_); rintro e w' ⟨ao', c', rfl, hown', hnew'⟩) | (go_at_call 50; (with_reducible refine (shPorts2 _ _ _).mono ?_); rintro e w' ⟨ao', c', rfl, hown', hnew'⟩))
    go_ret3
    rw [HR.out]
    exact Rates.none _ _ _ (New.refl _)

set_option maxRecDepth 100000 in
set_option maxHeartbeats 1000000 in
theorem shOf_2_10 (n m : Int) (ao : Option Addr) (c : Nat) (w : World) (hx : SlAt w ao (Is [n, m])) :
    Calls Try.prog 43 #[.int .u8 10, .slice ao ([n, m] : List Int).length c] w (Rates w (shapeS 10 [n, m])) := by
  obtain ⟨b, off, rfl, hc⟩ := Is_at hx (i := 0) (by simp)
  obtain ⟨b', off', e, hd⟩ := Is_at hx (i := 1) (by simp)
  simp only [Option.some.injEq, Addr.mk.injEq, and_true] at e
  obtain ⟨rfl, rfl⟩ := e
  simp only [List.getElem_cons_zero, List.getElem_cons_succ] at hd
  simp only [Nat.add_zero, List.getElem_cons_zero] at hc
  go_enter Try.func43, Try.ntmps43
  go_upto_region 9 with ((go_at_call 49; refine (within_any _ _ _).mono ?_; rintro e w' ⟨rfl, rfl⟩))
  go_cut [10] (fun s w' => s = .bool (twoS [n, m]) ∧ w' = w)
  case first =>
    by_cases h1 : 1 ≤ n ∧ n ≤ 16
    · by_cases h2 : 1 ≤ m ∧ m ≤ 64
      · have hb := twoS_decide n m h1.1 h1.2 h2.1 h2.2
        have hd1 : decide (1 ≤ n ∧ n ≤ 16) = true := by simpa using h1
        have hd2 : decide (1 ≤ m ∧ m ≤ 64) = true := by simpa using h2
        obtain ⟨hb1, hb2⟩ := hb
        go_wp2_with (first | (go_at_call 49; refine (within_any _ _ _).mono ?_; rintro e w' ⟨rfl, rfl⟩))
        go_meet
        case rel => exact ⟨by simp [twoS, h1, h2], rfl⟩
      · have hd1 : decide (1 ≤ n ∧ n ≤ 16) = true := by simpa using h1
        have hd2 : decide (1 ≤ m ∧ m ≤ 64) = false := by simpa using h2
        go_wp2_with (first | (go_at_call 49; refine (within_any _ _ _).mono ?_; rintro e w' ⟨rfl, rfl⟩))
        go_meet
        case rel => exact ⟨by simp [twoS]; omega, rfl⟩
    · have hd1 : decide (1 ≤ n ∧ n ≤ 16) = false := by simpa using h1
      go_wp2_with (first | (go_at_call 49; refine (within_any _ _ _).mono ?_; rintro e w' ⟨rfl, rfl⟩))
      go_meet
      case rel => exact ⟨by simp [twoS]; omega, rfl⟩
  case rest =>
    obtain ⟨rfl, rfl⟩ := hcut
    have hr : shapeS 10 [n, m] = (0, [], [1]) := by rfl
    have HR := Lib.hid hr; clear hr
    go_wp2_with (first | (go_at_call 49; refine (within_any _ _ _).mono ?_; rintro e w' ⟨rfl, rfl⟩) | (go_at_call 51; refine (shSame_i _ _ _ (by omega)).mono ?_; rintro e w' ⟨ao', c', rfl, hown', hnew'⟩) | (go_at_call 50; (with_reducible refine (shPorts1 _ _).mono ?_); rintro e w' ⟨ao', c', rfl, hown', hnew'⟩) | (go_at_call 50; (with_reducible refine (shPorts2 _ _ _).mono ?_); rintro e w' ⟨ao', c', rfl, hown', hnew'⟩))
    go_ret3
    rw [HR.out]
    exact Rates.snd (Keeps.alloc _ _) hown' hnew' (by simp)

set_option maxRecDepth 100000 in
set_option maxHeartbeats 1000000 in
theorem shOf_2_11 (n m : Int) (ao : Option Addr) (c : Nat) (w : World) (hx : SlAt w ao (Is [n, m])) :
    Calls Try.prog 43 #[.int .u8 11, .slice ao ([n, m] : List Int).length c] w (Rates w (shapeS 11 [n, m])) := by
  obtain ⟨b, off, rfl, hc⟩ := Is_at hx (i := 0) (by simp)
  obtain ⟨b', off', e, hd⟩ := Is_at hx (i := 1) (by simp)
  simp only [Option.some.injEq, Addr.mk.injEq, and_true] at e
  obtain ⟨rfl, rfl⟩ := e
  simp only [List.getElem_cons_zero, List.getElem_cons_succ] at hd
  simp only [Nat.add_zero, List.getElem_cons_zero] at hc
  go_enter Try.func43, Try.ntmps43
  go_upto_region 9 with ((go_at_call 49; refine (within_any _ _ _).mono ?_; rintro e w' ⟨rfl, rfl⟩))
  go_cut [10] (fun s w' => s = .bool (twoS [n, m]) ∧ w' = w)
  case first =>
    by_cases h1 : 1 ≤ n ∧ n ≤ 16
    · by_cases h2 : 1 ≤ m ∧ m ≤ 64
      · have hb := twoS_decide n m h1.1 h1.2 h2.1 h2.2
        have hd1 : decide (1 ≤ n ∧ n ≤ 16) = true := by simpa using h1
        have hd2 : decide (1 ≤ m ∧ m ≤ 64) = true := by simpa using h2
        obtain ⟨hb1, hb2⟩ := hb
        go_wp2_with (first | (go_at_call 49; refine (within_any _ _ _).mono ?_; rintro e w' ⟨rfl, rfl⟩))
        go_meet
        case rel => exact ⟨by simp [twoS, h1, h2], rfl⟩
      · have hd1 : decide (1 ≤ n ∧ n ≤ 16) = true := by simpa using h1
        have hd2 : decide (1 ≤ m ∧ m ≤ 64) = false := by simpa using h2
        go_wp2_with (first | (go_at_call 49; refine (within_any _ _ _).mono ?_; rintro e w' ⟨rfl, rfl⟩))
        go_meet
        case rel => exact ⟨by simp [twoS]; omega, rfl⟩
    · have hd1 : decide (1 ≤ n ∧ n ≤ 16) = false := by simpa using h1
      go_wp2_with (first | (go_at_call 49; refine (within_any _ _ _).mono ?_; rintro e w' ⟨rfl, rfl⟩))
      go_meet
      case rel => exact ⟨by simp [twoS]; omega, rfl⟩
  case rest =>
    obtain ⟨rfl, rfl⟩ := hcut
    have hr : shapeS 11 [n, m] = (61, [], []) := by rfl
    have HR := Lib.hid hr; clear hr
    go_wp2_with (first | (go_at_call 49; refine (within_any _ _ _).mono ?_; rintro e w' ⟨rfl, rfl⟩) | (go_at_call 51; refine (shSame_i _ _ _ (by omega)).mono ?_; rintro e w' ⟨ao', c', rfl, hown', hnew'⟩) | (go_at_call 50; (with_reducible refine (shPorts1 _ _).mono ?_); rintro e w' ⟨ao', c', rfl, hown', hnew'⟩) | (go_at_call 50; (with_reducible refine (shPorts2 _ _ _).mono ?_); rintro e w' ⟨ao', c', rfl, hown', hnew'⟩))
    go_ret3
    rw [HR.out]
    exact Rates.none _ _ _ (New.refl _)

set_option maxRecDepth 100000 in
set_option maxHeartbeats 1000000 in
theorem shOf_3_1 (ps : List Int) (ao : Option Addr) (c : Nat) (w : World) (hx : SlAt w ao (Is ps)) (h3 : 3 ≤ ps.length) (hl : ps.length ≤ 9223372036854775807) :
    Calls Try.prog 43 #[.int .u8 1, .slice ao ps.length c] w (Rates w (shapeS 1 ps)) := by
  obtain ⟨b, off, rfl, hc⟩ := Is_at hx (i := 0) (by omega)
  obtain ⟨b', off', e, hd⟩ := Is_at hx (i := 1) (by omega)
  simp only [Option.some.injEq, Addr.mk.injEq, and_true] at e
  obtain ⟨rfl, rfl⟩ := e
  simp only [Nat.add_zero] at hc
  generalize ps[0] = n at hc
  generalize ps[1] = m at hd
  have e1 : ((ps.length : Int) == 1) = false := beq_eq_false_iff_ne.2 (by omega)
  have e2 : ((ps.length : Int) == 2) = false := beq_eq_false_iff_ne.2 (by omega)
  have e0 : ((ps.length : Int) == 0) = false := beq_eq_false_iff_ne.2 (by omega)
  have hone : ∀ k, oneS ps k = false := fun k => by match ps, h3 with | _ :: _ :: _ :: _, _ => rfl
  have htwo : twoS ps = false := by match ps, h3 with | _ :: _ :: _ :: _, _ => rfl
  have n0 : ps ≠ [] := by rintro rfl; simp at h3
  by_cases h : ps.length ≤ 16
  · have hd1 : decide (1 ≤ (ps.length : Int) ∧ (ps.length : Int) ≤ 16) = true := by simp; omega
    have hr : shapeS 1 ps = (0, [1], [1]) := by simp [shapeS, goodS, rates, h]; omega
    have HR := Lib.hid hr; clear hr hone htwo n0
    go_enter Try.func43, Try.ntmps43
    go_wp2_with (first | (go_at_call 49; refine (within_any _ _ _).mono ?_; rintro e w' ⟨rfl, rfl⟩) | (go_at_call 51; refine (shSame_i _ _ _ (by omega)).mono ?_; rintro e w' ⟨ao', c', rfl, hown', hnew'⟩) | (go_at_call 50; (with_reducible refine (shPorts1 _ _).mono ?_); rintro e w' ⟨ao', c', rfl, hown', hnew'⟩) | (go_at_call 50; (with_reducible refine (shPorts2 _ _ _).mono ?_); rintro e w' ⟨ao', c', rfl, hown', hnew'⟩))
    go_ret3
    rw [HR.out]
    exact Rates.mk2 (Keeps.alloc _ _) (by assumption) (by assumption) (Keeps.alloc _ _) hown' hnew' (by simp) (by simp)
  · have hd1 : decide (1 ≤ (ps.length : Int) ∧ (ps.length : Int) ≤ 16) = false := by simp; omega
    have hr : shapeS 1 ps = (61, [], []) := by simp [shapeS, goodS]; omega
    have HR := Lib.hid hr; clear hr hone htwo n0
    go_enter Try.func43, Try.ntmps43
    go_wp2_with (first | (go_at_call 49; refine (within_any _ _ _).mono ?_; rintro e w' ⟨rfl, rfl⟩) | (go_at_call 51; refine (shSame_i _ _ _ (by omega)).mono ?_; rintro e w' ⟨ao', c', rfl, hown', hnew'⟩) | (go_at_call 50; (with_reducible refine (shPorts1 _ _).mono ?_); rintro e w' ⟨ao', c', rfl, hown', hnew'⟩) | (go_at_call 50; (with_reducible refine (shPorts2 _ _ _).mono ?_); rintro e w' ⟨ao', c', rfl, hown', hnew'⟩))
    go_ret3
    rw [HR.out]
    exact Rates.none _ _ _ (New.refl _)

set_option maxRecDepth 100000 in
set_option maxHeartbeats 1000000 in
theorem shOf_3_2 (ps : List Int) (ao : Option Addr) (c : Nat) (w : World) (hx : SlAt w ao (Is ps)) (h3 : 3 ≤ ps.length) (hl : ps.length ≤ 9223372036854775807) :
    Calls Try.prog 43 #[.int .u8 2, .slice ao ps.length c] w (Rates w (shapeS 2 ps)) := by
  obtain ⟨b, off, rfl, hc⟩ := Is_at hx (i := 0) (by omega)
  obtain ⟨b', off', e, hd⟩ := Is_at hx (i := 1) (by omega)
  simp only [Option.some.injEq, Addr.mk.injEq, and_true] at e
  obtain ⟨rfl, rfl⟩ := e
  simp only [Nat.add_zero] at hc
  generalize ps[0] = n at hc
  generalize ps[1] = m at hd
  have e1 : ((ps.length : Int) == 1) = false := beq_eq_false_iff_ne.2 (by omega)
  have e2 : ((ps.length : Int) == 2) = false := beq_eq_false_iff_ne.2 (by omega)
  have e0 : ((ps.length : Int) == 0) = false := beq_eq_false_iff_ne.2 (by omega)
  have hone : ∀ k, oneS ps k = false := fun k => by match ps, h3 with | _ :: _ :: _ :: _, _ => rfl
  have htwo : twoS ps = false := by match ps, h3 with | _ :: _ :: _ :: _, _ => rfl
  have n0 : ps ≠ [] := by rintro rfl; simp at h3
  have hr : shapeS 2 ps = (61, [], []) := by simp [shapeS, goodS, hone, htwo, n0]
  have HR := Lib.hid hr; clear hr hone htwo n0
  go_enter Try.func43, Try.ntmps43
  go_wp2_with (first | (go_at_call 49; refine (within_any _ _ _).mono ?_; rintro e w' ⟨rfl, rfl⟩) | (go_at_call 51; refine (shSame_i _ _ _ (by omega)).mono ?_; rintro e w' ⟨ao', c', rfl, hown', hnew'⟩) | (go_at_call 50; (with_reducible refine (shPorts1 _ _).mono ?_); rintro e w' ⟨ao', c', rfl, hown', hnew'⟩) | (go_at_call 50; (with_reducible refine (shPorts2 _ _ _).mono ?_); rintro e w' ⟨ao', c', rfl, hown', hnew'⟩))
  go_ret3
  rw [HR.out]
  exact Rates.none _ _ _ (New.refl _)

set_option maxRecDepth 100000 in
set_option maxHeartbeats 1000000 in
theorem shOf_3_3 (ps : List Int) (ao : Option Addr) (c : Nat) (w : World) (hx : SlAt w ao (Is ps)) (h3 : 3 ≤ ps.length) (hl : ps.length ≤ 9223372036854775807) :
    Calls Try.prog 43 #[.int .u8 3, .slice ao ps.length c] w (Rates w (shapeS 3 ps)) := by
  obtain ⟨b, off, rfl, hc⟩ := Is_at hx (i := 0) (by omega)
  obtain ⟨b', off', e, hd⟩ := Is_at hx (i := 1) (by omega)
  simp only [Option.some.injEq, Addr.mk.injEq, and_true] at e
  obtain ⟨rfl, rfl⟩ := e
  simp only [Nat.add_zero] at hc
  generalize ps[0] = n at hc
  generalize ps[1] = m at hd
  have e1 : ((ps.length : Int) == 1) = false := beq_eq_false_iff_ne.2 (by omega)
  have e2 : ((ps.length : Int) == 2) = false := beq_eq_false_iff_ne.2 (by omega)
  have e0 : ((ps.length : Int) == 0) = false := beq_eq_false_iff_ne.2 (by omega)
  have hone : ∀ k, oneS ps k = false := fun k => by match ps, h3 with | _ :: _ :: _ :: _, _ => rfl
  have htwo : twoS ps = false := by match ps, h3 with | _ :: _ :: _ :: _, _ => rfl
  have n0 : ps ≠ [] := by rintro rfl; simp at h3
  have hr : shapeS 3 ps = (61, [], []) := by simp [shapeS, goodS, hone, htwo, n0]
  have HR := Lib.hid hr; clear hr hone htwo n0
  go_enter Try.func43, Try.ntmps43
  go_wp2_with (first | (go_at_call 49; refine (within_any _ _ _).mono ?_; rintro e w' ⟨rfl, rfl⟩) | (go_at_call 51; refine (shSame_i _ _ _ (by omega)).mono ?_; rintro e w' ⟨ao', c', rfl, hown', hnew'⟩) | (go_at_call 50; (with_reducible refine (shPorts1 _ _).mono ?_); rintro e w' ⟨ao', c', rfl, hown', hnew'⟩) | (go_at_call 50; (with_reducible refine (shPorts2 _ _ _).mono ?_); rintro e w' ⟨ao', c', rfl, hown', hnew'⟩))
  go_ret3
  rw [HR.out]
  exact Rates.none _ _ _ (New.refl _)

set_option maxRecDepth 100000 in
set_option maxHeartbeats 1000000 in
theorem shOf_3_4 (ps : List Int) (ao : Option Addr) (c : Nat) (w : World) (hx : SlAt w ao (Is ps)) (h3 : 3 ≤ ps.length) (hl : ps.length ≤ 9223372036854775807) :
    Calls Try.prog 43 #[.int .u8 4, .slice ao ps.length c] w (Rates w (shapeS 4 ps)) := by
  obtain ⟨b, off, rfl, hc⟩ := Is_at hx (i := 0) (by omega)
  obtain ⟨b', off', e, hd⟩ := Is_at hx (i := 1) (by omega)
  simp only [Option.some.injEq, Addr.mk.injEq, and_true] at e
  obtain ⟨rfl, rfl⟩ := e
  simp only [Nat.add_zero] at hc
  generalize ps[0] = n at hc
  generalize ps[1] = m at hd
  have e1 : ((ps.length : Int) == 1) = false := beq_eq_false_iff_ne.2 (by omega)
  have e2 : ((ps.length : Int) == 2) = false := beq_eq_false_iff_ne.2 (by omega)
  have e0 : ((ps.length : Int) == 0) = false := beq_eq_false_iff_ne.2 (by omega)
  have hone : ∀ k, oneS ps k = false := fun k => by match ps, h3 with | _ :: _ :: _ :: _, _ => rfl
  have htwo : twoS ps = false := by match ps, h3 with | _ :: _ :: _ :: _, _ => rfl
  have n0 : ps ≠ [] := by rintro rfl; simp at h3
  have hr : shapeS 4 ps = (61, [], []) := by simp [shapeS, goodS, hone, htwo, n0]
  have HR := Lib.hid hr; clear hr hone htwo n0
  go_enter Try.func43, Try.ntmps43
  go_wp2_with (first | (go_at_call 49; refine (within_any _ _ _).mono ?_; rintro e w' ⟨rfl, rfl⟩) | (go_at_call 51; refine (shSame_i _ _ _ (by omega)).mono ?_; rintro e w' ⟨ao', c', rfl, hown', hnew'⟩) | (go_at_call 50; (with_reducible refine (shPorts1 _ _).mono ?_); rintro e w' ⟨ao', c', rfl, hown', hnew'⟩) | (go_at_call 50; (with_reducible refine (shPorts2 _ _ _).mono ?_); rintro e w' ⟨ao', c', rfl, hown', hnew'⟩))
  go_ret3
  rw [HR.out]
  exact Rates.none _ _ _ (New.refl _)

set_option maxRecDepth 100000 in
set_option maxHeartbeats 1000000 in
theorem shOf_3_5 (ps : List Int) (ao : Option Addr) (c : Nat) (w : World) (hx : SlAt w ao (Is ps)) (h3 : 3 ≤ ps.length) (hl : ps.length ≤ 9223372036854775807) :
    Calls Try.prog 43 #[.int .u8 5, .slice ao ps.length c] w (Rates w (shapeS 5 ps)) := by
  obtain ⟨b, off, rfl, hc⟩ := Is_at hx (i := 0) (by omega)
  obtain ⟨b', off', e, hd⟩ := Is_at hx (i := 1) (by omega)
  simp only [Option.some.injEq, Addr.mk.injEq, and_true] at e
  obtain ⟨rfl, rfl⟩ := e
  simp only [Nat.add_zero] at hc
  generalize ps[0] = n at hc
  generalize ps[1] = m at hd
  have e1 : ((ps.length : Int) == 1) = false := beq_eq_false_iff_ne.2 (by omega)
  have e2 : ((ps.length : Int) == 2) = false := beq_eq_false_iff_ne.2 (by omega)
  have e0 : ((ps.length : Int) == 0) = false := beq_eq_false_iff_ne.2 (by omega)
  have hone : ∀ k, oneS ps k = false := fun k => by match ps, h3 with | _ :: _ :: _ :: _, _ => rfl
  have htwo : twoS ps = false := by match ps, h3 with | _ :: _ :: _ :: _, _ => rfl
  have n0 : ps ≠ [] := by rintro rfl; simp at h3
  have hr : shapeS 5 ps = (61, [], []) := by simp [shapeS, goodS, hone, htwo, n0]
  have HR := Lib.hid hr; clear hr hone htwo n0
  go_enter Try.func43, Try.ntmps43
  go_wp2_with (first | (go_at_call 49; refine (within_any _ _ _).mono ?_; rintro e w' ⟨rfl, rfl⟩) | (go_at_call 51; refine (shSame_i _ _ _ (by omega)).mono ?_; rintro e w' ⟨ao', c', rfl, hown', hnew'⟩) | (go_at_call 50; (with_reducible refine (shPorts1 _ _).mono ?_); rintro e w' ⟨ao', c', rfl, hown', hnew'⟩) | (go_at_call 50; (with_reducible refine (shPorts2 _ _ _).mono ?_); rintro e w' ⟨ao', c', rfl, hown', hnew'⟩))
  go_ret3
  rw [HR.out]
  exact Rates.none _ _ _ (New.refl _)

set_option maxRecDepth 100000 in
set_option maxHeartbeats 1000000 in
theorem shOf_3_6 (ps : List Int) (ao : Option Addr) (c : Nat) (w : World) (hx : SlAt w ao (Is ps)) (h3 : 3 ≤ ps.length) (hl : ps.length ≤ 9223372036854775807) :
    Calls Try.prog 43 #[.int .u8 6, .slice ao ps.length c] w (Rates w (shapeS 6 ps)) := by
  obtain ⟨b, off, rfl, hc⟩ := Is_at hx (i := 0) (by omega)
  obtain ⟨b', off', e, hd⟩ := Is_at hx (i := 1) (by omega)
  simp only [Option.some.injEq, Addr.mk.injEq, and_true] at e
  obtain ⟨rfl, rfl⟩ := e
  simp only [Nat.add_zero] at hc
  generalize ps[0] = n at hc
  generalize ps[1] = m at hd
  have e1 : ((ps.length : Int) == 1) = false := beq_eq_false_iff_ne.2 (by omega)
  have e2 : ((ps.length : Int) == 2) = false := beq_eq_false_iff_ne.2 (by omega)
  have e0 : ((ps.length : Int) == 0) = false := beq_eq_false_iff_ne.2 (by omega)
  have hone : ∀ k, oneS ps k = false := fun k => by match ps, h3 with | _ :: _ :: _ :: _, _ => rfl
  have htwo : twoS ps = false := by match ps, h3 with | _ :: _ :: _ :: _, _ => rfl
  have n0 : ps ≠ [] := by rintro rfl; simp at h3
  have hr : shapeS 6 ps = (61, [], []) := by simp [shapeS, goodS, hone, htwo, n0]
  have HR := Lib.hid hr; clear hr hone htwo n0
  go_enter Try.func43, Try.ntmps43
  go_wp2_with (first | (go_at_call 49; refine (within_any _ _ _).mono ?_; rintro e w' ⟨rfl, rfl⟩) | (go_at_call 51; refine (shSame_i _ _ _ (by omega)).mono ?_; rintro e w' ⟨ao', c', rfl, hown', hnew'⟩) | (go_at_call 50; (with_reducible refine (shPorts1 _ _).mono ?_); rintro e w' ⟨ao', c', rfl, hown', hnew'⟩) | (go_at_call 50; (with_reducible refine (shPorts2 _ _ _).mono ?_); rintro e w' ⟨ao', c', rfl, hown', hnew'⟩))
  go_ret3
  rw [HR.out]
  exact Rates.none _ _ _ (New.refl _)

set_option maxRecDepth 100000 in
set_option maxHeartbeats 1000000 in
theorem shOf_3_7 (ps : List Int) (ao : Option Addr) (c : Nat) (w : World) (hx : SlAt w ao (Is ps)) (h3 : 3 ≤ ps.length) (hl : ps.length ≤ 9223372036854775807) :
    Calls Try.prog 43 #[.int .u8 7, .slice ao ps.length c] w (Rates w (shapeS 7 ps)) := by
  obtain ⟨b, off, rfl, hc⟩ := Is_at hx (i := 0) (by omega)
  obtain ⟨b', off', e, hd⟩ := Is_at hx (i := 1) (by omega)
  simp only [Option.some.injEq, Addr.mk.injEq, and_true] at e
  obtain ⟨rfl, rfl⟩ := e
  simp only [Nat.add_zero] at hc
  generalize ps[0] = n at hc
  generalize ps[1] = m at hd
  have e1 : ((ps.length : Int) == 1) = false := beq_eq_false_iff_ne.2 (by omega)
  have e2 : ((ps.length : Int) == 2) = false := beq_eq_false_iff_ne.2 (by omega)
  have e0 : ((ps.length : Int) == 0) = false := beq_eq_false_iff_ne.2 (by omega)
  have hone : ∀ k, oneS ps k = false := fun k => by match ps, h3 with | _ :: _ :: _ :: _, _ => rfl
  have htwo : twoS ps = false := by match ps, h3 with | _ :: _ :: _ :: _, _ => rfl
  have n0 : ps ≠ [] := by rintro rfl; simp at h3
  have hr : shapeS 7 ps = (61, [], []) := by simp [shapeS, goodS, hone, htwo, n0]
  have HR := Lib.hid hr; clear hr hone htwo n0
  go_enter Try.func43, Try.ntmps43
  go_wp2_with (first | (go_at_call 49; refine (within_any _ _ _).mono ?_; rintro e w' ⟨rfl, rfl⟩) | (go_at_call 51; refine (shSame_i _ _ _ (by omega)).mono ?_; rintro e w' ⟨ao', c', rfl, hown', hnew'⟩) | (go_at_call 50; (with_reducible refine (shPorts1 _ _).mono ?_); rintro e w' ⟨ao', c', rfl, hown', hnew'⟩) | (go_at_call 50; (with_reducible refine (shPorts2 _ _ _).mono ?_); rintro e w' ⟨ao', c', rfl, hown', hnew'⟩))
  go_ret3
  rw [HR.out]
  exact Rates.none _ _ _ (New.refl _)

set_option maxRecDepth 100000 in
set_option maxHeartbeats 1000000 in
theorem shOf_3_8 (ps : List Int) (ao : Option Addr) (c : Nat) (w : World) (hx : SlAt w ao (Is ps)) (h3 : 3 ≤ ps.length) (hl : ps.length ≤ 9223372036854775807) :
    Calls Try.prog 43 #[.int .u8 8, .slice ao ps.length c] w (Rates w (shapeS 8 ps)) := by
  obtain ⟨b, off, rfl, hc⟩ := Is_at hx (i := 0) (by omega)
  obtain ⟨b', off', e, hd⟩ := Is_at hx (i := 1) (by omega)
  simp only [Option.some.injEq, Addr.mk.injEq, and_true] at e
  obtain ⟨rfl, rfl⟩ := e
  simp only [Nat.add_zero] at hc
  generalize ps[0] = n at hc
  generalize ps[1] = m at hd
  have e1 : ((ps.length : Int) == 1) = false := beq_eq_false_iff_ne.2 (by omega)
  have e2 : ((ps.length : Int) == 2) = false := beq_eq_false_iff_ne.2 (by omega)
  have e0 : ((ps.length : Int) == 0) = false := beq_eq_false_iff_ne.2 (by omega)
  have hone : ∀ k, oneS ps k = false := fun k => by match ps, h3 with | _ :: _ :: _ :: _, _ => rfl
  have htwo : twoS ps = false := by match ps, h3 with | _ :: _ :: _ :: _, _ => rfl
  have n0 : ps ≠ [] := by rintro rfl; simp at h3
  have hr : shapeS 8 ps = (61, [], []) := by simp [shapeS, goodS, hone, htwo, n0]
  have HR := Lib.hid hr; clear hr hone htwo n0
  go_enter Try.func43, Try.ntmps43
  go_wp2_with (first | (go_at_call 49; refine (within_any _ _ _).mono ?_; rintro e w' ⟨rfl, rfl⟩) | (go_at_call 51; refine (shSame_i _ _ _ (by omega)).mono ?_; rintro e w' ⟨ao', c', rfl, hown', hnew'⟩) | (go_at_call 50; (with_reducible refine (shPorts1 _ _).mono ?_); rintro e w' ⟨ao', c', rfl, hown', hnew'⟩) | (go_at_call 50; (with_reducible refine (shPorts2 _ _ _).mono ?_); rintro e w' ⟨ao', c', rfl, hown', hnew'⟩))
  go_ret3
  rw [HR.out]
  exact Rates.none _ _ _ (New.refl _)

set_option maxRecDepth 100000 in
set_option maxHeartbeats 1000000 in
theorem shOf_3_9 (ps : List Int) (ao : Option Addr) (c : Nat) (w : World) (hx : SlAt w ao (Is ps)) (h3 : 3 ≤ ps.length) (hl : ps.length ≤ 9223372036854775807) :
    Calls Try.prog 43 #[.int .u8 9, .slice ao ps.length c] w (Rates w (shapeS 9 ps)) := by
  obtain ⟨b, off, rfl, hc⟩ := Is_at hx (i := 0) (by omega)
  obtain ⟨b', off', e, hd⟩ := Is_at hx (i := 1) (by omega)
  simp only [Option.some.injEq, Addr.mk.injEq, and_true] at e
  obtain ⟨rfl, rfl⟩ := e
  simp only [Nat.add_zero] at hc
  generalize ps[0] = n at hc
  generalize ps[1] = m at hd
  have e1 : ((ps.length : Int) == 1) = false := beq_eq_false_iff_ne.2 (by omega)
  have e2 : ((ps.length : Int) == 2) = false := beq_eq_false_iff_ne.2 (by omega)
  have e0 : ((ps.length : Int) == 0) = false := beq_eq_false_iff_ne.2 (by omega)
  have hone : ∀ k, oneS ps k = false := fun k => by match ps, h3 with | _ :: _ :: _ :: _, _ => rfl
  have htwo : twoS ps = false := by match ps, h3 with | _ :: _ :: _ :: _, _ => rfl
  have n0 : ps ≠ [] := by rintro rfl; simp at h3
  have hr : shapeS 9 ps = (61, [], []) := by simp [shapeS, goodS, hone, htwo, n0]
  have HR := Lib.hid hr; clear hr hone htwo n0
  go_enter Try.func43, Try.ntmps43
  go_wp2_with (first | (go_at_call 49; refine (within_any _ _ _).mono ?_; rintro e w' ⟨rfl, rfl⟩) | (go_at_call 51; refine (shSame_i _ _ _ (by omega)).mono ?_; rintro e w' ⟨ao', c', rfl, hown', hnew'⟩) | (go_at_call 50; (with_reducible refine (shPorts1 _ _).mono ?_); rintro e w' ⟨ao', c', rfl, hown', hnew'⟩) | (go_at_call 50; (with_reducible refine (shPorts2 _ _ _).mono ?_); rintro e w' ⟨ao', c', rfl, hown', hnew'⟩))
  go_ret3
  rw [HR.out]
  exact Rates.none _ _ _ (New.refl _)

set_option maxRecDepth 100000 in
set_option maxHeartbeats 1000000 in
theorem shOf_3_10 (ps : List Int) (ao : Option Addr) (c : Nat) (w : World) (hx : SlAt w ao (Is ps)) (h3 : 3 ≤ ps.length) (hl : ps.length ≤ 9223372036854775807) :
    Calls Try.prog 43 #[.int .u8 10, .slice ao ps.length c] w (Rates w (shapeS 10 ps)) := by
  obtain ⟨b, off, rfl, hc⟩ := Is_at hx (i := 0) (by omega)
  obtain ⟨b', off', e, hd⟩ := Is_at hx (i := 1) (by omega)
  simp only [Option.some.injEq, Addr.mk.injEq, and_true] at e
  obtain ⟨rfl, rfl⟩ := e
  simp only [Nat.add_zero] at hc
  generalize ps[0] = n at hc
  generalize ps[1] = m at hd
  have e1 : ((ps.length : Int) == 1) = false := beq_eq_false_iff_ne.2 (by omega)
  have e2 : ((ps.length : Int) == 2) = false := beq_eq_false_iff_ne.2 (by omega)
  have e0 : ((ps.length : Int) == 0) = false := beq_eq_false_iff_ne.2 (by omega)
  have hone : ∀ k, oneS ps k = false := fun k => by match ps, h3 with | _ :: _ :: _ :: _, _ => rfl
  have htwo : twoS ps = false := by match ps, h3 with | _ :: _ :: _ :: _, _ => rfl
  have n0 : ps ≠ [] := by rintro rfl; simp at h3
  have hr : shapeS 10 ps = (61, [], []) := by simp [shapeS, goodS, hone, htwo, n0]; try omega
  have HR := Lib.hid hr; clear hr hone htwo n0
  go_enter Try.func43, Try.ntmps43
  go_wp2_with (first | (go_at_call 49; refine (within_any _ _ _).mono ?_; rintro e w' ⟨rfl, rfl⟩) | (go_at_call 51; refine (shSame_i _ _ _ (by omega)).mono ?_; rintro e w' ⟨ao', c', rfl, hown', hnew'⟩) | (go_at_call 50; (with_reducible refine (shPorts1 _ _).mono ?_); rintro e w' ⟨ao', c', rfl, hown', hnew'⟩) | (go_at_call 50; (with_reducible refine (shPorts2 _ _ _).mono ?_); rintro e w' ⟨ao', c', rfl, hown', hnew'⟩))
  go_ret3
  rw [HR.out]
  exact Rates.none _ _ _ (New.refl _)

set_option maxRecDepth 100000 in
set_option maxHeartbeats 1000000 in
theorem shOf_3_11 (ps : List Int) (ao : Option Addr) (c : Nat) (w : World) (hx : SlAt w ao (Is ps)) (h3 : 3 ≤ ps.length) (hl : ps.length ≤ 9223372036854775807) :
    Calls Try.prog 43 #[.int .u8 11, .slice ao ps.length c] w (Rates w (shapeS 11 ps)) := by
  obtain ⟨b, off, rfl, hc⟩ := Is_at hx (i := 0) (by omega)
  obtain ⟨b', off', e, hd⟩ := Is_at hx (i := 1) (by omega)
  simp only [Option.some.injEq, Addr.mk.injEq, and_true] at e
  obtain ⟨rfl, rfl⟩ := e
  simp only [Nat.add_zero] at hc
  generalize ps[0] = n at hc
  generalize ps[1] = m at hd
  have e1 : ((ps.length : Int) == 1) = false := beq_eq_false_iff_ne.2 (by omega)
  have e2 : ((ps.length : Int) == 2) = false := beq_eq_false_iff_ne.2 (by omega)
  have e0 : ((ps.length : Int) == 0) = false := beq_eq_false_iff_ne.2 (by omega)
  have hone : ∀ k, oneS ps k = false := fun k => by match ps, h3 with | _ :: _ :: _ :: _, _ => rfl
  have htwo : twoS ps = false := by match ps, h3 with | _ :: _ :: _ :: _, _ => rfl
  have n0 : ps ≠ [] := by rintro rfl; simp at h3
  have hr : shapeS 11 ps = (61, [], []) := by simp [shapeS, goodS, hone, htwo, n0]
  have HR := Lib.hid hr; clear hr hone htwo n0
  go_enter Try.func43, Try.ntmps43
  go_wp2_with (first | (go_at_call 49; refine (within_any _ _ _).mono ?_; rintro e w' ⟨rfl, rfl⟩) | (go_at_call 51; refine (shSame_i _ _ _ (by omega)).mono ?_; rintro e w' ⟨ao', c', rfl, hown', hnew'⟩) | (go_at_call 50; (with_reducible refine (shPorts1 _ _).mono ?_); rintro e w' ⟨ao', c', rfl, hown', hnew'⟩) | (go_at_call 50; (with_reducible refine (shPorts2 _ _ _).mono ?_); rintro e w' ⟨ao', c', rfl, hown', hnew'⟩))
  go_ret3
  rw [HR.out]
  exact Rates.none _ _ _ (New.refl _)

end Go.Proofs.Ytijlgcbnoekmeaa
