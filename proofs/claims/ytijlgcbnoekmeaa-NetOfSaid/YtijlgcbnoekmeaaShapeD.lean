/-
  Walks, fourth part: the program's own Of. Printed by gen_shapeD.py.
-/
import Derived.Test.YtijlgcbnoekmeaaShapeC
import Derived.Deep.DeepCutAuto
namespace Go.Proofs.Ytijlgcbnoekmeaa
open Go Go.RowKit
set_option linter.all false

theorem shSame_i (n : Int) (r : Int) (w : World) (hn : 0 ≤ n ∧ n ≤ 64) :
    Calls Try.prog 51 #[I n, I r] w fun e w' => ∃ ao c, e = .returned (.slice ao n.toNat c) ∧ OwnI w' w.heap.size ao c (List.replicate n.toNat r) ∧ New w w' := by
  obtain ⟨k, rfl⟩ := Int.eq_ofNat_of_zero_le hn.1
  exact shSame_any k r w (by omega)

theorem twoS_decide (n m : Int) (h1 : 1 ≤ n) (h2 : n ≤ 16) (h3 : 1 ≤ m) (h4 : m ≤ 64) : 1 ≤ n * m ∧ n * m ≤ 1024 := by
  have a := Int.mul_le_mul h1 h3 (by omega) (by omega)
  have b := Int.mul_le_mul h2 h4 (by omega) (by omega)
  exact ⟨by simpa using a, by simpa using b⟩

theorem shPorts1 (x : Int) (w : World) :
    Calls Try.prog 50 #[.slice (some ⟨w.heap.size, 0, none⟩) 1 1] (w.alloc (.cells #[.int .i64 x] 3)) fun e w' => ∃ ao' c', e = .returned (.slice ao' 1 c') ∧ OwnI w' (w.alloc (.cells #[.int .i64 x] 3)).heap.size ao' c' [x] ∧ New (w.alloc (.cells #[.int .i64 x] 3)) w' :=
  shPorts_any _ 1 [x] _ (SlAt.lit _ _ _) (by simp)
theorem shPorts2 (x y : Int) (w : World) :
    Calls Try.prog 50 #[.slice (some ⟨w.heap.size, 0, none⟩) 2 2] (w.alloc (.cells #[.int .i64 x, .int .i64 y] 3)) fun e w' => ∃ ao' c', e = .returned (.slice ao' 2 c') ∧ OwnI w' (w.alloc (.cells #[.int .i64 x, .int .i64 y] 3)).heap.size ao' c' [x, y] ∧ New (w.alloc (.cells #[.int .i64 x, .int .i64 y] 3)) w' :=
  shPorts_any _ 2 [x, y] _ (SlAt.lit _ _ _) (by simp)

theorem Rates.mk2 {w w0 w1 w1' w2 : World} {a b : Option Addr} {ca cb na nb : Nat} {xs ys xs' ys' : List Int} (h0 : New w w0) (ha : OwnI w1 w0.heap.size a ca xs) (h1 : New w0 w1) (h1' : New w1 w1') (hb : OwnI w2 w1'.heap.size b cb ys) (h2 : New w1' w2)
    (hxs : xs = xs' ∧ na = xs'.length) (hys : ys = ys' ∧ nb = ys'.length) :
    Rates w (0, xs', ys') (.returned (.tuple #[.slice a na ca, .slice b nb cb, I 0])) w2 :=
  Rates.mk h0 (ha.new h1') (h1.trans h1') hb h2 hxs hys

set_option maxRecDepth 100000 in
set_option maxHeartbeats 1000000 in
theorem shOf_0_1  (ao : Option Addr) (c : Nat) (w : World) (hx : SlAt w ao (Is [])) :
    Calls Try.prog 43 #[.int .u8 1, .slice ao ([] : List Int).length c] w (Rates w (shapeS 1 [])) := by
  go_enter Try.func43, Try.ntmps43
  have hr : shapeS 1 [] = (61, [], []) := by rfl
  have HR := Lib.hid hr; clear hr
  go_wp2_with (first | (go_at_call 49; refine (within_any _ _ _).mono ?_; rintro e w' ⟨rfl, rfl⟩) | (go_at_call 51; refine (shSame_i _ _ _ (by omega)).mono ?_; rintro e w' ⟨ao', c', rfl, hown', hnew'⟩) | (go_at_call 50; (with_reducible refine (shPorts1 _ _).mono ?_); rintro e w' ⟨ao', c', rfl, hown', hnew'⟩) | (go_at_call 50; (with_reducible refine (shPorts2 _ _ _).mono ?_); rintro e w' ⟨ao', c', rfl, hown', hnew'⟩))
  go_ret3
  rw [HR.out]
  exact Rates.none _ _ _ (New.refl _)

set_option maxRecDepth 100000 in
set_option maxHeartbeats 1000000 in
theorem shOf_0_2  (ao : Option Addr) (c : Nat) (w : World) (hx : SlAt w ao (Is [])) :
    Calls Try.prog 43 #[.int .u8 2, .slice ao ([] : List Int).length c] w (Rates w (shapeS 2 [])) := by
  go_enter Try.func43, Try.ntmps43
  have hr : shapeS 2 [] = (61, [], []) := by rfl
  have HR := Lib.hid hr; clear hr
  go_wp2_with (first | (go_at_call 49; refine (within_any _ _ _).mono ?_; rintro e w' ⟨rfl, rfl⟩) | (go_at_call 51; refine (shSame_i _ _ _ (by omega)).mono ?_; rintro e w' ⟨ao', c', rfl, hown', hnew'⟩) | (go_at_call 50; (with_reducible refine (shPorts1 _ _).mono ?_); rintro e w' ⟨ao', c', rfl, hown', hnew'⟩) | (go_at_call 50; (with_reducible refine (shPorts2 _ _ _).mono ?_); rintro e w' ⟨ao', c', rfl, hown', hnew'⟩))
  go_ret3
  rw [HR.out]
  exact Rates.none _ _ _ (New.refl _)

set_option maxRecDepth 100000 in
set_option maxHeartbeats 1000000 in
theorem shOf_0_3  (ao : Option Addr) (c : Nat) (w : World) (hx : SlAt w ao (Is [])) :
    Calls Try.prog 43 #[.int .u8 3, .slice ao ([] : List Int).length c] w (Rates w (shapeS 3 [])) := by
  go_enter Try.func43, Try.ntmps43
  have hr : shapeS 3 [] = (61, [], []) := by rfl
  have HR := Lib.hid hr; clear hr
  go_wp2_with (first | (go_at_call 49; refine (within_any _ _ _).mono ?_; rintro e w' ⟨rfl, rfl⟩) | (go_at_call 51; refine (shSame_i _ _ _ (by omega)).mono ?_; rintro e w' ⟨ao', c', rfl, hown', hnew'⟩) | (go_at_call 50; (with_reducible refine (shPorts1 _ _).mono ?_); rintro e w' ⟨ao', c', rfl, hown', hnew'⟩) | (go_at_call 50; (with_reducible refine (shPorts2 _ _ _).mono ?_); rintro e w' ⟨ao', c', rfl, hown', hnew'⟩))
  go_ret3
  rw [HR.out]
  exact Rates.none _ _ _ (New.refl _)

set_option maxRecDepth 100000 in
set_option maxHeartbeats 1000000 in
theorem shOf_0_4  (ao : Option Addr) (c : Nat) (w : World) (hx : SlAt w ao (Is [])) :
    Calls Try.prog 43 #[.int .u8 4, .slice ao ([] : List Int).length c] w (Rates w (shapeS 4 [])) := by
  go_enter Try.func43, Try.ntmps43
  have hr : shapeS 4 [] = (61, [], []) := by rfl
  have HR := Lib.hid hr; clear hr
  go_wp2_with (first | (go_at_call 49; refine (within_any _ _ _).mono ?_; rintro e w' ⟨rfl, rfl⟩) | (go_at_call 51; refine (shSame_i _ _ _ (by omega)).mono ?_; rintro e w' ⟨ao', c', rfl, hown', hnew'⟩) | (go_at_call 50; (with_reducible refine (shPorts1 _ _).mono ?_); rintro e w' ⟨ao', c', rfl, hown', hnew'⟩) | (go_at_call 50; (with_reducible refine (shPorts2 _ _ _).mono ?_); rintro e w' ⟨ao', c', rfl, hown', hnew'⟩))
  go_ret3
  rw [HR.out]
  exact Rates.none _ _ _ (New.refl _)

set_option maxRecDepth 100000 in
set_option maxHeartbeats 1000000 in
theorem shOf_0_5  (ao : Option Addr) (c : Nat) (w : World) (hx : SlAt w ao (Is [])) :
    Calls Try.prog 43 #[.int .u8 5, .slice ao ([] : List Int).length c] w (Rates w (shapeS 5 [])) := by
  go_enter Try.func43, Try.ntmps43
  have hr : shapeS 5 [] = (61, [], []) := by rfl
  have HR := Lib.hid hr; clear hr
  go_wp2_with (first | (go_at_call 49; refine (within_any _ _ _).mono ?_; rintro e w' ⟨rfl, rfl⟩) | (go_at_call 51; refine (shSame_i _ _ _ (by omega)).mono ?_; rintro e w' ⟨ao', c', rfl, hown', hnew'⟩) | (go_at_call 50; (with_reducible refine (shPorts1 _ _).mono ?_); rintro e w' ⟨ao', c', rfl, hown', hnew'⟩) | (go_at_call 50; (with_reducible refine (shPorts2 _ _ _).mono ?_); rintro e w' ⟨ao', c', rfl, hown', hnew'⟩))
  go_ret3
  rw [HR.out]
  exact Rates.none _ _ _ (New.refl _)

set_option maxRecDepth 100000 in
set_option maxHeartbeats 1000000 in
theorem shOf_0_6  (ao : Option Addr) (c : Nat) (w : World) (hx : SlAt w ao (Is [])) :
    Calls Try.prog 43 #[.int .u8 6, .slice ao ([] : List Int).length c] w (Rates w (shapeS 6 [])) := by
  go_enter Try.func43, Try.ntmps43
  have hr : shapeS 6 [] = (61, [], []) := by rfl
  have HR := Lib.hid hr; clear hr
  go_wp2_with (first | (go_at_call 49; refine (within_any _ _ _).mono ?_; rintro e w' ⟨rfl, rfl⟩) | (go_at_call 51; refine (shSame_i _ _ _ (by omega)).mono ?_; rintro e w' ⟨ao', c', rfl, hown', hnew'⟩) | (go_at_call 50; (with_reducible refine (shPorts1 _ _).mono ?_); rintro e w' ⟨ao', c', rfl, hown', hnew'⟩) | (go_at_call 50; (with_reducible refine (shPorts2 _ _ _).mono ?_); rintro e w' ⟨ao', c', rfl, hown', hnew'⟩))
  go_ret3
  rw [HR.out]
  exact Rates.none _ _ _ (New.refl _)

set_option maxRecDepth 100000 in
set_option maxHeartbeats 1000000 in
theorem shOf_0_7  (ao : Option Addr) (c : Nat) (w : World) (hx : SlAt w ao (Is [])) :
    Calls Try.prog 43 #[.int .u8 7, .slice ao ([] : List Int).length c] w (Rates w (shapeS 7 [])) := by
  go_enter Try.func43, Try.ntmps43
  have hr : shapeS 7 [] = (0, [1, 1], [1]) := by rfl
  have HR := Lib.hid hr; clear hr
  go_wp2_with (first | (go_at_call 49; refine (within_any _ _ _).mono ?_; rintro e w' ⟨rfl, rfl⟩) | (go_at_call 51; refine (shSame_i _ _ _ (by omega)).mono ?_; rintro e w' ⟨ao', c', rfl, hown', hnew'⟩) | (go_at_call 50; (with_reducible refine (shPorts1 _ _).mono ?_); rintro e w' ⟨ao', c', rfl, hown', hnew'⟩) | (go_at_call 50; (with_reducible refine (shPorts2 _ _ _).mono ?_); rintro e w' ⟨ao', c', rfl, hown', hnew'⟩))
  go_ret3
  rw [HR.out]
  exact Rates.mk2 (Keeps.alloc _ _) (by assumption) (by assumption) (Keeps.alloc _ _) hown' hnew' (by simp) (by simp)

set_option maxRecDepth 100000 in
set_option maxHeartbeats 1000000 in
theorem shOf_0_8  (ao : Option Addr) (c : Nat) (w : World) (hx : SlAt w ao (Is [])) :
    Calls Try.prog 43 #[.int .u8 8, .slice ao ([] : List Int).length c] w (Rates w (shapeS 8 [])) := by
  go_enter Try.func43, Try.ntmps43
  have hr : shapeS 8 [] = (0, [1], [1]) := by rfl
  have HR := Lib.hid hr; clear hr
  go_wp2_with (first | (go_at_call 49; refine (within_any _ _ _).mono ?_; rintro e w' ⟨rfl, rfl⟩) | (go_at_call 51; refine (shSame_i _ _ _ (by omega)).mono ?_; rintro e w' ⟨ao', c', rfl, hown', hnew'⟩) | (go_at_call 50; (with_reducible refine (shPorts1 _ _).mono ?_); rintro e w' ⟨ao', c', rfl, hown', hnew'⟩) | (go_at_call 50; (with_reducible refine (shPorts2 _ _ _).mono ?_); rintro e w' ⟨ao', c', rfl, hown', hnew'⟩))
  go_ret3
  rw [HR.out]
  exact Rates.mk2 (Keeps.alloc _ _) (by assumption) (by assumption) (Keeps.alloc _ _) hown' hnew' (by simp) (by simp)

set_option maxRecDepth 100000 in
set_option maxHeartbeats 1000000 in
theorem shOf_0_9  (ao : Option Addr) (c : Nat) (w : World) (hx : SlAt w ao (Is [])) :
    Calls Try.prog 43 #[.int .u8 9, .slice ao ([] : List Int).length c] w (Rates w (shapeS 9 [])) := by
  go_enter Try.func43, Try.ntmps43
  have hr : shapeS 9 [] = (61, [], []) := by rfl
  have HR := Lib.hid hr; clear hr
  go_wp2_with (first | (go_at_call 49; refine (within_any _ _ _).mono ?_; rintro e w' ⟨rfl, rfl⟩) | (go_at_call 51; refine (shSame_i _ _ _ (by omega)).mono ?_; rintro e w' ⟨ao', c', rfl, hown', hnew'⟩) | (go_at_call 50; (with_reducible refine (shPorts1 _ _).mono ?_); rintro e w' ⟨ao', c', rfl, hown', hnew'⟩) | (go_at_call 50; (with_reducible refine (shPorts2 _ _ _).mono ?_); rintro e w' ⟨ao', c', rfl, hown', hnew'⟩))
  go_ret3
  rw [HR.out]
  exact Rates.none _ _ _ (New.refl _)

set_option maxRecDepth 100000 in
set_option maxHeartbeats 1000000 in
theorem shOf_0_10  (ao : Option Addr) (c : Nat) (w : World) (hx : SlAt w ao (Is [])) :
    Calls Try.prog 43 #[.int .u8 10, .slice ao ([] : List Int).length c] w (Rates w (shapeS 10 [])) := by
  go_enter Try.func43, Try.ntmps43
  have hr : shapeS 10 [] = (61, [], []) := by rfl
  have HR := Lib.hid hr; clear hr
  go_wp2_with (first | (go_at_call 49; refine (within_any _ _ _).mono ?_; rintro e w' ⟨rfl, rfl⟩) | (go_at_call 51; refine (shSame_i _ _ _ (by omega)).mono ?_; rintro e w' ⟨ao', c', rfl, hown', hnew'⟩) | (go_at_call 50; (with_reducible refine (shPorts1 _ _).mono ?_); rintro e w' ⟨ao', c', rfl, hown', hnew'⟩) | (go_at_call 50; (with_reducible refine (shPorts2 _ _ _).mono ?_); rintro e w' ⟨ao', c', rfl, hown', hnew'⟩))
  go_ret3
  rw [HR.out]
  exact Rates.none _ _ _ (New.refl _)

set_option maxRecDepth 100000 in
set_option maxHeartbeats 1000000 in
theorem shOf_0_11  (ao : Option Addr) (c : Nat) (w : World) (hx : SlAt w ao (Is [])) :
    Calls Try.prog 43 #[.int .u8 11, .slice ao ([] : List Int).length c] w (Rates w (shapeS 11 [])) := by
  go_enter Try.func43, Try.ntmps43
  have hr : shapeS 11 [] = (61, [], []) := by rfl
  have HR := Lib.hid hr; clear hr
  go_wp2_with (first | (go_at_call 49; refine (within_any _ _ _).mono ?_; rintro e w' ⟨rfl, rfl⟩) | (go_at_call 51; refine (shSame_i _ _ _ (by omega)).mono ?_; rintro e w' ⟨ao', c', rfl, hown', hnew'⟩) | (go_at_call 50; (with_reducible refine (shPorts1 _ _).mono ?_); rintro e w' ⟨ao', c', rfl, hown', hnew'⟩) | (go_at_call 50; (with_reducible refine (shPorts2 _ _ _).mono ?_); rintro e w' ⟨ao', c', rfl, hown', hnew'⟩))
  go_ret3
  rw [HR.out]
  exact Rates.none _ _ _ (New.refl _)

set_option maxRecDepth 100000 in
set_option maxHeartbeats 1000000 in
theorem shOf_1_1 (n : Int) (ao : Option Addr) (c : Nat) (w : World) (hx : SlAt w ao (Is [n])) :
    Calls Try.prog 43 #[.int .u8 1, .slice ao ([n] : List Int).length c] w (Rates w (shapeS 1 [n])) := by
  obtain ⟨b, off, rfl, hc⟩ := Is_at hx (i := 0) (by simp)
  simp only [Nat.add_zero, List.getElem_cons_zero] at hc
  go_enter Try.func43, Try.ntmps43
  have hr : shapeS 1 [n] = (0, [1], [1]) := by rfl
  have HR := Lib.hid hr; clear hr
  go_wp2_with (first | (go_at_call 49; refine (within_any _ _ _).mono ?_; rintro e w' ⟨rfl, rfl⟩) | (go_at_call 51; refine (shSame_i _ _ _ (by omega)).mono ?_; rintro e w' ⟨ao', c', rfl, hown', hnew'⟩) | (go_at_call 50; (with_reducible refine (shPorts1 _ _).mono ?_); rintro e w' ⟨ao', c', rfl, hown', hnew'⟩) | (go_at_call 50; (with_reducible refine (shPorts2 _ _ _).mono ?_); rintro e w' ⟨ao', c', rfl, hown', hnew'⟩))
  go_ret3
  rw [HR.out]
  exact Rates.mk2 (Keeps.alloc _ _) (by assumption) (by assumption) (Keeps.alloc _ _) hown' hnew' (by simp) (by simp)

set_option maxRecDepth 100000 in
set_option maxHeartbeats 1000000 in
theorem shOf_1_2 (n : Int) (ao : Option Addr) (c : Nat) (w : World) (hx : SlAt w ao (Is [n])) :
    Calls Try.prog 43 #[.int .u8 2, .slice ao ([n] : List Int).length c] w (Rates w (shapeS 2 [n])) := by
  obtain ⟨b, off, rfl, hc⟩ := Is_at hx (i := 0) (by simp)
  simp only [Nat.add_zero, List.getElem_cons_zero] at hc
  go_enter Try.func43, Try.ntmps43
  by_cases h : 1 ≤ n ∧ n ≤ 64
  · have hd1 : decide (1 ≤ n ∧ n ≤ 64) = true := by simpa using h
    have hr : shapeS 2 [n] = (0, [1], [n]) := by simp [goodS, oneS, twoS, shapeS, rates, h]
    have HR := Lib.hid hr; clear hr
    obtain ⟨h1, h2⟩ := h
    go_wp2_with (first | (go_at_call 49; refine (within_any _ _ _).mono ?_; rintro e w' ⟨rfl, rfl⟩) | (go_at_call 51; refine (shSame_i _ _ _ (by omega)).mono ?_; rintro e w' ⟨ao', c', rfl, hown', hnew'⟩) | (go_at_call 50; (with_reducible refine (shPorts1 _ _).mono ?_); rintro e w' ⟨ao', c', rfl, hown', hnew'⟩) | (go_at_call 50; (with_reducible refine (shPorts2 _ _ _).mono ?_); rintro e w' ⟨ao', c', rfl, hown', hnew'⟩))
    go_ret3
    rw [HR.out]
    exact Rates.mk2 (Keeps.alloc _ _) (by assumption) (by assumption) (Keeps.alloc _ _) hown' hnew' (by simp) (by simp)
  · have hd1 : decide (1 ≤ n ∧ n ≤ 64) = false := by simpa using h
    have hr : shapeS 2 [n] = (61, [], []) := by simp only [goodS, oneS, twoS, shapeS, rates]; simp [h]; try omega
    have HR := Lib.hid hr; clear hr
    clear h
    go_wp2_with (first | (go_at_call 49; refine (within_any _ _ _).mono ?_; rintro e w' ⟨rfl, rfl⟩) | (go_at_call 51; refine (shSame_i _ _ _ (by omega)).mono ?_; rintro e w' ⟨ao', c', rfl, hown', hnew'⟩) | (go_at_call 50; (with_reducible refine (shPorts1 _ _).mono ?_); rintro e w' ⟨ao', c', rfl, hown', hnew'⟩) | (go_at_call 50; (with_reducible refine (shPorts2 _ _ _).mono ?_); rintro e w' ⟨ao', c', rfl, hown', hnew'⟩))
    go_ret3
    rw [HR.out]
    exact Rates.none _ _ _ (New.refl _)

set_option maxRecDepth 100000 in
set_option maxHeartbeats 1000000 in
theorem shOf_1_3 (n : Int) (ao : Option Addr) (c : Nat) (w : World) (hx : SlAt w ao (Is [n])) :
    Calls Try.prog 43 #[.int .u8 3, .slice ao ([n] : List Int).length c] w (Rates w (shapeS 3 [n])) := by
  obtain ⟨b, off, rfl, hc⟩ := Is_at hx (i := 0) (by simp)
  simp only [Nat.add_zero, List.getElem_cons_zero] at hc
  go_enter Try.func43, Try.ntmps43
  by_cases h : 1 ≤ n ∧ n ≤ 64
  · have hd1 : decide (1 ≤ n ∧ n ≤ 64) = true := by simpa using h
    have hr : shapeS 3 [n] = (0, [n], [1]) := by simp [goodS, oneS, twoS, shapeS, rates, h]
    have HR := Lib.hid hr; clear hr
    obtain ⟨h1, h2⟩ := h
    go_wp2_with (first | (go_at_call 49; refine (within_any _ _ _).mono ?_; rintro e w' ⟨rfl, rfl⟩) | (go_at_call 51; refine (shSame_i _ _ _ (by omega)).mono ?_; rintro e w' ⟨ao', c', rfl, hown', hnew'⟩) | (go_at_call 50; (with_reducible refine (shPorts1 _ _).mono ?_); rintro e w' ⟨ao', c', rfl, hown', hnew'⟩) | (go_at_call 50; (with_reducible refine (shPorts2 _ _ _).mono ?_); rintro e w' ⟨ao', c', rfl, hown', hnew'⟩))
    go_ret3
    rw [HR.out]
    exact Rates.mk2 (Keeps.alloc _ _) (by assumption) (by assumption) (Keeps.alloc _ _) hown' hnew' (by simp) (by simp)
  · have hd1 : decide (1 ≤ n ∧ n ≤ 64) = false := by simpa using h
    have hr : shapeS 3 [n] = (61, [], []) := by simp only [goodS, oneS, twoS, shapeS, rates]; simp [h]; try omega
    have HR := Lib.hid hr; clear hr
    clear h
    go_wp2_with (first | (go_at_call 49; refine (within_any _ _ _).mono ?_; rintro e w' ⟨rfl, rfl⟩) | (go_at_call 51; refine (shSame_i _ _ _ (by omega)).mono ?_; rintro e w' ⟨ao', c', rfl, hown', hnew'⟩) | (go_at_call 50; (with_reducible refine (shPorts1 _ _).mono ?_); rintro e w' ⟨ao', c', rfl, hown', hnew'⟩) | (go_at_call 50; (with_reducible refine (shPorts2 _ _ _).mono ?_); rintro e w' ⟨ao', c', rfl, hown', hnew'⟩))
    go_ret3
    rw [HR.out]
    exact Rates.none _ _ _ (New.refl _)

set_option maxRecDepth 100000 in
set_option maxHeartbeats 1000000 in
theorem shOf_1_4 (n : Int) (ao : Option Addr) (c : Nat) (w : World) (hx : SlAt w ao (Is [n])) :
    Calls Try.prog 43 #[.int .u8 4, .slice ao ([n] : List Int).length c] w (Rates w (shapeS 4 [n])) := by
  obtain ⟨b, off, rfl, hc⟩ := Is_at hx (i := 0) (by simp)
  simp only [Nat.add_zero, List.getElem_cons_zero] at hc
  go_enter Try.func43, Try.ntmps43
  have hr : shapeS 4 [n] = (61, [], []) := by rfl
  have HR := Lib.hid hr; clear hr
  go_wp2_with (first | (go_at_call 49; refine (within_any _ _ _).mono ?_; rintro e w' ⟨rfl, rfl⟩) | (go_at_call 51; refine (shSame_i _ _ _ (by omega)).mono ?_; rintro e w' ⟨ao', c', rfl, hown', hnew'⟩) | (go_at_call 50; (with_reducible refine (shPorts1 _ _).mono ?_); rintro e w' ⟨ao', c', rfl, hown', hnew'⟩) | (go_at_call 50; (with_reducible refine (shPorts2 _ _ _).mono ?_); rintro e w' ⟨ao', c', rfl, hown', hnew'⟩))
  go_ret3
  rw [HR.out]
  exact Rates.none _ _ _ (New.refl _)

set_option maxRecDepth 100000 in
set_option maxHeartbeats 1000000 in
theorem shOf_1_5 (n : Int) (ao : Option Addr) (c : Nat) (w : World) (hx : SlAt w ao (Is [n])) :
    Calls Try.prog 43 #[.int .u8 5, .slice ao ([n] : List Int).length c] w (Rates w (shapeS 5 [n])) := by
  obtain ⟨b, off, rfl, hc⟩ := Is_at hx (i := 0) (by simp)
  simp only [Nat.add_zero, List.getElem_cons_zero] at hc
  go_enter Try.func43, Try.ntmps43
  have hr : shapeS 5 [n] = (61, [], []) := by rfl
  have HR := Lib.hid hr; clear hr
  go_wp2_with (first | (go_at_call 49; refine (within_any _ _ _).mono ?_; rintro e w' ⟨rfl, rfl⟩) | (go_at_call 51; refine (shSame_i _ _ _ (by omega)).mono ?_; rintro e w' ⟨ao', c', rfl, hown', hnew'⟩) | (go_at_call 50; (with_reducible refine (shPorts1 _ _).mono ?_); rintro e w' ⟨ao', c', rfl, hown', hnew'⟩) | (go_at_call 50; (with_reducible refine (shPorts2 _ _ _).mono ?_); rintro e w' ⟨ao', c', rfl, hown', hnew'⟩))
  go_ret3
  rw [HR.out]
  exact Rates.none _ _ _ (New.refl _)

set_option maxRecDepth 100000 in
set_option maxHeartbeats 1000000 in
theorem shOf_1_6 (n : Int) (ao : Option Addr) (c : Nat) (w : World) (hx : SlAt w ao (Is [n])) :
    Calls Try.prog 43 #[.int .u8 6, .slice ao ([n] : List Int).length c] w (Rates w (shapeS 6 [n])) := by
  obtain ⟨b, off, rfl, hc⟩ := Is_at hx (i := 0) (by simp)
  simp only [Nat.add_zero, List.getElem_cons_zero] at hc
  go_enter Try.func43, Try.ntmps43
  by_cases h : 1 ≤ n ∧ n ≤ 16
  · have hd1 : decide (1 ≤ n ∧ n ≤ 16) = true := by simpa using h
    have hr : shapeS 6 [n] = (0, List.replicate n.toNat 1, [1]) := by simp [goodS, oneS, twoS, shapeS, rates, h]
    have HR := Lib.hid hr; clear hr
    obtain ⟨h1, h2⟩ := h
    go_wp2_with (first | (go_at_call 49; refine (within_any _ _ _).mono ?_; rintro e w' ⟨rfl, rfl⟩) | (go_at_call 51; refine (shSame_i _ _ _ (by omega)).mono ?_; rintro e w' ⟨ao', c', rfl, hown', hnew'⟩) | (go_at_call 50; (with_reducible refine (shPorts1 _ _).mono ?_); rintro e w' ⟨ao', c', rfl, hown', hnew'⟩) | (go_at_call 50; (with_reducible refine (shPorts2 _ _ _).mono ?_); rintro e w' ⟨ao', c', rfl, hown', hnew'⟩))
    go_ret3
    rw [HR.out]
    exact Rates.mk2 (Keeps.refl _ _) (by assumption) (by assumption) (Keeps.alloc _ _) hown' hnew' (by simp) (by simp)
  · have hd1 : decide (1 ≤ n ∧ n ≤ 16) = false := by simpa using h
    have hr : shapeS 6 [n] = (61, [], []) := by simp only [goodS, oneS, twoS, shapeS, rates]; simp [h]; try omega
    have HR := Lib.hid hr; clear hr
    clear h
    go_wp2_with (first | (go_at_call 49; refine (within_any _ _ _).mono ?_; rintro e w' ⟨rfl, rfl⟩) | (go_at_call 51; refine (shSame_i _ _ _ (by omega)).mono ?_; rintro e w' ⟨ao', c', rfl, hown', hnew'⟩) | (go_at_call 50; (with_reducible refine (shPorts1 _ _).mono ?_); rintro e w' ⟨ao', c', rfl, hown', hnew'⟩) | (go_at_call 50; (with_reducible refine (shPorts2 _ _ _).mono ?_); rintro e w' ⟨ao', c', rfl, hown', hnew'⟩))
    go_ret3
    rw [HR.out]
    exact Rates.none _ _ _ (New.refl _)

set_option maxRecDepth 100000 in
set_option maxHeartbeats 1000000 in
theorem shOf_1_7 (n : Int) (ao : Option Addr) (c : Nat) (w : World) (hx : SlAt w ao (Is [n])) :
    Calls Try.prog 43 #[.int .u8 7, .slice ao ([n] : List Int).length c] w (Rates w (shapeS 7 [n])) := by
  obtain ⟨b, off, rfl, hc⟩ := Is_at hx (i := 0) (by simp)
  simp only [Nat.add_zero, List.getElem_cons_zero] at hc
  go_enter Try.func43, Try.ntmps43
  have hr : shapeS 7 [n] = (61, [], []) := by rfl
  have HR := Lib.hid hr; clear hr
  go_wp2_with (first | (go_at_call 49; refine (within_any _ _ _).mono ?_; rintro e w' ⟨rfl, rfl⟩) | (go_at_call 51; refine (shSame_i _ _ _ (by omega)).mono ?_; rintro e w' ⟨ao', c', rfl, hown', hnew'⟩) | (go_at_call 50; (with_reducible refine (shPorts1 _ _).mono ?_); rintro e w' ⟨ao', c', rfl, hown', hnew'⟩) | (go_at_call 50; (with_reducible refine (shPorts2 _ _ _).mono ?_); rintro e w' ⟨ao', c', rfl, hown', hnew'⟩))
  go_ret3
  rw [HR.out]
  exact Rates.none _ _ _ (New.refl _)

set_option maxRecDepth 100000 in
set_option maxHeartbeats 1000000 in
theorem shOf_1_8 (n : Int) (ao : Option Addr) (c : Nat) (w : World) (hx : SlAt w ao (Is [n])) :
    Calls Try.prog 43 #[.int .u8 8, .slice ao ([n] : List Int).length c] w (Rates w (shapeS 8 [n])) := by
  obtain ⟨b, off, rfl, hc⟩ := Is_at hx (i := 0) (by simp)
  simp only [Nat.add_zero, List.getElem_cons_zero] at hc
  go_enter Try.func43, Try.ntmps43
  have hr : shapeS 8 [n] = (61, [], []) := by rfl
  have HR := Lib.hid hr; clear hr
  go_wp2_with (first | (go_at_call 49; refine (within_any _ _ _).mono ?_; rintro e w' ⟨rfl, rfl⟩) | (go_at_call 51; refine (shSame_i _ _ _ (by omega)).mono ?_; rintro e w' ⟨ao', c', rfl, hown', hnew'⟩) | (go_at_call 50; (with_reducible refine (shPorts1 _ _).mono ?_); rintro e w' ⟨ao', c', rfl, hown', hnew'⟩) | (go_at_call 50; (with_reducible refine (shPorts2 _ _ _).mono ?_); rintro e w' ⟨ao', c', rfl, hown', hnew'⟩))
  go_ret3
  rw [HR.out]
  exact Rates.none _ _ _ (New.refl _)

set_option maxRecDepth 100000 in
set_option maxHeartbeats 1000000 in
theorem shOf_1_9 (n : Int) (ao : Option Addr) (c : Nat) (w : World) (hx : SlAt w ao (Is [n])) :
    Calls Try.prog 43 #[.int .u8 9, .slice ao ([n] : List Int).length c] w (Rates w (shapeS 9 [n])) := by
  obtain ⟨b, off, rfl, hc⟩ := Is_at hx (i := 0) (by simp)
  simp only [Nat.add_zero, List.getElem_cons_zero] at hc
  go_enter Try.func43, Try.ntmps43
  by_cases h : 1 ≤ n ∧ n ≤ 16
  · have hd1 : decide (1 ≤ n ∧ n ≤ 16) = true := by simpa using h
    have hr : shapeS 9 [n] = (0, [1], List.replicate n.toNat 1) := by simp [goodS, oneS, twoS, shapeS, rates, h]
    have HR := Lib.hid hr; clear hr
    obtain ⟨h1, h2⟩ := h
    go_wp2_with (first | (go_at_call 49; refine (within_any _ _ _).mono ?_; rintro e w' ⟨rfl, rfl⟩) | (go_at_call 51; refine (shSame_i _ _ _ (by omega)).mono ?_; rintro e w' ⟨ao', c', rfl, hown', hnew'⟩) | (go_at_call 50; (with_reducible refine (shPorts1 _ _).mono ?_); rintro e w' ⟨ao', c', rfl, hown', hnew'⟩) | (go_at_call 50; (with_reducible refine (shPorts2 _ _ _).mono ?_); rintro e w' ⟨ao', c', rfl, hown', hnew'⟩))
    go_ret3
    rw [HR.out]
    exact Rates.mk2 (Keeps.alloc _ _) (by assumption) (by assumption) (Keeps.refl _ _) hown' hnew' (by simp) (by simp)
  · have hd1 : decide (1 ≤ n ∧ n ≤ 16) = false := by simpa using h
    have hr : shapeS 9 [n] = (61, [], []) := by simp only [goodS, oneS, twoS, shapeS, rates]; simp [h]; try omega
    have HR := Lib.hid hr; clear hr
    clear h
    go_wp2_with (first | (go_at_call 49; refine (within_any _ _ _).mono ?_; rintro e w' ⟨rfl, rfl⟩) | (go_at_call 51; refine (shSame_i _ _ _ (by omega)).mono ?_; rintro e w' ⟨ao', c', rfl, hown', hnew'⟩) | (go_at_call 50; (with_reducible refine (shPorts1 _ _).mono ?_); rintro e w' ⟨ao', c', rfl, hown', hnew'⟩) | (go_at_call 50; (with_reducible refine (shPorts2 _ _ _).mono ?_); rintro e w' ⟨ao', c', rfl, hown', hnew'⟩))
    go_ret3
    rw [HR.out]
    exact Rates.none _ _ _ (New.refl _)

set_option maxRecDepth 100000 in
set_option maxHeartbeats 1000000 in
theorem shOf_1_10 (n : Int) (ao : Option Addr) (c : Nat) (w : World) (hx : SlAt w ao (Is [n])) :
    Calls Try.prog 43 #[.int .u8 10, .slice ao ([n] : List Int).length c] w (Rates w (shapeS 10 [n])) := by
  obtain ⟨b, off, rfl, hc⟩ := Is_at hx (i := 0) (by simp)
  simp only [Nat.add_zero, List.getElem_cons_zero] at hc
  go_enter Try.func43, Try.ntmps43
  have hr : shapeS 10 [n] = (61, [], []) := by rfl
  have HR := Lib.hid hr; clear hr
  go_wp2_with (first | (go_at_call 49; refine (within_any _ _ _).mono ?_; rintro e w' ⟨rfl, rfl⟩) | (go_at_call 51; refine (shSame_i _ _ _ (by omega)).mono ?_; rintro e w' ⟨ao', c', rfl, hown', hnew'⟩) | (go_at_call 50; (with_reducible refine (shPorts1 _ _).mono ?_); rintro e w' ⟨ao', c', rfl, hown', hnew'⟩) | (go_at_call 50; (with_reducible refine (shPorts2 _ _ _).mono ?_); rintro e w' ⟨ao', c', rfl, hown', hnew'⟩))
  go_ret3
  rw [HR.out]
  exact Rates.none _ _ _ (New.refl _)

set_option maxRecDepth 100000 in
set_option maxHeartbeats 1000000 in
theorem shOf_1_11 (n : Int) (ao : Option Addr) (c : Nat) (w : World) (hx : SlAt w ao (Is [n])) :
    Calls Try.prog 43 #[.int .u8 11, .slice ao ([n] : List Int).length c] w (Rates w (shapeS 11 [n])) := by
  obtain ⟨b, off, rfl, hc⟩ := Is_at hx (i := 0) (by simp)
  simp only [Nat.add_zero, List.getElem_cons_zero] at hc
  go_enter Try.func43, Try.ntmps43
  by_cases h : 1 ≤ n ∧ n ≤ 64
  · have hd1 : decide (1 ≤ n ∧ n ≤ 64) = true := by simpa using h
    have hr : shapeS 11 [n] = (0, [n], []) := by simp [goodS, oneS, twoS, shapeS, rates, h]
    have HR := Lib.hid hr; clear hr
    obtain ⟨h1, h2⟩ := h
    go_wp2_with (first | (go_at_call 49; refine (within_any _ _ _).mono ?_; rintro e w' ⟨rfl, rfl⟩) | (go_at_call 51; refine (shSame_i _ _ _ (by omega)).mono ?_; rintro e w' ⟨ao', c', rfl, hown', hnew'⟩) | (go_at_call 50; (with_reducible refine (shPorts1 _ _).mono ?_); rintro e w' ⟨ao', c', rfl, hown', hnew'⟩) | (go_at_call 50; (with_reducible refine (shPorts2 _ _ _).mono ?_); rintro e w' ⟨ao', c', rfl, hown', hnew'⟩))
    go_ret3
    rw [HR.out]
    exact Rates.fst (Keeps.alloc _ _) hown' hnew' (by simp)
  · have hd1 : decide (1 ≤ n ∧ n ≤ 64) = false := by simpa using h
    have hr : shapeS 11 [n] = (61, [], []) := by simp only [goodS, oneS, twoS, shapeS, rates]; simp [h]; try omega
    have HR := Lib.hid hr; clear hr
    clear h
    go_wp2_with (first | (go_at_call 49; refine (within_any _ _ _).mono ?_; rintro e w' ⟨rfl, rfl⟩) | (go_at_call 51; refine (shSame_i _ _ _ (by omega)).mono ?_; rintro e w' ⟨ao', c', rfl, hown', hnew'⟩) | (go_at_call 50; (with_reducible refine (shPorts1 _ _).mono ?_); rintro e w' ⟨ao', c', rfl, hown', hnew'⟩) | (go_at_call 50; (with_reducible refine (shPorts2 _ _ _).mono ?_); rintro e w' ⟨ao', c', rfl, hown', hnew'⟩))
    go_ret3
    rw [HR.out]
    exact Rates.none _ _ _ (New.refl _)

end Go.Proofs.Ytijlgcbnoekmeaa
