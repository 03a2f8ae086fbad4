/-
  ShapeD, ShapeE, ShapeO, ShapeW, GrC, GrE, GrF, GrH: what is wanted of them.
-/
import Derived.Test.YtnedmonlofbahaaGreatDoorBs
import Derived.Test.YtnedmonlofbahaaGreatDoorDbl
import Derived.Deep.DeepCutAuto
namespace Go.Proofs.YtnedmonlofbahaaGreatDoor
open Go Go.RowKit
set_option linter.all false

theorem shSame_i (n : Int) (r : Int) (w : World) (hn : 0 ≤ n ∧ n ≤ 64) :
    Calls Tryz.prog 144 #[I n, I r] w fun e w' => ∃ ao c, e = .returned (.slice ao n.toNat c) ∧ OwnI w' w.heap.size ao c (List.replicate n.toNat r) ∧ New w w' := by
  obtain ⟨k, rfl⟩ := Int.eq_ofNat_of_zero_le hn.1
  exact shSame_any k r w (by omega)

theorem twoS_decide (n m : Int) (h1 : 1 ≤ n) (h2 : n ≤ 16) (h3 : 1 ≤ m) (h4 : m ≤ 64) : 1 ≤ n * m ∧ n * m ≤ 1024 := by
  have a := Int.mul_le_mul h1 h3 (by omega) (by omega)
  have b := Int.mul_le_mul h2 h4 (by omega) (by omega)
  exact ⟨by simpa using a, by simpa using b⟩

theorem shPorts1 (x : Int) (w : World) :
    Calls Tryz.prog 143 #[.slice (some ⟨w.heap.size, 0, none⟩) 1 1] (w.alloc (.cells #[.int .i64 x] 3)) fun e w' => ∃ ao' c', e = .returned (.slice ao' 1 c') ∧ OwnI w' (w.alloc (.cells #[.int .i64 x] 3)).heap.size ao' c' [x] ∧ New (w.alloc (.cells #[.int .i64 x] 3)) w' :=
  shPorts_any _ 1 [x] _ (SlAt.lit _ _ _) (by simp)
theorem shPorts2 (x y : Int) (w : World) :
    Calls Tryz.prog 143 #[.slice (some ⟨w.heap.size, 0, none⟩) 2 2] (w.alloc (.cells #[.int .i64 x, .int .i64 y] 3)) fun e w' => ∃ ao' c', e = .returned (.slice ao' 2 c') ∧ OwnI w' (w.alloc (.cells #[.int .i64 x, .int .i64 y] 3)).heap.size ao' c' [x, y] ∧ New (w.alloc (.cells #[.int .i64 x, .int .i64 y] 3)) w' :=
  shPorts_any _ 2 [x, y] _ (SlAt.lit _ _ _) (by simp)

theorem Rates.mk2 {w w0 w1 w1' w2 : World} {a b : Option Addr} {ca cb na nb : Nat} {xs ys xs' ys' : List Int} (h0 : New w w0) (ha : OwnI w1 w0.heap.size a ca xs) (h1 : New w0 w1) (h1' : New w1 w1') (hb : OwnI w2 w1'.heap.size b cb ys) (h2 : New w1' w2)
    (hxs : xs = xs' ∧ na = xs'.length) (hys : ys = ys' ∧ nb = ys'.length) :
    Rates w (0, xs', ys') (.returned (.tuple #[.slice a na ca, .slice b nb cb, I 0])) w2 :=
  Rates.mk h0 (ha.new h1') (h1.trans h1') hb h2 hxs hys

set_option maxRecDepth 100000 in
set_option maxHeartbeats 1000000 in
theorem shOf_0_1  (ao : Option Addr) (c : Nat) (w : World) (hx : SlAt w ao (Is [])) :
    Calls Tryz.prog 125 #[.int .u8 1, .slice ao ([] : List Int).length c] w (Rates w (shapeS 1 [])) := by
  go_enter Tryz.func125, Tryz.ntmps125
  have hr : shapeS 1 [] = (61, [], []) := by rfl
  have HR := Lib.hid hr; clear hr
  go_wp2_with (first | (go_at_call 142; refine (within_any _ _ _).mono ?_; rintro e w' ⟨rfl, rfl⟩) | (go_at_call 144; refine (shSame_i _ _ _ (by omega)).mono ?_; rintro e w' ⟨ao', c', rfl, hown', hnew'⟩) | (go_at_call 143; (with_reducible refine (shPorts1 _ _).mono ?_); rintro e w' ⟨ao', c', rfl, hown', hnew'⟩) | (go_at_call 143; (with_reducible refine (shPorts2 _ _ _).mono ?_); rintro e w' ⟨ao', c', rfl, hown', hnew'⟩))
  go_ret3
  rw [HR.out]
  exact Rates.none _ _ _ (New.refl _)

set_option maxRecDepth 100000 in
set_option maxHeartbeats 1000000 in
theorem shOf_0_2  (ao : Option Addr) (c : Nat) (w : World) (hx : SlAt w ao (Is [])) :
    Calls Tryz.prog 125 #[.int .u8 2, .slice ao ([] : List Int).length c] w (Rates w (shapeS 2 [])) := by
  go_enter Tryz.func125, Tryz.ntmps125
  have hr : shapeS 2 [] = (61, [], []) := by rfl
  have HR := Lib.hid hr; clear hr
  go_wp2_with (first | (go_at_call 142; refine (within_any _ _ _).mono ?_; rintro e w' ⟨rfl, rfl⟩) | (go_at_call 144; refine (shSame_i _ _ _ (by omega)).mono ?_; rintro e w' ⟨ao', c', rfl, hown', hnew'⟩) | (go_at_call 143; (with_reducible refine (shPorts1 _ _).mono ?_); rintro e w' ⟨ao', c', rfl, hown', hnew'⟩) | (go_at_call 143; (with_reducible refine (shPorts2 _ _ _).mono ?_); rintro e w' ⟨ao', c', rfl, hown', hnew'⟩))
  go_ret3
  rw [HR.out]
  exact Rates.none _ _ _ (New.refl _)

set_option maxRecDepth 100000 in
set_option maxHeartbeats 1000000 in
theorem shOf_0_3  (ao : Option Addr) (c : Nat) (w : World) (hx : SlAt w ao (Is [])) :
    Calls Tryz.prog 125 #[.int .u8 3, .slice ao ([] : List Int).length c] w (Rates w (shapeS 3 [])) := by
  go_enter Tryz.func125, Tryz.ntmps125
  have hr : shapeS 3 [] = (61, [], []) := by rfl
  have HR := Lib.hid hr; clear hr
  go_wp2_with (first | (go_at_call 142; refine (within_any _ _ _).mono ?_; rintro e w' ⟨rfl, rfl⟩) | (go_at_call 144; refine (shSame_i _ _ _ (by omega)).mono ?_; rintro e w' ⟨ao', c', rfl, hown', hnew'⟩) | (go_at_call 143; (with_reducible refine (shPorts1 _ _).mono ?_); rintro e w' ⟨ao', c', rfl, hown', hnew'⟩) | (go_at_call 143; (with_reducible refine (shPorts2 _ _ _).mono ?_); rintro e w' ⟨ao', c', rfl, hown', hnew'⟩))
  go_ret3
  rw [HR.out]
  exact Rates.none _ _ _ (New.refl _)

set_option maxRecDepth 100000 in
set_option maxHeartbeats 1000000 in
theorem shOf_0_4  (ao : Option Addr) (c : Nat) (w : World) (hx : SlAt w ao (Is [])) :
    Calls Tryz.prog 125 #[.int .u8 4, .slice ao ([] : List Int).length c] w (Rates w (shapeS 4 [])) := by
  go_enter Tryz.func125, Tryz.ntmps125
  have hr : shapeS 4 [] = (61, [], []) := by rfl
  have HR := Lib.hid hr; clear hr
  go_wp2_with (first | (go_at_call 142; refine (within_any _ _ _).mono ?_; rintro e w' ⟨rfl, rfl⟩) | (go_at_call 144; refine (shSame_i _ _ _ (by omega)).mono ?_; rintro e w' ⟨ao', c', rfl, hown', hnew'⟩) | (go_at_call 143; (with_reducible refine (shPorts1 _ _).mono ?_); rintro e w' ⟨ao', c', rfl, hown', hnew'⟩) | (go_at_call 143; (with_reducible refine (shPorts2 _ _ _).mono ?_); rintro e w' ⟨ao', c', rfl, hown', hnew'⟩))
  go_ret3
  rw [HR.out]
  exact Rates.none _ _ _ (New.refl _)

set_option maxRecDepth 100000 in
set_option maxHeartbeats 1000000 in
theorem shOf_0_5  (ao : Option Addr) (c : Nat) (w : World) (hx : SlAt w ao (Is [])) :
    Calls Tryz.prog 125 #[.int .u8 5, .slice ao ([] : List Int).length c] w (Rates w (shapeS 5 [])) := by
  go_enter Tryz.func125, Tryz.ntmps125
  have hr : shapeS 5 [] = (61, [], []) := by rfl
  have HR := Lib.hid hr; clear hr
  go_wp2_with (first | (go_at_call 142; refine (within_any _ _ _).mono ?_; rintro e w' ⟨rfl, rfl⟩) | (go_at_call 144; refine (shSame_i _ _ _ (by omega)).mono ?_; rintro e w' ⟨ao', c', rfl, hown', hnew'⟩) | (go_at_call 143; (with_reducible refine (shPorts1 _ _).mono ?_); rintro e w' ⟨ao', c', rfl, hown', hnew'⟩) | (go_at_call 143; (with_reducible refine (shPorts2 _ _ _).mono ?_); rintro e w' ⟨ao', c', rfl, hown', hnew'⟩))
  go_ret3
  rw [HR.out]
  exact Rates.none _ _ _ (New.refl _)

set_option maxRecDepth 100000 in
set_option maxHeartbeats 1000000 in
theorem shOf_0_6  (ao : Option Addr) (c : Nat) (w : World) (hx : SlAt w ao (Is [])) :
    Calls Tryz.prog 125 #[.int .u8 6, .slice ao ([] : List Int).length c] w (Rates w (shapeS 6 [])) := by
  go_enter Tryz.func125, Tryz.ntmps125
  have hr : shapeS 6 [] = (61, [], []) := by rfl
  have HR := Lib.hid hr; clear hr
  go_wp2_with (first | (go_at_call 142; refine (within_any _ _ _).mono ?_; rintro e w' ⟨rfl, rfl⟩) | (go_at_call 144; refine (shSame_i _ _ _ (by omega)).mono ?_; rintro e w' ⟨ao', c', rfl, hown', hnew'⟩) | (go_at_call 143; (with_reducible refine (shPorts1 _ _).mono ?_); rintro e w' ⟨ao', c', rfl, hown', hnew'⟩) | (go_at_call 143; (with_reducible refine (shPorts2 _ _ _).mono ?_); rintro e w' ⟨ao', c', rfl, hown', hnew'⟩))
  go_ret3
  rw [HR.out]
  exact Rates.none _ _ _ (New.refl _)

set_option maxRecDepth 100000 in
set_option maxHeartbeats 1000000 in
theorem shOf_0_7  (ao : Option Addr) (c : Nat) (w : World) (hx : SlAt w ao (Is [])) :
    Calls Tryz.prog 125 #[.int .u8 7, .slice ao ([] : List Int).length c] w (Rates w (shapeS 7 [])) := by
  go_enter Tryz.func125, Tryz.ntmps125
  have hr : shapeS 7 [] = (0, [1, 1], [1]) := by rfl
  have HR := Lib.hid hr; clear hr
  go_wp2_with (first | (go_at_call 142; refine (within_any _ _ _).mono ?_; rintro e w' ⟨rfl, rfl⟩) | (go_at_call 144; refine (shSame_i _ _ _ (by omega)).mono ?_; rintro e w' ⟨ao', c', rfl, hown', hnew'⟩) | (go_at_call 143; (with_reducible refine (shPorts1 _ _).mono ?_); rintro e w' ⟨ao', c', rfl, hown', hnew'⟩) | (go_at_call 143; (with_reducible refine (shPorts2 _ _ _).mono ?_); rintro e w' ⟨ao', c', rfl, hown', hnew'⟩))
  go_ret3
  rw [HR.out]
  exact Rates.mk2 (Keeps.alloc _ _) (by assumption) (by assumption) (Keeps.alloc _ _) hown' hnew' (by simp) (by simp)

set_option maxRecDepth 100000 in
set_option maxHeartbeats 1000000 in
theorem shOf_0_8  (ao : Option Addr) (c : Nat) (w : World) (hx : SlAt w ao (Is [])) :
    Calls Tryz.prog 125 #[.int .u8 8, .slice ao ([] : List Int).length c] w (Rates w (shapeS 8 [])) := by
  go_enter Tryz.func125, Tryz.ntmps125
  have hr : shapeS 8 [] = (0, [1], [1]) := by rfl
  have HR := Lib.hid hr; clear hr
  go_wp2_with (first | (go_at_call 142; refine (within_any _ _ _).mono ?_; rintro e w' ⟨rfl, rfl⟩) | (go_at_call 144; refine (shSame_i _ _ _ (by omega)).mono ?_; rintro e w' ⟨ao', c', rfl, hown', hnew'⟩) | (go_at_call 143; (with_reducible refine (shPorts1 _ _).mono ?_); rintro e w' ⟨ao', c', rfl, hown', hnew'⟩) | (go_at_call 143; (with_reducible refine (shPorts2 _ _ _).mono ?_); rintro e w' ⟨ao', c', rfl, hown', hnew'⟩))
  go_ret3
  rw [HR.out]
  exact Rates.mk2 (Keeps.alloc _ _) (by assumption) (by assumption) (Keeps.alloc _ _) hown' hnew' (by simp) (by simp)

set_option maxRecDepth 100000 in
set_option maxHeartbeats 1000000 in
theorem shOf_0_9  (ao : Option Addr) (c : Nat) (w : World) (hx : SlAt w ao (Is [])) :
    Calls Tryz.prog 125 #[.int .u8 9, .slice ao ([] : List Int).length c] w (Rates w (shapeS 9 [])) := by
  go_enter Tryz.func125, Tryz.ntmps125
  have hr : shapeS 9 [] = (61, [], []) := by rfl
  have HR := Lib.hid hr; clear hr
  go_wp2_with (first | (go_at_call 142; refine (within_any _ _ _).mono ?_; rintro e w' ⟨rfl, rfl⟩) | (go_at_call 144; refine (shSame_i _ _ _ (by omega)).mono ?_; rintro e w' ⟨ao', c', rfl, hown', hnew'⟩) | (go_at_call 143; (with_reducible refine (shPorts1 _ _).mono ?_); rintro e w' ⟨ao', c', rfl, hown', hnew'⟩) | (go_at_call 143; (with_reducible refine (shPorts2 _ _ _).mono ?_); rintro e w' ⟨ao', c', rfl, hown', hnew'⟩))
  go_ret3
  rw [HR.out]
  exact Rates.none _ _ _ (New.refl _)

set_option maxRecDepth 100000 in
set_option maxHeartbeats 1000000 in
theorem shOf_0_10  (ao : Option Addr) (c : Nat) (w : World) (hx : SlAt w ao (Is [])) :
    Calls Tryz.prog 125 #[.int .u8 10, .slice ao ([] : List Int).length c] w (Rates w (shapeS 10 [])) := by
  go_enter Tryz.func125, Tryz.ntmps125
  have hr : shapeS 10 [] = (61, [], []) := by rfl
  have HR := Lib.hid hr; clear hr
  go_wp2_with (first | (go_at_call 142; refine (within_any _ _ _).mono ?_; rintro e w' ⟨rfl, rfl⟩) | (go_at_call 144; refine (shSame_i _ _ _ (by omega)).mono ?_; rintro e w' ⟨ao', c', rfl, hown', hnew'⟩) | (go_at_call 143; (with_reducible refine (shPorts1 _ _).mono ?_); rintro e w' ⟨ao', c', rfl, hown', hnew'⟩) | (go_at_call 143; (with_reducible refine (shPorts2 _ _ _).mono ?_); rintro e w' ⟨ao', c', rfl, hown', hnew'⟩))
  go_ret3
  rw [HR.out]
  exact Rates.none _ _ _ (New.refl _)

set_option maxRecDepth 100000 in
set_option maxHeartbeats 1000000 in
theorem shOf_0_11  (ao : Option Addr) (c : Nat) (w : World) (hx : SlAt w ao (Is [])) :
    Calls Tryz.prog 125 #[.int .u8 11, .slice ao ([] : List Int).length c] w (Rates w (shapeS 11 [])) := by
  go_enter Tryz.func125, Tryz.ntmps125
  have hr : shapeS 11 [] = (61, [], []) := by rfl
  have HR := Lib.hid hr; clear hr
  go_wp2_with (first | (go_at_call 142; refine (within_any _ _ _).mono ?_; rintro e w' ⟨rfl, rfl⟩) | (go_at_call 144; refine (shSame_i _ _ _ (by omega)).mono ?_; rintro e w' ⟨ao', c', rfl, hown', hnew'⟩) | (go_at_call 143; (with_reducible refine (shPorts1 _ _).mono ?_); rintro e w' ⟨ao', c', rfl, hown', hnew'⟩) | (go_at_call 143; (with_reducible refine (shPorts2 _ _ _).mono ?_); rintro e w' ⟨ao', c', rfl, hown', hnew'⟩))
  go_ret3
  rw [HR.out]
  exact Rates.none _ _ _ (New.refl _)

set_option maxRecDepth 100000 in
set_option maxHeartbeats 1000000 in
theorem shOf_1_1 (n : Int) (ao : Option Addr) (c : Nat) (w : World) (hx : SlAt w ao (Is [n])) :
    Calls Tryz.prog 125 #[.int .u8 1, .slice ao ([n] : List Int).length c] w (Rates w (shapeS 1 [n])) := by
  obtain ⟨b, off, rfl, hc⟩ := Is_at hx (i := 0) (by simp)
  simp only [Nat.add_zero, List.getElem_cons_zero] at hc
  go_enter Tryz.func125, Tryz.ntmps125
  have hr : shapeS 1 [n] = (0, [1], [1]) := by rfl
  have HR := Lib.hid hr; clear hr
  go_wp2_with (first | (go_at_call 142; refine (within_any _ _ _).mono ?_; rintro e w' ⟨rfl, rfl⟩) | (go_at_call 144; refine (shSame_i _ _ _ (by omega)).mono ?_; rintro e w' ⟨ao', c', rfl, hown', hnew'⟩) | (go_at_call 143; (with_reducible refine (shPorts1 _ _).mono ?_); rintro e w' ⟨ao', c', rfl, hown', hnew'⟩) | (go_at_call 143; (with_reducible refine (shPorts2 _ _ _).mono ?_); rintro e w' ⟨ao', c', rfl, hown', hnew'⟩))
  go_ret3
  rw [HR.out]
  exact Rates.mk2 (Keeps.alloc _ _) (by assumption) (by assumption) (Keeps.alloc _ _) hown' hnew' (by simp) (by simp)

set_option maxRecDepth 100000 in
set_option maxHeartbeats 1000000 in
theorem shOf_1_2 (n : Int) (ao : Option Addr) (c : Nat) (w : World) (hx : SlAt w ao (Is [n])) :
    Calls Tryz.prog 125 #[.int .u8 2, .slice ao ([n] : List Int).length c] w (Rates w (shapeS 2 [n])) := by
  obtain ⟨b, off, rfl, hc⟩ := Is_at hx (i := 0) (by simp)
  simp only [Nat.add_zero, List.getElem_cons_zero] at hc
  go_enter Tryz.func125, Tryz.ntmps125
  by_cases h : 1 ≤ n ∧ n ≤ 64
  · have hd1 : decide (1 ≤ n ∧ n ≤ 64) = true := by simpa using h
    have hr : shapeS 2 [n] = (0, [1], [n]) := by simp [goodS, oneS, twoS, shapeS, rates, h]
    have HR := Lib.hid hr; clear hr
    obtain ⟨h1, h2⟩ := h
    go_wp2_with (first | (go_at_call 142; refine (within_any _ _ _).mono ?_; rintro e w' ⟨rfl, rfl⟩) | (go_at_call 144; refine (shSame_i _ _ _ (by omega)).mono ?_; rintro e w' ⟨ao', c', rfl, hown', hnew'⟩) | (go_at_call 143; (with_reducible refine (shPorts1 _ _).mono ?_); rintro e w' ⟨ao', c', rfl, hown', hnew'⟩) | (go_at_call 143; (with_reducible refine (shPorts2 _ _ _).mono ?_); rintro e w' ⟨ao', c', rfl, hown', hnew'⟩))
    go_ret3
    rw [HR.out]
    exact Rates.mk2 (Keeps.alloc _ _) (by assumption) (by assumption) (Keeps.alloc _ _) hown' hnew' (by simp) (by simp)
  · have hd1 : decide (1 ≤ n ∧ n ≤ 64) = false := by simpa using h
    have hr : shapeS 2 [n] = (61, [], []) := by simp only [goodS, oneS, twoS, shapeS, rates]; simp [h]; try omega
    have HR := Lib.hid hr; clear hr
    clear h
    go_wp2_with (first | (go_at_call 142; refine (within_any _ _ _).mono ?_; rintro e w' ⟨rfl, rfl⟩) | (go_at_call 144; refine (shSame_i _ _ _ (by omega)).mono ?_; rintro e w' ⟨ao', c', rfl, hown', hnew'⟩) | (go_at_call 143; (with_reducible refine (shPorts1 _ _).mono ?_); rintro e w' ⟨ao', c', rfl, hown', hnew'⟩) | (go_at_call 143; (with_reducible refine (shPorts2 _ _ _).mono ?_); rintro e w' ⟨ao', c', rfl, hown', hnew'⟩))
    go_ret3
    rw [HR.out]
    exact Rates.none _ _ _ (New.refl _)

set_option maxRecDepth 100000 in
set_option maxHeartbeats 1000000 in
theorem shOf_1_3 (n : Int) (ao : Option Addr) (c : Nat) (w : World) (hx : SlAt w ao (Is [n])) :
    Calls Tryz.prog 125 #[.int .u8 3, .slice ao ([n] : List Int).length c] w (Rates w (shapeS 3 [n])) := by
  obtain ⟨b, off, rfl, hc⟩ := Is_at hx (i := 0) (by simp)
  simp only [Nat.add_zero, List.getElem_cons_zero] at hc
  go_enter Tryz.func125, Tryz.ntmps125
  by_cases h : 1 ≤ n ∧ n ≤ 64
  · have hd1 : decide (1 ≤ n ∧ n ≤ 64) = true := by simpa using h
    have hr : shapeS 3 [n] = (0, [n], [1]) := by simp [goodS, oneS, twoS, shapeS, rates, h]
    have HR := Lib.hid hr; clear hr
    obtain ⟨h1, h2⟩ := h
    go_wp2_with (first | (go_at_call 142; refine (within_any _ _ _).mono ?_; rintro e w' ⟨rfl, rfl⟩) | (go_at_call 144; refine (shSame_i _ _ _ (by omega)).mono ?_; rintro e w' ⟨ao', c', rfl, hown', hnew'⟩) | (go_at_call 143; (with_reducible refine (shPorts1 _ _).mono ?_); rintro e w' ⟨ao', c', rfl, hown', hnew'⟩) | (go_at_call 143; (with_reducible refine (shPorts2 _ _ _).mono ?_); rintro e w' ⟨ao', c', rfl, hown', hnew'⟩))
    go_ret3
    rw [HR.out]
    exact Rates.mk2 (Keeps.alloc _ _) (by assumption) (by assumption) (Keeps.alloc _ _) hown' hnew' (by simp) (by simp)
  · have hd1 : decide (1 ≤ n ∧ n ≤ 64) = false := by simpa using h
    have hr : shapeS 3 [n] = (61, [], []) := by simp only [goodS, oneS, twoS, shapeS, rates]; simp [h]; try omega
    have HR := Lib.hid hr; clear hr
    clear h
    go_wp2_with (first | (go_at_call 142; refine (within_any _ _ _).mono ?_; rintro e w' ⟨rfl, rfl⟩) | (go_at_call 144; refine (shSame_i _ _ _ (by omega)).mono ?_; rintro e w' ⟨ao', c', rfl, hown', hnew'⟩) | (go_at_call 143; (with_reducible refine (shPorts1 _ _).mono ?_); rintro e w' ⟨ao', c', rfl, hown', hnew'⟩) | (go_at_call 143; (with_reducible refine (shPorts2 _ _ _).mono ?_); rintro e w' ⟨ao', c', rfl, hown', hnew'⟩))
    go_ret3
    rw [HR.out]
    exact Rates.none _ _ _ (New.refl _)

set_option maxRecDepth 100000 in
set_option maxHeartbeats 1000000 in
theorem shOf_1_4 (n : Int) (ao : Option Addr) (c : Nat) (w : World) (hx : SlAt w ao (Is [n])) :
    Calls Tryz.prog 125 #[.int .u8 4, .slice ao ([n] : List Int).length c] w (Rates w (shapeS 4 [n])) := by
  obtain ⟨b, off, rfl, hc⟩ := Is_at hx (i := 0) (by simp)
  simp only [Nat.add_zero, List.getElem_cons_zero] at hc
  go_enter Tryz.func125, Tryz.ntmps125
  have hr : shapeS 4 [n] = (61, [], []) := by rfl
  have HR := Lib.hid hr; clear hr
  go_wp2_with (first | (go_at_call 142; refine (within_any _ _ _).mono ?_; rintro e w' ⟨rfl, rfl⟩) | (go_at_call 144; refine (shSame_i _ _ _ (by omega)).mono ?_; rintro e w' ⟨ao', c', rfl, hown', hnew'⟩) | (go_at_call 143; (with_reducible refine (shPorts1 _ _).mono ?_); rintro e w' ⟨ao', c', rfl, hown', hnew'⟩) | (go_at_call 143; (with_reducible refine (shPorts2 _ _ _).mono ?_); rintro e w' ⟨ao', c', rfl, hown', hnew'⟩))
  go_ret3
  rw [HR.out]
  exact Rates.none _ _ _ (New.refl _)

set_option maxRecDepth 100000 in
set_option maxHeartbeats 1000000 in
theorem shOf_1_5 (n : Int) (ao : Option Addr) (c : Nat) (w : World) (hx : SlAt w ao (Is [n])) :
    Calls Tryz.prog 125 #[.int .u8 5, .slice ao ([n] : List Int).length c] w (Rates w (shapeS 5 [n])) := by
  obtain ⟨b, off, rfl, hc⟩ := Is_at hx (i := 0) (by simp)
  simp only [Nat.add_zero, List.getElem_cons_zero] at hc
  go_enter Tryz.func125, Tryz.ntmps125
  have hr : shapeS 5 [n] = (61, [], []) := by rfl
  have HR := Lib.hid hr; clear hr
  go_wp2_with (first | (go_at_call 142; refine (within_any _ _ _).mono ?_; rintro e w' ⟨rfl, rfl⟩) | (go_at_call 144; refine (shSame_i _ _ _ (by omega)).mono ?_; rintro e w' ⟨ao', c', rfl, hown', hnew'⟩) | (go_at_call 143; (with_reducible refine (shPorts1 _ _).mono ?_); rintro e w' ⟨ao', c', rfl, hown', hnew'⟩) | (go_at_call 143; (with_reducible refine (shPorts2 _ _ _).mono ?_); rintro e w' ⟨ao', c', rfl, hown', hnew'⟩))
  go_ret3
  rw [HR.out]
  exact Rates.none _ _ _ (New.refl _)

set_option maxRecDepth 100000 in
set_option maxHeartbeats 1000000 in
theorem shOf_1_6 (n : Int) (ao : Option Addr) (c : Nat) (w : World) (hx : SlAt w ao (Is [n])) :
    Calls Tryz.prog 125 #[.int .u8 6, .slice ao ([n] : List Int).length c] w (Rates w (shapeS 6 [n])) := by
  obtain ⟨b, off, rfl, hc⟩ := Is_at hx (i := 0) (by simp)
  simp only [Nat.add_zero, List.getElem_cons_zero] at hc
  go_enter Tryz.func125, Tryz.ntmps125
  by_cases h : 1 ≤ n ∧ n ≤ 16
  · have hd1 : decide (1 ≤ n ∧ n ≤ 16) = true := by simpa using h
    have hr : shapeS 6 [n] = (0, List.replicate n.toNat 1, [1]) := by simp [goodS, oneS, twoS, shapeS, rates, h]
    have HR := Lib.hid hr; clear hr
    obtain ⟨h1, h2⟩ := h
    go_wp2_with (first | (go_at_call 142; refine (within_any _ _ _).mono ?_; rintro e w' ⟨rfl, rfl⟩) | (go_at_call 144; refine (shSame_i _ _ _ (by omega)).mono ?_; rintro e w' ⟨ao', c', rfl, hown', hnew'⟩) | (go_at_call 143; (with_reducible refine (shPorts1 _ _).mono ?_); rintro e w' ⟨ao', c', rfl, hown', hnew'⟩) | (go_at_call 143; (with_reducible refine (shPorts2 _ _ _).mono ?_); rintro e w' ⟨ao', c', rfl, hown', hnew'⟩))
    go_ret3
    rw [HR.out]
    exact Rates.mk2 (Keeps.refl _ _) (by assumption) (by assumption) (Keeps.alloc _ _) hown' hnew' (by simp) (by simp)
  · have hd1 : decide (1 ≤ n ∧ n ≤ 16) = false := by simpa using h
    have hr : shapeS 6 [n] = (61, [], []) := by simp only [goodS, oneS, twoS, shapeS, rates]; simp [h]; try omega
    have HR := Lib.hid hr; clear hr
    clear h
    go_wp2_with (first | (go_at_call 142; refine (within_any _ _ _).mono ?_; rintro e w' ⟨rfl, rfl⟩) | (go_at_call 144; refine (shSame_i _ _ _ (by omega)).mono ?_; rintro e w' ⟨ao', c', rfl, hown', hnew'⟩) | (go_at_call 143; (with_reducible refine (shPorts1 _ _).mono ?_); rintro e w' ⟨ao', c', rfl, hown', hnew'⟩) | (go_at_call 143; (with_reducible refine (shPorts2 _ _ _).mono ?_); rintro e w' ⟨ao', c', rfl, hown', hnew'⟩))
    go_ret3
    rw [HR.out]
    exact Rates.none _ _ _ (New.refl _)

set_option maxRecDepth 100000 in
set_option maxHeartbeats 1000000 in
theorem shOf_1_7 (n : Int) (ao : Option Addr) (c : Nat) (w : World) (hx : SlAt w ao (Is [n])) :
    Calls Tryz.prog 125 #[.int .u8 7, .slice ao ([n] : List Int).length c] w (Rates w (shapeS 7 [n])) := by
  obtain ⟨b, off, rfl, hc⟩ := Is_at hx (i := 0) (by simp)
  simp only [Nat.add_zero, List.getElem_cons_zero] at hc
  go_enter Tryz.func125, Tryz.ntmps125
  have hr : shapeS 7 [n] = (61, [], []) := by rfl
  have HR := Lib.hid hr; clear hr
  go_wp2_with (first | (go_at_call 142; refine (within_any _ _ _).mono ?_; rintro e w' ⟨rfl, rfl⟩) | (go_at_call 144; refine (shSame_i _ _ _ (by omega)).mono ?_; rintro e w' ⟨ao', c', rfl, hown', hnew'⟩) | (go_at_call 143; (with_reducible refine (shPorts1 _ _).mono ?_); rintro e w' ⟨ao', c', rfl, hown', hnew'⟩) | (go_at_call 143; (with_reducible refine (shPorts2 _ _ _).mono ?_); rintro e w' ⟨ao', c', rfl, hown', hnew'⟩))
  go_ret3
  rw [HR.out]
  exact Rates.none _ _ _ (New.refl _)

set_option maxRecDepth 100000 in
set_option maxHeartbeats 1000000 in
theorem shOf_1_8 (n : Int) (ao : Option Addr) (c : Nat) (w : World) (hx : SlAt w ao (Is [n])) :
    Calls Tryz.prog 125 #[.int .u8 8, .slice ao ([n] : List Int).length c] w (Rates w (shapeS 8 [n])) := by
  obtain ⟨b, off, rfl, hc⟩ := Is_at hx (i := 0) (by simp)
  simp only [Nat.add_zero, List.getElem_cons_zero] at hc
  go_enter Tryz.func125, Tryz.ntmps125
  have hr : shapeS 8 [n] = (61, [], []) := by rfl
  have HR := Lib.hid hr; clear hr
  go_wp2_with (first | (go_at_call 142; refine (within_any _ _ _).mono ?_; rintro e w' ⟨rfl, rfl⟩) | (go_at_call 144; refine (shSame_i _ _ _ (by omega)).mono ?_; rintro e w' ⟨ao', c', rfl, hown', hnew'⟩) | (go_at_call 143; (with_reducible refine (shPorts1 _ _).mono ?_); rintro e w' ⟨ao', c', rfl, hown', hnew'⟩) | (go_at_call 143; (with_reducible refine (shPorts2 _ _ _).mono ?_); rintro e w' ⟨ao', c', rfl, hown', hnew'⟩))
  go_ret3
  rw [HR.out]
  exact Rates.none _ _ _ (New.refl _)

set_option maxRecDepth 100000 in
set_option maxHeartbeats 1000000 in
theorem shOf_1_9 (n : Int) (ao : Option Addr) (c : Nat) (w : World) (hx : SlAt w ao (Is [n])) :
    Calls Tryz.prog 125 #[.int .u8 9, .slice ao ([n] : List Int).length c] w (Rates w (shapeS 9 [n])) := by
  obtain ⟨b, off, rfl, hc⟩ := Is_at hx (i := 0) (by simp)
  simp only [Nat.add_zero, List.getElem_cons_zero] at hc
  go_enter Tryz.func125, Tryz.ntmps125
  by_cases h : 1 ≤ n ∧ n ≤ 16
  · have hd1 : decide (1 ≤ n ∧ n ≤ 16) = true := by simpa using h
    have hr : shapeS 9 [n] = (0, [1], List.replicate n.toNat 1) := by simp [goodS, oneS, twoS, shapeS, rates, h]
    have HR := Lib.hid hr; clear hr
    obtain ⟨h1, h2⟩ := h
    go_wp2_with (first | (go_at_call 142; refine (within_any _ _ _).mono ?_; rintro e w' ⟨rfl, rfl⟩) | (go_at_call 144; refine (shSame_i _ _ _ (by omega)).mono ?_; rintro e w' ⟨ao', c', rfl, hown', hnew'⟩) | (go_at_call 143; (with_reducible refine (shPorts1 _ _).mono ?_); rintro e w' ⟨ao', c', rfl, hown', hnew'⟩) | (go_at_call 143; (with_reducible refine (shPorts2 _ _ _).mono ?_); rintro e w' ⟨ao', c', rfl, hown', hnew'⟩))
    go_ret3
    rw [HR.out]
    exact Rates.mk2 (Keeps.alloc _ _) (by assumption) (by assumption) (Keeps.refl _ _) hown' hnew' (by simp) (by simp)
  · have hd1 : decide (1 ≤ n ∧ n ≤ 16) = false := by simpa using h
    have hr : shapeS 9 [n] = (61, [], []) := by simp only [goodS, oneS, twoS, shapeS, rates]; simp [h]; try omega
    have HR := Lib.hid hr; clear hr
    clear h
    go_wp2_with (first | (go_at_call 142; refine (within_any _ _ _).mono ?_; rintro e w' ⟨rfl, rfl⟩) | (go_at_call 144; refine (shSame_i _ _ _ (by omega)).mono ?_; rintro e w' ⟨ao', c', rfl, hown', hnew'⟩) | (go_at_call 143; (with_reducible refine (shPorts1 _ _).mono ?_); rintro e w' ⟨ao', c', rfl, hown', hnew'⟩) | (go_at_call 143; (with_reducible refine (shPorts2 _ _ _).mono ?_); rintro e w' ⟨ao', c', rfl, hown', hnew'⟩))
    go_ret3
    rw [HR.out]
    exact Rates.none _ _ _ (New.refl _)

set_option maxRecDepth 100000 in
set_option maxHeartbeats 1000000 in
theorem shOf_1_10 (n : Int) (ao : Option Addr) (c : Nat) (w : World) (hx : SlAt w ao (Is [n])) :
    Calls Tryz.prog 125 #[.int .u8 10, .slice ao ([n] : List Int).length c] w (Rates w (shapeS 10 [n])) := by
  obtain ⟨b, off, rfl, hc⟩ := Is_at hx (i := 0) (by simp)
  simp only [Nat.add_zero, List.getElem_cons_zero] at hc
  go_enter Tryz.func125, Tryz.ntmps125
  have hr : shapeS 10 [n] = (61, [], []) := by rfl
  have HR := Lib.hid hr; clear hr
  go_wp2_with (first | (go_at_call 142; refine (within_any _ _ _).mono ?_; rintro e w' ⟨rfl, rfl⟩) | (go_at_call 144; refine (shSame_i _ _ _ (by omega)).mono ?_; rintro e w' ⟨ao', c', rfl, hown', hnew'⟩) | (go_at_call 143; (with_reducible refine (shPorts1 _ _).mono ?_); rintro e w' ⟨ao', c', rfl, hown', hnew'⟩) | (go_at_call 143; (with_reducible refine (shPorts2 _ _ _).mono ?_); rintro e w' ⟨ao', c', rfl, hown', hnew'⟩))
  go_ret3
  rw [HR.out]
  exact Rates.none _ _ _ (New.refl _)

set_option maxRecDepth 100000 in
set_option maxHeartbeats 1000000 in
theorem shOf_1_11 (n : Int) (ao : Option Addr) (c : Nat) (w : World) (hx : SlAt w ao (Is [n])) :
    Calls Tryz.prog 125 #[.int .u8 11, .slice ao ([n] : List Int).length c] w (Rates w (shapeS 11 [n])) := by
  obtain ⟨b, off, rfl, hc⟩ := Is_at hx (i := 0) (by simp)
  simp only [Nat.add_zero, List.getElem_cons_zero] at hc
  go_enter Tryz.func125, Tryz.ntmps125
  by_cases h : 1 ≤ n ∧ n ≤ 64
  · have hd1 : decide (1 ≤ n ∧ n ≤ 64) = true := by simpa using h
    have hr : shapeS 11 [n] = (0, [n], []) := by simp [goodS, oneS, twoS, shapeS, rates, h]
    have HR := Lib.hid hr; clear hr
    obtain ⟨h1, h2⟩ := h
    go_wp2_with (first | (go_at_call 142; refine (within_any _ _ _).mono ?_; rintro e w' ⟨rfl, rfl⟩) | (go_at_call 144; refine (shSame_i _ _ _ (by omega)).mono ?_; rintro e w' ⟨ao', c', rfl, hown', hnew'⟩) | (go_at_call 143; (with_reducible refine (shPorts1 _ _).mono ?_); rintro e w' ⟨ao', c', rfl, hown', hnew'⟩) | (go_at_call 143; (with_reducible refine (shPorts2 _ _ _).mono ?_); rintro e w' ⟨ao', c', rfl, hown', hnew'⟩))
    go_ret3
    rw [HR.out]
    exact Rates.fst (Keeps.alloc _ _) hown' hnew' (by simp)
  · have hd1 : decide (1 ≤ n ∧ n ≤ 64) = false := by simpa using h
    have hr : shapeS 11 [n] = (61, [], []) := by simp only [goodS, oneS, twoS, shapeS, rates]; simp [h]; try omega
    have HR := Lib.hid hr; clear hr
    clear h
    go_wp2_with (first | (go_at_call 142; refine (within_any _ _ _).mono ?_; rintro e w' ⟨rfl, rfl⟩) | (go_at_call 144; refine (shSame_i _ _ _ (by omega)).mono ?_; rintro e w' ⟨ao', c', rfl, hown', hnew'⟩) | (go_at_call 143; (with_reducible refine (shPorts1 _ _).mono ?_); rintro e w' ⟨ao', c', rfl, hown', hnew'⟩) | (go_at_call 143; (with_reducible refine (shPorts2 _ _ _).mono ?_); rintro e w' ⟨ao', c', rfl, hown', hnew'⟩))
    go_ret3
    rw [HR.out]
    exact Rates.none _ _ _ (New.refl _)

end Go.Proofs.YtnedmonlofbahaaGreatDoor
namespace Go.Proofs.YtnedmonlofbahaaGreatDoor
open Go Go.RowKit
set_option linter.all false

set_option maxRecDepth 100000 in
set_option maxHeartbeats 1000000 in
theorem shOf_2_1 (n m : Int) (ao : Option Addr) (c : Nat) (w : World) (hx : SlAt w ao (Is [n, m])) :
    Calls Tryz.prog 125 #[.int .u8 1, .slice ao ([n, m] : List Int).length c] w (Rates w (shapeS 1 [n, m])) := by
  obtain ⟨b, off, rfl, hc⟩ := Is_at hx (i := 0) (by simp)
  obtain ⟨b', off', e, hd⟩ := Is_at hx (i := 1) (by simp)
  simp only [Option.some.injEq, Addr.mk.injEq, and_true] at e
  obtain ⟨rfl, rfl⟩ := e
  simp only [List.getElem_cons_zero, List.getElem_cons_succ] at hd
  simp only [Nat.add_zero, List.getElem_cons_zero] at hc
  go_enter Tryz.func125, Tryz.ntmps125
  go_upto_region 9 with ((go_at_call 142; refine (within_any _ _ _).mono ?_; rintro e w' ⟨rfl, rfl⟩))
  go_cut [10] (fun s w' => s = .bool (twoS [n, m]) ∧ w' = w)
  case first =>
    by_cases h1 : 1 ≤ n ∧ n ≤ 16
    · by_cases h2 : 1 ≤ m ∧ m ≤ 64
      · have hb := twoS_decide n m h1.1 h1.2 h2.1 h2.2
        have hd1 : decide (1 ≤ n ∧ n ≤ 16) = true := by simpa using h1
        have hd2 : decide (1 ≤ m ∧ m ≤ 64) = true := by simpa using h2
        obtain ⟨hb1, hb2⟩ := hb
        go_wp2_with (first | (go_at_call 142; refine (within_any _ _ _).mono ?_; rintro e w' ⟨rfl, rfl⟩))
        go_meet
        case rel => exact ⟨by simp [twoS, h1, h2], rfl⟩
      · have hd1 : decide (1 ≤ n ∧ n ≤ 16) = true := by simpa using h1
        have hd2 : decide (1 ≤ m ∧ m ≤ 64) = false := by simpa using h2
        go_wp2_with (first | (go_at_call 142; refine (within_any _ _ _).mono ?_; rintro e w' ⟨rfl, rfl⟩))
        go_meet
        case rel => exact ⟨by simp [twoS]; omega, rfl⟩
    · have hd1 : decide (1 ≤ n ∧ n ≤ 16) = false := by simpa using h1
      go_wp2_with (first | (go_at_call 142; refine (within_any _ _ _).mono ?_; rintro e w' ⟨rfl, rfl⟩))
      go_meet
      case rel => exact ⟨by simp [twoS]; omega, rfl⟩
  case rest =>
    obtain ⟨rfl, rfl⟩ := hcut
    have hr : shapeS 1 [n, m] = (0, [1], [1]) := by rfl
    have HR := Lib.hid hr; clear hr
    go_wp2_with (first | (go_at_call 142; refine (within_any _ _ _).mono ?_; rintro e w' ⟨rfl, rfl⟩) | (go_at_call 144; refine (shSame_i _ _ _ (by omega)).mono ?_; rintro e w' ⟨ao', c', rfl, hown', hnew'⟩) | (go_at_call 143; (with_reducible refine (shPorts1 _ _).mono ?_); rintro e w' ⟨ao', c', rfl, hown', hnew'⟩) | (go_at_call 143; (with_reducible refine (shPorts2 _ _ _).mono ?_); rintro e w' ⟨ao', c', rfl, hown', hnew'⟩))
    go_ret3
    rw [HR.out]
    exact Rates.mk2 (Keeps.alloc _ _) (by assumption) (by assumption) (Keeps.alloc _ _) hown' hnew' (by simp) (by simp)

set_option maxRecDepth 100000 in
set_option maxHeartbeats 1000000 in
theorem shOf_2_2 (n m : Int) (ao : Option Addr) (c : Nat) (w : World) (hx : SlAt w ao (Is [n, m])) :
    Calls Tryz.prog 125 #[.int .u8 2, .slice ao ([n, m] : List Int).length c] w (Rates w (shapeS 2 [n, m])) := by
  obtain ⟨b, off, rfl, hc⟩ := Is_at hx (i := 0) (by simp)
  obtain ⟨b', off', e, hd⟩ := Is_at hx (i := 1) (by simp)
  simp only [Option.some.injEq, Addr.mk.injEq, and_true] at e
  obtain ⟨rfl, rfl⟩ := e
  simp only [List.getElem_cons_zero, List.getElem_cons_succ] at hd
  simp only [Nat.add_zero, List.getElem_cons_zero] at hc
  go_enter Tryz.func125, Tryz.ntmps125
  go_upto_region 9 with ((go_at_call 142; refine (within_any _ _ _).mono ?_; rintro e w' ⟨rfl, rfl⟩))
  go_cut [10] (fun s w' => s = .bool (twoS [n, m]) ∧ w' = w)
  case first =>
    by_cases h1 : 1 ≤ n ∧ n ≤ 16
    · by_cases h2 : 1 ≤ m ∧ m ≤ 64
      · have hb := twoS_decide n m h1.1 h1.2 h2.1 h2.2
        have hd1 : decide (1 ≤ n ∧ n ≤ 16) = true := by simpa using h1
        have hd2 : decide (1 ≤ m ∧ m ≤ 64) = true := by simpa using h2
        obtain ⟨hb1, hb2⟩ := hb
        go_wp2_with (first | (go_at_call 142; refine (within_any _ _ _).mono ?_; rintro e w' ⟨rfl, rfl⟩))
        go_meet
        case rel => exact ⟨by simp [twoS, h1, h2], rfl⟩
      · have hd1 : decide (1 ≤ n ∧ n ≤ 16) = true := by simpa using h1
        have hd2 : decide (1 ≤ m ∧ m ≤ 64) = false := by simpa using h2
        go_wp2_with (first | (go_at_call 142; refine (within_any _ _ _).mono ?_; rintro e w' ⟨rfl, rfl⟩))
        go_meet
        case rel => exact ⟨by simp [twoS]; omega, rfl⟩
    · have hd1 : decide (1 ≤ n ∧ n ≤ 16) = false := by simpa using h1
      go_wp2_with (first | (go_at_call 142; refine (within_any _ _ _).mono ?_; rintro e w' ⟨rfl, rfl⟩))
      go_meet
      case rel => exact ⟨by simp [twoS]; omega, rfl⟩
  case rest =>
    obtain ⟨rfl, rfl⟩ := hcut
    have hr : shapeS 2 [n, m] = (61, [], []) := by rfl
    have HR := Lib.hid hr; clear hr
    go_wp2_with (first | (go_at_call 142; refine (within_any _ _ _).mono ?_; rintro e w' ⟨rfl, rfl⟩) | (go_at_call 144; refine (shSame_i _ _ _ (by omega)).mono ?_; rintro e w' ⟨ao', c', rfl, hown', hnew'⟩) | (go_at_call 143; (with_reducible refine (shPorts1 _ _).mono ?_); rintro e w' ⟨ao', c', rfl, hown', hnew'⟩) | (go_at_call 143; (with_reducible refine (shPorts2 _ _ _).mono ?_); rintro e w' ⟨ao', c', rfl, hown', hnew'⟩))
    go_ret3
    rw [HR.out]
    exact Rates.none _ _ _ (New.refl _)

set_option maxRecDepth 100000 in
set_option maxHeartbeats 1000000 in
theorem shOf_2_3 (n m : Int) (ao : Option Addr) (c : Nat) (w : World) (hx : SlAt w ao (Is [n, m])) :
    Calls Tryz.prog 125 #[.int .u8 3, .slice ao ([n, m] : List Int).length c] w (Rates w (shapeS 3 [n, m])) := by
  obtain ⟨b, off, rfl, hc⟩ := Is_at hx (i := 0) (by simp)
  obtain ⟨b', off', e, hd⟩ := Is_at hx (i := 1) (by simp)
  simp only [Option.some.injEq, Addr.mk.injEq, and_true] at e
  obtain ⟨rfl, rfl⟩ := e
  simp only [List.getElem_cons_zero, List.getElem_cons_succ] at hd
  simp only [Nat.add_zero, List.getElem_cons_zero] at hc
  go_enter Tryz.func125, Tryz.ntmps125
  go_upto_region 9 with ((go_at_call 142; refine (within_any _ _ _).mono ?_; rintro e w' ⟨rfl, rfl⟩))
  go_cut [10] (fun s w' => s = .bool (twoS [n, m]) ∧ w' = w)
  case first =>
    by_cases h1 : 1 ≤ n ∧ n ≤ 16
    · by_cases h2 : 1 ≤ m ∧ m ≤ 64
      · have hb := twoS_decide n m h1.1 h1.2 h2.1 h2.2
        have hd1 : decide (1 ≤ n ∧ n ≤ 16) = true := by simpa using h1
        have hd2 : decide (1 ≤ m ∧ m ≤ 64) = true := by simpa using h2
        obtain ⟨hb1, hb2⟩ := hb
        go_wp2_with (first | (go_at_call 142; refine (within_any _ _ _).mono ?_; rintro e w' ⟨rfl, rfl⟩))
        go_meet
        case rel => exact ⟨by simp [twoS, h1, h2], rfl⟩
      · have hd1 : decide (1 ≤ n ∧ n ≤ 16) = true := by simpa using h1
        have hd2 : decide (1 ≤ m ∧ m ≤ 64) = false := by simpa using h2
        go_wp2_with (first | (go_at_call 142; refine (within_any _ _ _).mono ?_; rintro e w' ⟨rfl, rfl⟩))
        go_meet
        case rel => exact ⟨by simp [twoS]; omega, rfl⟩
    · have hd1 : decide (1 ≤ n ∧ n ≤ 16) = false := by simpa using h1
      go_wp2_with (first | (go_at_call 142; refine (within_any _ _ _).mono ?_; rintro e w' ⟨rfl, rfl⟩))
      go_meet
      case rel => exact ⟨by simp [twoS]; omega, rfl⟩
  case rest =>
    obtain ⟨rfl, rfl⟩ := hcut
    have hr : shapeS 3 [n, m] = (61, [], []) := by rfl
    have HR := Lib.hid hr; clear hr
    go_wp2_with (first | (go_at_call 142; refine (within_any _ _ _).mono ?_; rintro e w' ⟨rfl, rfl⟩) | (go_at_call 144; refine (shSame_i _ _ _ (by omega)).mono ?_; rintro e w' ⟨ao', c', rfl, hown', hnew'⟩) | (go_at_call 143; (with_reducible refine (shPorts1 _ _).mono ?_); rintro e w' ⟨ao', c', rfl, hown', hnew'⟩) | (go_at_call 143; (with_reducible refine (shPorts2 _ _ _).mono ?_); rintro e w' ⟨ao', c', rfl, hown', hnew'⟩))
    go_ret3
    rw [HR.out]
    exact Rates.none _ _ _ (New.refl _)

set_option maxRecDepth 100000 in
set_option maxHeartbeats 1000000 in
theorem shOf_2_4 (n m : Int) (ao : Option Addr) (c : Nat) (w : World) (hx : SlAt w ao (Is [n, m])) :
    Calls Tryz.prog 125 #[.int .u8 4, .slice ao ([n, m] : List Int).length c] w (Rates w (shapeS 4 [n, m])) := by
  obtain ⟨b, off, rfl, hc⟩ := Is_at hx (i := 0) (by simp)
  obtain ⟨b', off', e, hd⟩ := Is_at hx (i := 1) (by simp)
  simp only [Option.some.injEq, Addr.mk.injEq, and_true] at e
  obtain ⟨rfl, rfl⟩ := e
  simp only [List.getElem_cons_zero, List.getElem_cons_succ] at hd
  simp only [Nat.add_zero, List.getElem_cons_zero] at hc
  go_enter Tryz.func125, Tryz.ntmps125
  go_upto_region 9 with ((go_at_call 142; refine (within_any _ _ _).mono ?_; rintro e w' ⟨rfl, rfl⟩))
  go_cut [10] (fun s w' => s = .bool (twoS [n, m]) ∧ w' = w)
  case first =>
    by_cases h1 : 1 ≤ n ∧ n ≤ 16
    · by_cases h2 : 1 ≤ m ∧ m ≤ 64
      · have hb := twoS_decide n m h1.1 h1.2 h2.1 h2.2
        have hd1 : decide (1 ≤ n ∧ n ≤ 16) = true := by simpa using h1
        have hd2 : decide (1 ≤ m ∧ m ≤ 64) = true := by simpa using h2
        obtain ⟨hb1, hb2⟩ := hb
        go_wp2_with (first | (go_at_call 142; refine (within_any _ _ _).mono ?_; rintro e w' ⟨rfl, rfl⟩))
        go_meet
        case rel => exact ⟨by simp [twoS, h1, h2], rfl⟩
      · have hd1 : decide (1 ≤ n ∧ n ≤ 16) = true := by simpa using h1
        have hd2 : decide (1 ≤ m ∧ m ≤ 64) = false := by simpa using h2
        go_wp2_with (first | (go_at_call 142; refine (within_any _ _ _).mono ?_; rintro e w' ⟨rfl, rfl⟩))
        go_meet
        case rel => exact ⟨by simp [twoS]; omega, rfl⟩
    · have hd1 : decide (1 ≤ n ∧ n ≤ 16) = false := by simpa using h1
      go_wp2_with (first | (go_at_call 142; refine (within_any _ _ _).mono ?_; rintro e w' ⟨rfl, rfl⟩))
      go_meet
      case rel => exact ⟨by simp [twoS]; omega, rfl⟩
  case rest =>
    obtain ⟨rfl, rfl⟩ := hcut
    by_cases h : twoS [n, m] = true
    · have h' : 1 ≤ n ∧ n ≤ 16 ∧ 1 ≤ m ∧ m ≤ 64 ∧ n * m ≤ 64 := by simpa [twoS] using h
      obtain ⟨h1, h2, h3, h4, h5⟩ := h'
      have hb := twoS_decide n m h1 h2 h3 h4
      obtain ⟨hb1, hb2⟩ := hb
      have hr : shapeS 4 [n, m] = (0, List.replicate n.toNat m, [n * m]) := by simp [shapeS, goodS, rates, h]
      have HR := Lib.hid hr; clear hr
      go_wp2_with (first | (go_at_call 142; refine (within_any _ _ _).mono ?_; rintro e w' ⟨rfl, rfl⟩) | (go_at_call 144; refine (shSame_i _ _ _ (by omega)).mono ?_; rintro e w' ⟨ao', c', rfl, hown', hnew'⟩) | (go_at_call 143; (with_reducible refine (shPorts1 _ _).mono ?_); rintro e w' ⟨ao', c', rfl, hown', hnew'⟩) | (go_at_call 143; (with_reducible refine (shPorts2 _ _ _).mono ?_); rintro e w' ⟨ao', c', rfl, hown', hnew'⟩))
      go_ret3
      rw [HR.out]
      exact Rates.mk2 (Keeps.refl _ _) (by assumption) (by assumption) (Keeps.alloc _ _) hown' hnew' (by simp) (by simp)
    · have h' : twoS [n, m] = false := by simpa using h
      have hr : shapeS 4 [n, m] = (61, [], []) := by simp [shapeS, goodS, h']
      have HR := Lib.hid hr; clear hr
      go_wp2_with (first | (go_at_call 142; refine (within_any _ _ _).mono ?_; rintro e w' ⟨rfl, rfl⟩) | (go_at_call 144; refine (shSame_i _ _ _ (by omega)).mono ?_; rintro e w' ⟨ao', c', rfl, hown', hnew'⟩) | (go_at_call 143; (with_reducible refine (shPorts1 _ _).mono ?_); rintro e w' ⟨ao', c', rfl, hown', hnew'⟩) | (go_at_call 143; (with_reducible refine (shPorts2 _ _ _).mono ?_); rintro e w' ⟨ao', c', rfl, hown', hnew'⟩))
      go_ret3
      rw [HR.out]
      exact Rates.none _ _ _ (New.refl _)

set_option maxRecDepth 100000 in
set_option maxHeartbeats 1000000 in
theorem shOf_2_5 (n m : Int) (ao : Option Addr) (c : Nat) (w : World) (hx : SlAt w ao (Is [n, m])) :
    Calls Tryz.prog 125 #[.int .u8 5, .slice ao ([n, m] : List Int).length c] w (Rates w (shapeS 5 [n, m])) := by
  obtain ⟨b, off, rfl, hc⟩ := Is_at hx (i := 0) (by simp)
  obtain ⟨b', off', e, hd⟩ := Is_at hx (i := 1) (by simp)
  simp only [Option.some.injEq, Addr.mk.injEq, and_true] at e
  obtain ⟨rfl, rfl⟩ := e
  simp only [List.getElem_cons_zero, List.getElem_cons_succ] at hd
  simp only [Nat.add_zero, List.getElem_cons_zero] at hc
  go_enter Tryz.func125, Tryz.ntmps125
  go_upto_region 9 with ((go_at_call 142; refine (within_any _ _ _).mono ?_; rintro e w' ⟨rfl, rfl⟩))
  go_cut [10] (fun s w' => s = .bool (twoS [n, m]) ∧ w' = w)
  case first =>
    by_cases h1 : 1 ≤ n ∧ n ≤ 16
    · by_cases h2 : 1 ≤ m ∧ m ≤ 64
      · have hb := twoS_decide n m h1.1 h1.2 h2.1 h2.2
        have hd1 : decide (1 ≤ n ∧ n ≤ 16) = true := by simpa using h1
        have hd2 : decide (1 ≤ m ∧ m ≤ 64) = true := by simpa using h2
        obtain ⟨hb1, hb2⟩ := hb
        go_wp2_with (first | (go_at_call 142; refine (within_any _ _ _).mono ?_; rintro e w' ⟨rfl, rfl⟩))
        go_meet
        case rel => exact ⟨by simp [twoS, h1, h2], rfl⟩
      · have hd1 : decide (1 ≤ n ∧ n ≤ 16) = true := by simpa using h1
        have hd2 : decide (1 ≤ m ∧ m ≤ 64) = false := by simpa using h2
        go_wp2_with (first | (go_at_call 142; refine (within_any _ _ _).mono ?_; rintro e w' ⟨rfl, rfl⟩))
        go_meet
        case rel => exact ⟨by simp [twoS]; omega, rfl⟩
    · have hd1 : decide (1 ≤ n ∧ n ≤ 16) = false := by simpa using h1
      go_wp2_with (first | (go_at_call 142; refine (within_any _ _ _).mono ?_; rintro e w' ⟨rfl, rfl⟩))
      go_meet
      case rel => exact ⟨by simp [twoS]; omega, rfl⟩
  case rest =>
    obtain ⟨rfl, rfl⟩ := hcut
    by_cases h : twoS [n, m] = true
    · have h' : 1 ≤ n ∧ n ≤ 16 ∧ 1 ≤ m ∧ m ≤ 64 ∧ n * m ≤ 64 := by simpa [twoS] using h
      obtain ⟨h1, h2, h3, h4, h5⟩ := h'
      have hb := twoS_decide n m h1 h2 h3 h4
      obtain ⟨hb1, hb2⟩ := hb
      have hr : shapeS 5 [n, m] = (0, [n * m], List.replicate n.toNat m) := by simp [shapeS, goodS, rates, h]
      have HR := Lib.hid hr; clear hr
      go_wp2_with (first | (go_at_call 142; refine (within_any _ _ _).mono ?_; rintro e w' ⟨rfl, rfl⟩) | (go_at_call 144; refine (shSame_i _ _ _ (by omega)).mono ?_; rintro e w' ⟨ao', c', rfl, hown', hnew'⟩) | (go_at_call 143; (with_reducible refine (shPorts1 _ _).mono ?_); rintro e w' ⟨ao', c', rfl, hown', hnew'⟩) | (go_at_call 143; (with_reducible refine (shPorts2 _ _ _).mono ?_); rintro e w' ⟨ao', c', rfl, hown', hnew'⟩))
      go_ret3
      rw [HR.out]
      exact Rates.mk2 (Keeps.alloc _ _) (by assumption) (by assumption) (Keeps.refl _ _) hown' hnew' (by simp) (by simp)
    · have h' : twoS [n, m] = false := by simpa using h
      have hr : shapeS 5 [n, m] = (61, [], []) := by simp [shapeS, goodS, h']
      have HR := Lib.hid hr; clear hr
      go_wp2_with (first | (go_at_call 142; refine (within_any _ _ _).mono ?_; rintro e w' ⟨rfl, rfl⟩) | (go_at_call 144; refine (shSame_i _ _ _ (by omega)).mono ?_; rintro e w' ⟨ao', c', rfl, hown', hnew'⟩) | (go_at_call 143; (with_reducible refine (shPorts1 _ _).mono ?_); rintro e w' ⟨ao', c', rfl, hown', hnew'⟩) | (go_at_call 143; (with_reducible refine (shPorts2 _ _ _).mono ?_); rintro e w' ⟨ao', c', rfl, hown', hnew'⟩))
      go_ret3
      rw [HR.out]
      exact Rates.none _ _ _ (New.refl _)

set_option maxRecDepth 100000 in
set_option maxHeartbeats 1000000 in
theorem shOf_2_6 (n m : Int) (ao : Option Addr) (c : Nat) (w : World) (hx : SlAt w ao (Is [n, m])) :
    Calls Tryz.prog 125 #[.int .u8 6, .slice ao ([n, m] : List Int).length c] w (Rates w (shapeS 6 [n, m])) := by
  obtain ⟨b, off, rfl, hc⟩ := Is_at hx (i := 0) (by simp)
  obtain ⟨b', off', e, hd⟩ := Is_at hx (i := 1) (by simp)
  simp only [Option.some.injEq, Addr.mk.injEq, and_true] at e
  obtain ⟨rfl, rfl⟩ := e
  simp only [List.getElem_cons_zero, List.getElem_cons_succ] at hd
  simp only [Nat.add_zero, List.getElem_cons_zero] at hc
  go_enter Tryz.func125, Tryz.ntmps125
  go_upto_region 9 with ((go_at_call 142; refine (within_any _ _ _).mono ?_; rintro e w' ⟨rfl, rfl⟩))
  go_cut [10] (fun s w' => s = .bool (twoS [n, m]) ∧ w' = w)
  case first =>
    by_cases h1 : 1 ≤ n ∧ n ≤ 16
    · by_cases h2 : 1 ≤ m ∧ m ≤ 64
      · have hb := twoS_decide n m h1.1 h1.2 h2.1 h2.2
        have hd1 : decide (1 ≤ n ∧ n ≤ 16) = true := by simpa using h1
        have hd2 : decide (1 ≤ m ∧ m ≤ 64) = true := by simpa using h2
        obtain ⟨hb1, hb2⟩ := hb
        go_wp2_with (first | (go_at_call 142; refine (within_any _ _ _).mono ?_; rintro e w' ⟨rfl, rfl⟩))
        go_meet
        case rel => exact ⟨by simp [twoS, h1, h2], rfl⟩
      · have hd1 : decide (1 ≤ n ∧ n ≤ 16) = true := by simpa using h1
        have hd2 : decide (1 ≤ m ∧ m ≤ 64) = false := by simpa using h2
        go_wp2_with (first | (go_at_call 142; refine (within_any _ _ _).mono ?_; rintro e w' ⟨rfl, rfl⟩))
        go_meet
        case rel => exact ⟨by simp [twoS]; omega, rfl⟩
    · have hd1 : decide (1 ≤ n ∧ n ≤ 16) = false := by simpa using h1
      go_wp2_with (first | (go_at_call 142; refine (within_any _ _ _).mono ?_; rintro e w' ⟨rfl, rfl⟩))
      go_meet
      case rel => exact ⟨by simp [twoS]; omega, rfl⟩
  case rest =>
    obtain ⟨rfl, rfl⟩ := hcut
    have hr : shapeS 6 [n, m] = (61, [], []) := by rfl
    have HR := Lib.hid hr; clear hr
    go_wp2_with (first | (go_at_call 142; refine (within_any _ _ _).mono ?_; rintro e w' ⟨rfl, rfl⟩) | (go_at_call 144; refine (shSame_i _ _ _ (by omega)).mono ?_; rintro e w' ⟨ao', c', rfl, hown', hnew'⟩) | (go_at_call 143; (with_reducible refine (shPorts1 _ _).mono ?_); rintro e w' ⟨ao', c', rfl, hown', hnew'⟩) | (go_at_call 143; (with_reducible refine (shPorts2 _ _ _).mono ?_); rintro e w' ⟨ao', c', rfl, hown', hnew'⟩))
    go_ret3
    rw [HR.out]
    exact Rates.none _ _ _ (New.refl _)

set_option maxRecDepth 100000 in
set_option maxHeartbeats 1000000 in
theorem shOf_2_7 (n m : Int) (ao : Option Addr) (c : Nat) (w : World) (hx : SlAt w ao (Is [n, m])) :
    Calls Tryz.prog 125 #[.int .u8 7, .slice ao ([n, m] : List Int).length c] w (Rates w (shapeS 7 [n, m])) := by
  obtain ⟨b, off, rfl, hc⟩ := Is_at hx (i := 0) (by simp)
  obtain ⟨b', off', e, hd⟩ := Is_at hx (i := 1) (by simp)
  simp only [Option.some.injEq, Addr.mk.injEq, and_true] at e
  obtain ⟨rfl, rfl⟩ := e
  simp only [List.getElem_cons_zero, List.getElem_cons_succ] at hd
  simp only [Nat.add_zero, List.getElem_cons_zero] at hc
  go_enter Tryz.func125, Tryz.ntmps125
  go_upto_region 9 with ((go_at_call 142; refine (within_any _ _ _).mono ?_; rintro e w' ⟨rfl, rfl⟩))
  go_cut [10] (fun s w' => s = .bool (twoS [n, m]) ∧ w' = w)
  case first =>
    by_cases h1 : 1 ≤ n ∧ n ≤ 16
    · by_cases h2 : 1 ≤ m ∧ m ≤ 64
      · have hb := twoS_decide n m h1.1 h1.2 h2.1 h2.2
        have hd1 : decide (1 ≤ n ∧ n ≤ 16) = true := by simpa using h1
        have hd2 : decide (1 ≤ m ∧ m ≤ 64) = true := by simpa using h2
        obtain ⟨hb1, hb2⟩ := hb
        go_wp2_with (first | (go_at_call 142; refine (within_any _ _ _).mono ?_; rintro e w' ⟨rfl, rfl⟩))
        go_meet
        case rel => exact ⟨by simp [twoS, h1, h2], rfl⟩
      · have hd1 : decide (1 ≤ n ∧ n ≤ 16) = true := by simpa using h1
        have hd2 : decide (1 ≤ m ∧ m ≤ 64) = false := by simpa using h2
        go_wp2_with (first | (go_at_call 142; refine (within_any _ _ _).mono ?_; rintro e w' ⟨rfl, rfl⟩))
        go_meet
        case rel => exact ⟨by simp [twoS]; omega, rfl⟩
    · have hd1 : decide (1 ≤ n ∧ n ≤ 16) = false := by simpa using h1
      go_wp2_with (first | (go_at_call 142; refine (within_any _ _ _).mono ?_; rintro e w' ⟨rfl, rfl⟩))
      go_meet
      case rel => exact ⟨by simp [twoS]; omega, rfl⟩
  case rest =>
    obtain ⟨rfl, rfl⟩ := hcut
    have hr : shapeS 7 [n, m] = (61, [], []) := by rfl
    have HR := Lib.hid hr; clear hr
    go_wp2_with (first | (go_at_call 142; refine (within_any _ _ _).mono ?_; rintro e w' ⟨rfl, rfl⟩) | (go_at_call 144; refine (shSame_i _ _ _ (by omega)).mono ?_; rintro e w' ⟨ao', c', rfl, hown', hnew'⟩) | (go_at_call 143; (with_reducible refine (shPorts1 _ _).mono ?_); rintro e w' ⟨ao', c', rfl, hown', hnew'⟩) | (go_at_call 143; (with_reducible refine (shPorts2 _ _ _).mono ?_); rintro e w' ⟨ao', c', rfl, hown', hnew'⟩))
    go_ret3
    rw [HR.out]
    exact Rates.none _ _ _ (New.refl _)

set_option maxRecDepth 100000 in
set_option maxHeartbeats 1000000 in
theorem shOf_2_8 (n m : Int) (ao : Option Addr) (c : Nat) (w : World) (hx : SlAt w ao (Is [n, m])) :
    Calls Tryz.prog 125 #[.int .u8 8, .slice ao ([n, m] : List Int).length c] w (Rates w (shapeS 8 [n, m])) := by
  obtain ⟨b, off, rfl, hc⟩ := Is_at hx (i := 0) (by simp)
  obtain ⟨b', off', e, hd⟩ := Is_at hx (i := 1) (by simp)
  simp only [Option.some.injEq, Addr.mk.injEq, and_true] at e
  obtain ⟨rfl, rfl⟩ := e
  simp only [List.getElem_cons_zero, List.getElem_cons_succ] at hd
  simp only [Nat.add_zero, List.getElem_cons_zero] at hc
  go_enter Tryz.func125, Tryz.ntmps125
  go_upto_region 9 with ((go_at_call 142; refine (within_any _ _ _).mono ?_; rintro e w' ⟨rfl, rfl⟩))
  go_cut [10] (fun s w' => s = .bool (twoS [n, m]) ∧ w' = w)
  case first =>
    by_cases h1 : 1 ≤ n ∧ n ≤ 16
    · by_cases h2 : 1 ≤ m ∧ m ≤ 64
      · have hb := twoS_decide n m h1.1 h1.2 h2.1 h2.2
        have hd1 : decide (1 ≤ n ∧ n ≤ 16) = true := by simpa using h1
        have hd2 : decide (1 ≤ m ∧ m ≤ 64) = true := by simpa using h2
        obtain ⟨hb1, hb2⟩ := hb
        go_wp2_with (first | (go_at_call 142; refine (within_any _ _ _).mono ?_; rintro e w' ⟨rfl, rfl⟩))
        go_meet
        case rel => exact ⟨by simp [twoS, h1, h2], rfl⟩
      · have hd1 : decide (1 ≤ n ∧ n ≤ 16) = true := by simpa using h1
        have hd2 : decide (1 ≤ m ∧ m ≤ 64) = false := by simpa using h2
        go_wp2_with (first | (go_at_call 142; refine (within_any _ _ _).mono ?_; rintro e w' ⟨rfl, rfl⟩))
        go_meet
        case rel => exact ⟨by simp [twoS]; omega, rfl⟩
    · have hd1 : decide (1 ≤ n ∧ n ≤ 16) = false := by simpa using h1
      go_wp2_with (first | (go_at_call 142; refine (within_any _ _ _).mono ?_; rintro e w' ⟨rfl, rfl⟩))
      go_meet
      case rel => exact ⟨by simp [twoS]; omega, rfl⟩
  case rest =>
    obtain ⟨rfl, rfl⟩ := hcut
    have hr : shapeS 8 [n, m] = (61, [], []) := by rfl
    have HR := Lib.hid hr; clear hr
    go_wp2_with (first | (go_at_call 142; refine (within_any _ _ _).mono ?_; rintro e w' ⟨rfl, rfl⟩) | (go_at_call 144; refine (shSame_i _ _ _ (by omega)).mono ?_; rintro e w' ⟨ao', c', rfl, hown', hnew'⟩) | (go_at_call 143; (with_reducible refine (shPorts1 _ _).mono ?_); rintro e w' ⟨ao', c', rfl, hown', hnew'⟩) | (go_at_call 143; (with_reducible refine (shPorts2 _ _ _).mono ?_); rintro e w' ⟨ao', c', rfl, hown', hnew'⟩))
    go_ret3
    rw [HR.out]
    exact Rates.none _ _ _ (New.refl _)

set_option maxRecDepth 100000 in
set_option maxHeartbeats 1000000 in
theorem shOf_2_9 (n m : Int) (ao : Option Addr) (c : Nat) (w : World) (hx : SlAt w ao (Is [n, m])) :
    Calls Tryz.prog 125 #[.int .u8 9, .slice ao ([n, m] : List Int).length c] w (Rates w (shapeS 9 [n, m])) := by
  obtain ⟨b, off, rfl, hc⟩ := Is_at hx (i := 0) (by simp)
  obtain ⟨b', off', e, hd⟩ := Is_at hx (i := 1) (by simp)
  simp only [Option.some.injEq, Addr.mk.injEq, and_true] at e
  obtain ⟨rfl, rfl⟩ := e
  simp only [List.getElem_cons_zero, List.getElem_cons_succ] at hd
  simp only [Nat.add_zero, List.getElem_cons_zero] at hc
  go_enter Tryz.func125, Tryz.ntmps125
  go_upto_region 9 with ((go_at_call 142; refine (within_any _ _ _).mono ?_; rintro e w' ⟨rfl, rfl⟩))
  go_cut [10] (fun s w' => s = .bool (twoS [n, m]) ∧ w' = w)
  case first =>
    by_cases h1 : 1 ≤ n ∧ n ≤ 16
    · by_cases h2 : 1 ≤ m ∧ m ≤ 64
      · have hb := twoS_decide n m h1.1 h1.2 h2.1 h2.2
        have hd1 : decide (1 ≤ n ∧ n ≤ 16) = true := by simpa using h1
        have hd2 : decide (1 ≤ m ∧ m ≤ 64) = true := by simpa using h2
        obtain ⟨hb1, hb2⟩ := hb
        go_wp2_with (first | (go_at_call 142; refine (within_any _ _ _).mono ?_; rintro e w' ⟨rfl, rfl⟩))
        go_meet
        case rel => exact ⟨by simp [twoS, h1, h2], rfl⟩
      · have hd1 : decide (1 ≤ n ∧ n ≤ 16) = true := by simpa using h1
        have hd2 : decide (1 ≤ m ∧ m ≤ 64) = false := by simpa using h2
        go_wp2_with (first | (go_at_call 142; refine (within_any _ _ _).mono ?_; rintro e w' ⟨rfl, rfl⟩))
        go_meet
        case rel => exact ⟨by simp [twoS]; omega, rfl⟩
    · have hd1 : decide (1 ≤ n ∧ n ≤ 16) = false := by simpa using h1
      go_wp2_with (first | (go_at_call 142; refine (within_any _ _ _).mono ?_; rintro e w' ⟨rfl, rfl⟩))
      go_meet
      case rel => exact ⟨by simp [twoS]; omega, rfl⟩
  case rest =>
    obtain ⟨rfl, rfl⟩ := hcut
    have hr : shapeS 9 [n, m] = (61, [], []) := by rfl
    have HR := Lib.hid hr; clear hr
    go_wp2_with (first | (go_at_call 142; refine (within_any _ _ _).mono ?_; rintro e w' ⟨rfl, rfl⟩) | (go_at_call 144; refine (shSame_i _ _ _ (by omega)).mono ?_; rintro e w' ⟨ao', c', rfl, hown', hnew'⟩) | (go_at_call 143; (with_reducible refine (shPorts1 _ _).mono ?_); rintro e w' ⟨ao', c', rfl, hown', hnew'⟩) | (go_at_call 143; (with_reducible refine (shPorts2 _ _ _).mono ?_); rintro e w' ⟨ao', c', rfl, hown', hnew'⟩))
    go_ret3
    rw [HR.out]
    exact Rates.none _ _ _ (New.refl _)

set_option maxRecDepth 100000 in
set_option maxHeartbeats 1000000 in
theorem shOf_2_10 (n m : Int) (ao : Option Addr) (c : Nat) (w : World) (hx : SlAt w ao (Is [n, m])) :
    Calls Tryz.prog 125 #[.int .u8 10, .slice ao ([n, m] : List Int).length c] w (Rates w (shapeS 10 [n, m])) := by
  obtain ⟨b, off, rfl, hc⟩ := Is_at hx (i := 0) (by simp)
  obtain ⟨b', off', e, hd⟩ := Is_at hx (i := 1) (by simp)
  simp only [Option.some.injEq, Addr.mk.injEq, and_true] at e
  obtain ⟨rfl, rfl⟩ := e
  simp only [List.getElem_cons_zero, List.getElem_cons_succ] at hd
  simp only [Nat.add_zero, List.getElem_cons_zero] at hc
  go_enter Tryz.func125, Tryz.ntmps125
  go_upto_region 9 with ((go_at_call 142; refine (within_any _ _ _).mono ?_; rintro e w' ⟨rfl, rfl⟩))
  go_cut [10] (fun s w' => s = .bool (twoS [n, m]) ∧ w' = w)
  case first =>
    by_cases h1 : 1 ≤ n ∧ n ≤ 16
    · by_cases h2 : 1 ≤ m ∧ m ≤ 64
      · have hb := twoS_decide n m h1.1 h1.2 h2.1 h2.2
        have hd1 : decide (1 ≤ n ∧ n ≤ 16) = true := by simpa using h1
        have hd2 : decide (1 ≤ m ∧ m ≤ 64) = true := by simpa using h2
        obtain ⟨hb1, hb2⟩ := hb
        go_wp2_with (first | (go_at_call 142; refine (within_any _ _ _).mono ?_; rintro e w' ⟨rfl, rfl⟩))
        go_meet
        case rel => exact ⟨by simp [twoS, h1, h2], rfl⟩
      · have hd1 : decide (1 ≤ n ∧ n ≤ 16) = true := by simpa using h1
        have hd2 : decide (1 ≤ m ∧ m ≤ 64) = false := by simpa using h2
        go_wp2_with (first | (go_at_call 142; refine (within_any _ _ _).mono ?_; rintro e w' ⟨rfl, rfl⟩))
        go_meet
        case rel => exact ⟨by simp [twoS]; omega, rfl⟩
    · have hd1 : decide (1 ≤ n ∧ n ≤ 16) = false := by simpa using h1
      go_wp2_with (first | (go_at_call 142; refine (within_any _ _ _).mono ?_; rintro e w' ⟨rfl, rfl⟩))
      go_meet
      case rel => exact ⟨by simp [twoS]; omega, rfl⟩
  case rest =>
    obtain ⟨rfl, rfl⟩ := hcut
    have hr : shapeS 10 [n, m] = (0, [], [1]) := by rfl
    have HR := Lib.hid hr; clear hr
    go_wp2_with (first | (go_at_call 142; refine (within_any _ _ _).mono ?_; rintro e w' ⟨rfl, rfl⟩) | (go_at_call 144; refine (shSame_i _ _ _ (by omega)).mono ?_; rintro e w' ⟨ao', c', rfl, hown', hnew'⟩) | (go_at_call 143; (with_reducible refine (shPorts1 _ _).mono ?_); rintro e w' ⟨ao', c', rfl, hown', hnew'⟩) | (go_at_call 143; (with_reducible refine (shPorts2 _ _ _).mono ?_); rintro e w' ⟨ao', c', rfl, hown', hnew'⟩))
    go_ret3
    rw [HR.out]
    exact Rates.snd (Keeps.alloc _ _) hown' hnew' (by simp)

set_option maxRecDepth 100000 in
set_option maxHeartbeats 1000000 in
theorem shOf_2_11 (n m : Int) (ao : Option Addr) (c : Nat) (w : World) (hx : SlAt w ao (Is [n, m])) :
    Calls Tryz.prog 125 #[.int .u8 11, .slice ao ([n, m] : List Int).length c] w (Rates w (shapeS 11 [n, m])) := by
  obtain ⟨b, off, rfl, hc⟩ := Is_at hx (i := 0) (by simp)
  obtain ⟨b', off', e, hd⟩ := Is_at hx (i := 1) (by simp)
  simp only [Option.some.injEq, Addr.mk.injEq, and_true] at e
  obtain ⟨rfl, rfl⟩ := e
  simp only [List.getElem_cons_zero, List.getElem_cons_succ] at hd
  simp only [Nat.add_zero, List.getElem_cons_zero] at hc
  go_enter Tryz.func125, Tryz.ntmps125
  go_upto_region 9 with ((go_at_call 142; refine (within_any _ _ _).mono ?_; rintro e w' ⟨rfl, rfl⟩))
  go_cut [10] (fun s w' => s = .bool (twoS [n, m]) ∧ w' = w)
  case first =>
    by_cases h1 : 1 ≤ n ∧ n ≤ 16
    · by_cases h2 : 1 ≤ m ∧ m ≤ 64
      · have hb := twoS_decide n m h1.1 h1.2 h2.1 h2.2
        have hd1 : decide (1 ≤ n ∧ n ≤ 16) = true := by simpa using h1
        have hd2 : decide (1 ≤ m ∧ m ≤ 64) = true := by simpa using h2
        obtain ⟨hb1, hb2⟩ := hb
        go_wp2_with (first | (go_at_call 142; refine (within_any _ _ _).mono ?_; rintro e w' ⟨rfl, rfl⟩))
        go_meet
        case rel => exact ⟨by simp [twoS, h1, h2], rfl⟩
      · have hd1 : decide (1 ≤ n ∧ n ≤ 16) = true := by simpa using h1
        have hd2 : decide (1 ≤ m ∧ m ≤ 64) = false := by simpa using h2
        go_wp2_with (first | (go_at_call 142; refine (within_any _ _ _).mono ?_; rintro e w' ⟨rfl, rfl⟩))
        go_meet
        case rel => exact ⟨by simp [twoS]; omega, rfl⟩
    · have hd1 : decide (1 ≤ n ∧ n ≤ 16) = false := by simpa using h1
      go_wp2_with (first | (go_at_call 142; refine (within_any _ _ _).mono ?_; rintro e w' ⟨rfl, rfl⟩))
      go_meet
      case rel => exact ⟨by simp [twoS]; omega, rfl⟩
  case rest =>
    obtain ⟨rfl, rfl⟩ := hcut
    have hr : shapeS 11 [n, m] = (61, [], []) := by rfl
    have HR := Lib.hid hr; clear hr
    go_wp2_with (first | (go_at_call 142; refine (within_any _ _ _).mono ?_; rintro e w' ⟨rfl, rfl⟩) | (go_at_call 144; refine (shSame_i _ _ _ (by omega)).mono ?_; rintro e w' ⟨ao', c', rfl, hown', hnew'⟩) | (go_at_call 143; (with_reducible refine (shPorts1 _ _).mono ?_); rintro e w' ⟨ao', c', rfl, hown', hnew'⟩) | (go_at_call 143; (with_reducible refine (shPorts2 _ _ _).mono ?_); rintro e w' ⟨ao', c', rfl, hown', hnew'⟩))
    go_ret3
    rw [HR.out]
    exact Rates.none _ _ _ (New.refl _)

set_option maxRecDepth 100000 in
set_option maxHeartbeats 1000000 in
theorem shOf_3_1 (ps : List Int) (ao : Option Addr) (c : Nat) (w : World) (hx : SlAt w ao (Is ps)) (h3 : 3 ≤ ps.length) (hl : ps.length ≤ 9223372036854775807) :
    Calls Tryz.prog 125 #[.int .u8 1, .slice ao ps.length c] w (Rates w (shapeS 1 ps)) := by
  obtain ⟨b, off, rfl, hc⟩ := Is_at hx (i := 0) (by omega)
  obtain ⟨b', off', e, hd⟩ := Is_at hx (i := 1) (by omega)
  simp only [Option.some.injEq, Addr.mk.injEq, and_true] at e
  obtain ⟨rfl, rfl⟩ := e
  simp only [Nat.add_zero] at hc
  generalize ps[0] = n at hc
  generalize ps[1] = m at hd
  have e1 : ((ps.length : Int) == 1) = false := beq_eq_false_iff_ne.2 (by omega)
  have e2 : ((ps.length : Int) == 2) = false := beq_eq_false_iff_ne.2 (by omega)
  have e0 : ((ps.length : Int) == 0) = false := beq_eq_false_iff_ne.2 (by omega)
  have hone : ∀ k, oneS ps k = false := fun k => by match ps, h3 with | _ :: _ :: _ :: _, _ => rfl
  have htwo : twoS ps = false := by match ps, h3 with | _ :: _ :: _ :: _, _ => rfl
  have n0 : ps ≠ [] := by rintro rfl; simp at h3
  by_cases h : ps.length ≤ 16
  · have hd1 : decide (1 ≤ (ps.length : Int) ∧ (ps.length : Int) ≤ 16) = true := by simp; omega
    have hr : shapeS 1 ps = (0, [1], [1]) := by simp [shapeS, goodS, rates, h]; omega
    have HR := Lib.hid hr; clear hr hone htwo n0
    go_enter Tryz.func125, Tryz.ntmps125
    go_wp2_with (first | (go_at_call 142; refine (within_any _ _ _).mono ?_; rintro e w' ⟨rfl, rfl⟩) | (go_at_call 144; refine (shSame_i _ _ _ (by omega)).mono ?_; rintro e w' ⟨ao', c', rfl, hown', hnew'⟩) | (go_at_call 143; (with_reducible refine (shPorts1 _ _).mono ?_); rintro e w' ⟨ao', c', rfl, hown', hnew'⟩) | (go_at_call 143; (with_reducible refine (shPorts2 _ _ _).mono ?_); rintro e w' ⟨ao', c', rfl, hown', hnew'⟩))
    go_ret3
    rw [HR.out]
    exact Rates.mk2 (Keeps.alloc _ _) (by assumption) (by assumption) (Keeps.alloc _ _) hown' hnew' (by simp) (by simp)
  · have hd1 : decide (1 ≤ (ps.length : Int) ∧ (ps.length : Int) ≤ 16) = false := by simp; omega
    have hr : shapeS 1 ps = (61, [], []) := by simp [shapeS, goodS]; omega
    have HR := Lib.hid hr; clear hr hone htwo n0
    go_enter Tryz.func125, Tryz.ntmps125
    go_wp2_with (first | (go_at_call 142; refine (within_any _ _ _).mono ?_; rintro e w' ⟨rfl, rfl⟩) | (go_at_call 144; refine (shSame_i _ _ _ (by omega)).mono ?_; rintro e w' ⟨ao', c', rfl, hown', hnew'⟩) | (go_at_call 143; (with_reducible refine (shPorts1 _ _).mono ?_); rintro e w' ⟨ao', c', rfl, hown', hnew'⟩) | (go_at_call 143; (with_reducible refine (shPorts2 _ _ _).mono ?_); rintro e w' ⟨ao', c', rfl, hown', hnew'⟩))
    go_ret3
    rw [HR.out]
    exact Rates.none _ _ _ (New.refl _)

set_option maxRecDepth 100000 in
set_option maxHeartbeats 1000000 in
theorem shOf_3_2 (ps : List Int) (ao : Option Addr) (c : Nat) (w : World) (hx : SlAt w ao (Is ps)) (h3 : 3 ≤ ps.length) (hl : ps.length ≤ 9223372036854775807) :
    Calls Tryz.prog 125 #[.int .u8 2, .slice ao ps.length c] w (Rates w (shapeS 2 ps)) := by
  obtain ⟨b, off, rfl, hc⟩ := Is_at hx (i := 0) (by omega)
  obtain ⟨b', off', e, hd⟩ := Is_at hx (i := 1) (by omega)
  simp only [Option.some.injEq, Addr.mk.injEq, and_true] at e
  obtain ⟨rfl, rfl⟩ := e
  simp only [Nat.add_zero] at hc
  generalize ps[0] = n at hc
  generalize ps[1] = m at hd
  have e1 : ((ps.length : Int) == 1) = false := beq_eq_false_iff_ne.2 (by omega)
  have e2 : ((ps.length : Int) == 2) = false := beq_eq_false_iff_ne.2 (by omega)
  have e0 : ((ps.length : Int) == 0) = false := beq_eq_false_iff_ne.2 (by omega)
  have hone : ∀ k, oneS ps k = false := fun k => by match ps, h3 with | _ :: _ :: _ :: _, _ => rfl
  have htwo : twoS ps = false := by match ps, h3 with | _ :: _ :: _ :: _, _ => rfl
  have n0 : ps ≠ [] := by rintro rfl; simp at h3
  have hr : shapeS 2 ps = (61, [], []) := by simp [shapeS, goodS, hone, htwo, n0]
  have HR := Lib.hid hr; clear hr hone htwo n0
  go_enter Tryz.func125, Tryz.ntmps125
  go_wp2_with (first | (go_at_call 142; refine (within_any _ _ _).mono ?_; rintro e w' ⟨rfl, rfl⟩) | (go_at_call 144; refine (shSame_i _ _ _ (by omega)).mono ?_; rintro e w' ⟨ao', c', rfl, hown', hnew'⟩) | (go_at_call 143; (with_reducible refine (shPorts1 _ _).mono ?_); rintro e w' ⟨ao', c', rfl, hown', hnew'⟩) | (go_at_call 143; (with_reducible refine (shPorts2 _ _ _).mono ?_); rintro e w' ⟨ao', c', rfl, hown', hnew'⟩))
  go_ret3
  rw [HR.out]
  exact Rates.none _ _ _ (New.refl _)

set_option maxRecDepth 100000 in
set_option maxHeartbeats 1000000 in
theorem shOf_3_3 (ps : List Int) (ao : Option Addr) (c : Nat) (w : World) (hx : SlAt w ao (Is ps)) (h3 : 3 ≤ ps.length) (hl : ps.length ≤ 9223372036854775807) :
    Calls Tryz.prog 125 #[.int .u8 3, .slice ao ps.length c] w (Rates w (shapeS 3 ps)) := by
  obtain ⟨b, off, rfl, hc⟩ := Is_at hx (i := 0) (by omega)
  obtain ⟨b', off', e, hd⟩ := Is_at hx (i := 1) (by omega)
  simp only [Option.some.injEq, Addr.mk.injEq, and_true] at e
  obtain ⟨rfl, rfl⟩ := e
  simp only [Nat.add_zero] at hc
  generalize ps[0] = n at hc
  generalize ps[1] = m at hd
  have e1 : ((ps.length : Int) == 1) = false := beq_eq_false_iff_ne.2 (by omega)
  have e2 : ((ps.length : Int) == 2) = false := beq_eq_false_iff_ne.2 (by omega)
  have e0 : ((ps.length : Int) == 0) = false := beq_eq_false_iff_ne.2 (by omega)
  have hone : ∀ k, oneS ps k = false := fun k => by match ps, h3 with | _ :: _ :: _ :: _, _ => rfl
  have htwo : twoS ps = false := by match ps, h3 with | _ :: _ :: _ :: _, _ => rfl
  have n0 : ps ≠ [] := by rintro rfl; simp at h3
  have hr : shapeS 3 ps = (61, [], []) := by simp [shapeS, goodS, hone, htwo, n0]
  have HR := Lib.hid hr; clear hr hone htwo n0
  go_enter Tryz.func125, Tryz.ntmps125
  go_wp2_with (first | (go_at_call 142; refine (within_any _ _ _).mono ?_; rintro e w' ⟨rfl, rfl⟩) | (go_at_call 144; refine (shSame_i _ _ _ (by omega)).mono ?_; rintro e w' ⟨ao', c', rfl, hown', hnew'⟩) | (go_at_call 143; (with_reducible refine (shPorts1 _ _).mono ?_); rintro e w' ⟨ao', c', rfl, hown', hnew'⟩) | (go_at_call 143; (with_reducible refine (shPorts2 _ _ _).mono ?_); rintro e w' ⟨ao', c', rfl, hown', hnew'⟩))
  go_ret3
  rw [HR.out]
  exact Rates.none _ _ _ (New.refl _)

set_option maxRecDepth 100000 in
set_option maxHeartbeats 1000000 in
theorem shOf_3_4 (ps : List Int) (ao : Option Addr) (c : Nat) (w : World) (hx : SlAt w ao (Is ps)) (h3 : 3 ≤ ps.length) (hl : ps.length ≤ 9223372036854775807) :
    Calls Tryz.prog 125 #[.int .u8 4, .slice ao ps.length c] w (Rates w (shapeS 4 ps)) := by
  obtain ⟨b, off, rfl, hc⟩ := Is_at hx (i := 0) (by omega)
  obtain ⟨b', off', e, hd⟩ := Is_at hx (i := 1) (by omega)
  simp only [Option.some.injEq, Addr.mk.injEq, and_true] at e
  obtain ⟨rfl, rfl⟩ := e
  simp only [Nat.add_zero] at hc
  generalize ps[0] = n at hc
  generalize ps[1] = m at hd
  have e1 : ((ps.length : Int) == 1) = false := beq_eq_false_iff_ne.2 (by omega)
  have e2 : ((ps.length : Int) == 2) = false := beq_eq_false_iff_ne.2 (by omega)
  have e0 : ((ps.length : Int) == 0) = false := beq_eq_false_iff_ne.2 (by omega)
  have hone : ∀ k, oneS ps k = false := fun k => by match ps, h3 with | _ :: _ :: _ :: _, _ => rfl
  have htwo : twoS ps = false := by match ps, h3 with | _ :: _ :: _ :: _, _ => rfl
  have n0 : ps ≠ [] := by rintro rfl; simp at h3
  have hr : shapeS 4 ps = (61, [], []) := by simp [shapeS, goodS, hone, htwo, n0]
  have HR := Lib.hid hr; clear hr hone htwo n0
  go_enter Tryz.func125, Tryz.ntmps125
  go_wp2_with (first | (go_at_call 142; refine (within_any _ _ _).mono ?_; rintro e w' ⟨rfl, rfl⟩) | (go_at_call 144; refine (shSame_i _ _ _ (by omega)).mono ?_; rintro e w' ⟨ao', c', rfl, hown', hnew'⟩) | (go_at_call 143; (with_reducible refine (shPorts1 _ _).mono ?_); rintro e w' ⟨ao', c', rfl, hown', hnew'⟩) | (go_at_call 143; (with_reducible refine (shPorts2 _ _ _).mono ?_); rintro e w' ⟨ao', c', rfl, hown', hnew'⟩))
  go_ret3
  rw [HR.out]
  exact Rates.none _ _ _ (New.refl _)

set_option maxRecDepth 100000 in
set_option maxHeartbeats 1000000 in
theorem shOf_3_5 (ps : List Int) (ao : Option Addr) (c : Nat) (w : World) (hx : SlAt w ao (Is ps)) (h3 : 3 ≤ ps.length) (hl : ps.length ≤ 9223372036854775807) :
    Calls Tryz.prog 125 #[.int .u8 5, .slice ao ps.length c] w (Rates w (shapeS 5 ps)) := by
  obtain ⟨b, off, rfl, hc⟩ := Is_at hx (i := 0) (by omega)
  obtain ⟨b', off', e, hd⟩ := Is_at hx (i := 1) (by omega)
  simp only [Option.some.injEq, Addr.mk.injEq, and_true] at e
  obtain ⟨rfl, rfl⟩ := e
  simp only [Nat.add_zero] at hc
  generalize ps[0] = n at hc
  generalize ps[1] = m at hd
  have e1 : ((ps.length : Int) == 1) = false := beq_eq_false_iff_ne.2 (by omega)
  have e2 : ((ps.length : Int) == 2) = false := beq_eq_false_iff_ne.2 (by omega)
  have e0 : ((ps.length : Int) == 0) = false := beq_eq_false_iff_ne.2 (by omega)
  have hone : ∀ k, oneS ps k = false := fun k => by match ps, h3 with | _ :: _ :: _ :: _, _ => rfl
  have htwo : twoS ps = false := by match ps, h3 with | _ :: _ :: _ :: _, _ => rfl
  have n0 : ps ≠ [] := by rintro rfl; simp at h3
  have hr : shapeS 5 ps = (61, [], []) := by simp [shapeS, goodS, hone, htwo, n0]
  have HR := Lib.hid hr; clear hr hone htwo n0
  go_enter Tryz.func125, Tryz.ntmps125
  go_wp2_with (first | (go_at_call 142; refine (within_any _ _ _).mono ?_; rintro e w' ⟨rfl, rfl⟩) | (go_at_call 144; refine (shSame_i _ _ _ (by omega)).mono ?_; rintro e w' ⟨ao', c', rfl, hown', hnew'⟩) | (go_at_call 143; (with_reducible refine (shPorts1 _ _).mono ?_); rintro e w' ⟨ao', c', rfl, hown', hnew'⟩) | (go_at_call 143; (with_reducible refine (shPorts2 _ _ _).mono ?_); rintro e w' ⟨ao', c', rfl, hown', hnew'⟩))
  go_ret3
  rw [HR.out]
  exact Rates.none _ _ _ (New.refl _)

set_option maxRecDepth 100000 in
set_option maxHeartbeats 1000000 in
theorem shOf_3_6 (ps : List Int) (ao : Option Addr) (c : Nat) (w : World) (hx : SlAt w ao (Is ps)) (h3 : 3 ≤ ps.length) (hl : ps.length ≤ 9223372036854775807) :
    Calls Tryz.prog 125 #[.int .u8 6, .slice ao ps.length c] w (Rates w (shapeS 6 ps)) := by
  obtain ⟨b, off, rfl, hc⟩ := Is_at hx (i := 0) (by omega)
  obtain ⟨b', off', e, hd⟩ := Is_at hx (i := 1) (by omega)
  simp only [Option.some.injEq, Addr.mk.injEq, and_true] at e
  obtain ⟨rfl, rfl⟩ := e
  simp only [Nat.add_zero] at hc
  generalize ps[0] = n at hc
  generalize ps[1] = m at hd
  have e1 : ((ps.length : Int) == 1) = false := beq_eq_false_iff_ne.2 (by omega)
  have e2 : ((ps.length : Int) == 2) = false := beq_eq_false_iff_ne.2 (by omega)
  have e0 : ((ps.length : Int) == 0) = false := beq_eq_false_iff_ne.2 (by omega)
  have hone : ∀ k, oneS ps k = false := fun k => by match ps, h3 with | _ :: _ :: _ :: _, _ => rfl
  have htwo : twoS ps = false := by match ps, h3 with | _ :: _ :: _ :: _, _ => rfl
  have n0 : ps ≠ [] := by rintro rfl; simp at h3
  have hr : shapeS 6 ps = (61, [], []) := by simp [shapeS, goodS, hone, htwo, n0]
  have HR := Lib.hid hr; clear hr hone htwo n0
  go_enter Tryz.func125, Tryz.ntmps125
  go_wp2_with (first | (go_at_call 142; refine (within_any _ _ _).mono ?_; rintro e w' ⟨rfl, rfl⟩) | (go_at_call 144; refine (shSame_i _ _ _ (by omega)).mono ?_; rintro e w' ⟨ao', c', rfl, hown', hnew'⟩) | (go_at_call 143; (with_reducible refine (shPorts1 _ _).mono ?_); rintro e w' ⟨ao', c', rfl, hown', hnew'⟩) | (go_at_call 143; (with_reducible refine (shPorts2 _ _ _).mono ?_); rintro e w' ⟨ao', c', rfl, hown', hnew'⟩))
  go_ret3
  rw [HR.out]
  exact Rates.none _ _ _ (New.refl _)

set_option maxRecDepth 100000 in
set_option maxHeartbeats 1000000 in
theorem shOf_3_7 (ps : List Int) (ao : Option Addr) (c : Nat) (w : World) (hx : SlAt w ao (Is ps)) (h3 : 3 ≤ ps.length) (hl : ps.length ≤ 9223372036854775807) :
    Calls Tryz.prog 125 #[.int .u8 7, .slice ao ps.length c] w (Rates w (shapeS 7 ps)) := by
  obtain ⟨b, off, rfl, hc⟩ := Is_at hx (i := 0) (by omega)
  obtain ⟨b', off', e, hd⟩ := Is_at hx (i := 1) (by omega)
  simp only [Option.some.injEq, Addr.mk.injEq, and_true] at e
  obtain ⟨rfl, rfl⟩ := e
  simp only [Nat.add_zero] at hc
  generalize ps[0] = n at hc
  generalize ps[1] = m at hd
  have e1 : ((ps.length : Int) == 1) = false := beq_eq_false_iff_ne.2 (by omega)
  have e2 : ((ps.length : Int) == 2) = false := beq_eq_false_iff_ne.2 (by omega)
  have e0 : ((ps.length : Int) == 0) = false := beq_eq_false_iff_ne.2 (by omega)
  have hone : ∀ k, oneS ps k = false := fun k => by match ps, h3 with | _ :: _ :: _ :: _, _ => rfl
  have htwo : twoS ps = false := by match ps, h3 with | _ :: _ :: _ :: _, _ => rfl
  have n0 : ps ≠ [] := by rintro rfl; simp at h3
  have hr : shapeS 7 ps = (61, [], []) := by simp [shapeS, goodS, hone, htwo, n0]
  have HR := Lib.hid hr; clear hr hone htwo n0
  go_enter Tryz.func125, Tryz.ntmps125
  go_wp2_with (first | (go_at_call 142; refine (within_any _ _ _).mono ?_; rintro e w' ⟨rfl, rfl⟩) | (go_at_call 144; refine (shSame_i _ _ _ (by omega)).mono ?_; rintro e w' ⟨ao', c', rfl, hown', hnew'⟩) | (go_at_call 143; (with_reducible refine (shPorts1 _ _).mono ?_); rintro e w' ⟨ao', c', rfl, hown', hnew'⟩) | (go_at_call 143; (with_reducible refine (shPorts2 _ _ _).mono ?_); rintro e w' ⟨ao', c', rfl, hown', hnew'⟩))
  go_ret3
  rw [HR.out]
  exact Rates.none _ _ _ (New.refl _)

set_option maxRecDepth 100000 in
set_option maxHeartbeats 1000000 in
theorem shOf_3_8 (ps : List Int) (ao : Option Addr) (c : Nat) (w : World) (hx : SlAt w ao (Is ps)) (h3 : 3 ≤ ps.length) (hl : ps.length ≤ 9223372036854775807) :
    Calls Tryz.prog 125 #[.int .u8 8, .slice ao ps.length c] w (Rates w (shapeS 8 ps)) := by
  obtain ⟨b, off, rfl, hc⟩ := Is_at hx (i := 0) (by omega)
  obtain ⟨b', off', e, hd⟩ := Is_at hx (i := 1) (by omega)
  simp only [Option.some.injEq, Addr.mk.injEq, and_true] at e
  obtain ⟨rfl, rfl⟩ := e
  simp only [Nat.add_zero] at hc
  generalize ps[0] = n at hc
  generalize ps[1] = m at hd
  have e1 : ((ps.length : Int) == 1) = false := beq_eq_false_iff_ne.2 (by omega)
  have e2 : ((ps.length : Int) == 2) = false := beq_eq_false_iff_ne.2 (by omega)
  have e0 : ((ps.length : Int) == 0) = false := beq_eq_false_iff_ne.2 (by omega)
  have hone : ∀ k, oneS ps k = false := fun k => by match ps, h3 with | _ :: _ :: _ :: _, _ => rfl
  have htwo : twoS ps = false := by match ps, h3 with | _ :: _ :: _ :: _, _ => rfl
  have n0 : ps ≠ [] := by rintro rfl; simp at h3
  have hr : shapeS 8 ps = (61, [], []) := by simp [shapeS, goodS, hone, htwo, n0]
  have HR := Lib.hid hr; clear hr hone htwo n0
  go_enter Tryz.func125, Tryz.ntmps125
  go_wp2_with (first | (go_at_call 142; refine (within_any _ _ _).mono ?_; rintro e w' ⟨rfl, rfl⟩) | (go_at_call 144; refine (shSame_i _ _ _ (by omega)).mono ?_; rintro e w' ⟨ao', c', rfl, hown', hnew'⟩) | (go_at_call 143; (with_reducible refine (shPorts1 _ _).mono ?_); rintro e w' ⟨ao', c', rfl, hown', hnew'⟩) | (go_at_call 143; (with_reducible refine (shPorts2 _ _ _).mono ?_); rintro e w' ⟨ao', c', rfl, hown', hnew'⟩))
  go_ret3
  rw [HR.out]
  exact Rates.none _ _ _ (New.refl _)

set_option maxRecDepth 100000 in
set_option maxHeartbeats 1000000 in
theorem shOf_3_9 (ps : List Int) (ao : Option Addr) (c : Nat) (w : World) (hx : SlAt w ao (Is ps)) (h3 : 3 ≤ ps.length) (hl : ps.length ≤ 9223372036854775807) :
    Calls Tryz.prog 125 #[.int .u8 9, .slice ao ps.length c] w (Rates w (shapeS 9 ps)) := by
  obtain ⟨b, off, rfl, hc⟩ := Is_at hx (i := 0) (by omega)
  obtain ⟨b', off', e, hd⟩ := Is_at hx (i := 1) (by omega)
  simp only [Option.some.injEq, Addr.mk.injEq, and_true] at e
  obtain ⟨rfl, rfl⟩ := e
  simp only [Nat.add_zero] at hc
  generalize ps[0] = n at hc
  generalize ps[1] = m at hd
  have e1 : ((ps.length : Int) == 1) = false := beq_eq_false_iff_ne.2 (by omega)
  have e2 : ((ps.length : Int) == 2) = false := beq_eq_false_iff_ne.2 (by omega)
  have e0 : ((ps.length : Int) == 0) = false := beq_eq_false_iff_ne.2 (by omega)
  have hone : ∀ k, oneS ps k = false := fun k => by match ps, h3 with | _ :: _ :: _ :: _, _ => rfl
  have htwo : twoS ps = false := by match ps, h3 with | _ :: _ :: _ :: _, _ => rfl
  have n0 : ps ≠ [] := by rintro rfl; simp at h3
  have hr : shapeS 9 ps = (61, [], []) := by simp [shapeS, goodS, hone, htwo, n0]
  have HR := Lib.hid hr; clear hr hone htwo n0
  go_enter Tryz.func125, Tryz.ntmps125
  go_wp2_with (first | (go_at_call 142; refine (within_any _ _ _).mono ?_; rintro e w' ⟨rfl, rfl⟩) | (go_at_call 144; refine (shSame_i _ _ _ (by omega)).mono ?_; rintro e w' ⟨ao', c', rfl, hown', hnew'⟩) | (go_at_call 143; (with_reducible refine (shPorts1 _ _).mono ?_); rintro e w' ⟨ao', c', rfl, hown', hnew'⟩) | (go_at_call 143; (with_reducible refine (shPorts2 _ _ _).mono ?_); rintro e w' ⟨ao', c', rfl, hown', hnew'⟩))
  go_ret3
  rw [HR.out]
  exact Rates.none _ _ _ (New.refl _)

set_option maxRecDepth 100000 in
set_option maxHeartbeats 1000000 in
theorem shOf_3_10 (ps : List Int) (ao : Option Addr) (c : Nat) (w : World) (hx : SlAt w ao (Is ps)) (h3 : 3 ≤ ps.length) (hl : ps.length ≤ 9223372036854775807) :
    Calls Tryz.prog 125 #[.int .u8 10, .slice ao ps.length c] w (Rates w (shapeS 10 ps)) := by
  obtain ⟨b, off, rfl, hc⟩ := Is_at hx (i := 0) (by omega)
  obtain ⟨b', off', e, hd⟩ := Is_at hx (i := 1) (by omega)
  simp only [Option.some.injEq, Addr.mk.injEq, and_true] at e
  obtain ⟨rfl, rfl⟩ := e
  simp only [Nat.add_zero] at hc
  generalize ps[0] = n at hc
  generalize ps[1] = m at hd
  have e1 : ((ps.length : Int) == 1) = false := beq_eq_false_iff_ne.2 (by omega)
  have e2 : ((ps.length : Int) == 2) = false := beq_eq_false_iff_ne.2 (by omega)
  have e0 : ((ps.length : Int) == 0) = false := beq_eq_false_iff_ne.2 (by omega)
  have hone : ∀ k, oneS ps k = false := fun k => by match ps, h3 with | _ :: _ :: _ :: _, _ => rfl
  have htwo : twoS ps = false := by match ps, h3 with | _ :: _ :: _ :: _, _ => rfl
  have n0 : ps ≠ [] := by rintro rfl; simp at h3
  have hr : shapeS 10 ps = (61, [], []) := by simp [shapeS, goodS, hone, htwo, n0]; try omega
  have HR := Lib.hid hr; clear hr hone htwo n0
  go_enter Tryz.func125, Tryz.ntmps125
  go_wp2_with (first | (go_at_call 142; refine (within_any _ _ _).mono ?_; rintro e w' ⟨rfl, rfl⟩) | (go_at_call 144; refine (shSame_i _ _ _ (by omega)).mono ?_; rintro e w' ⟨ao', c', rfl, hown', hnew'⟩) | (go_at_call 143; (with_reducible refine (shPorts1 _ _).mono ?_); rintro e w' ⟨ao', c', rfl, hown', hnew'⟩) | (go_at_call 143; (with_reducible refine (shPorts2 _ _ _).mono ?_); rintro e w' ⟨ao', c', rfl, hown', hnew'⟩))
  go_ret3
  rw [HR.out]
  exact Rates.none _ _ _ (New.refl _)

set_option maxRecDepth 100000 in
set_option maxHeartbeats 1000000 in
theorem shOf_3_11 (ps : List Int) (ao : Option Addr) (c : Nat) (w : World) (hx : SlAt w ao (Is ps)) (h3 : 3 ≤ ps.length) (hl : ps.length ≤ 9223372036854775807) :
    Calls Tryz.prog 125 #[.int .u8 11, .slice ao ps.length c] w (Rates w (shapeS 11 ps)) := by
  obtain ⟨b, off, rfl, hc⟩ := Is_at hx (i := 0) (by omega)
  obtain ⟨b', off', e, hd⟩ := Is_at hx (i := 1) (by omega)
  simp only [Option.some.injEq, Addr.mk.injEq, and_true] at e
  obtain ⟨rfl, rfl⟩ := e
  simp only [Nat.add_zero] at hc
  generalize ps[0] = n at hc
  generalize ps[1] = m at hd
  have e1 : ((ps.length : Int) == 1) = false := beq_eq_false_iff_ne.2 (by omega)
  have e2 : ((ps.length : Int) == 2) = false := beq_eq_false_iff_ne.2 (by omega)
  have e0 : ((ps.length : Int) == 0) = false := beq_eq_false_iff_ne.2 (by omega)
  have hone : ∀ k, oneS ps k = false := fun k => by match ps, h3 with | _ :: _ :: _ :: _, _ => rfl
  have htwo : twoS ps = false := by match ps, h3 with | _ :: _ :: _ :: _, _ => rfl
  have n0 : ps ≠ [] := by rintro rfl; simp at h3
  have hr : shapeS 11 ps = (61, [], []) := by simp [shapeS, goodS, hone, htwo, n0]
  have HR := Lib.hid hr; clear hr hone htwo n0
  go_enter Tryz.func125, Tryz.ntmps125
  go_wp2_with (first | (go_at_call 142; refine (within_any _ _ _).mono ?_; rintro e w' ⟨rfl, rfl⟩) | (go_at_call 144; refine (shSame_i _ _ _ (by omega)).mono ?_; rintro e w' ⟨ao', c', rfl, hown', hnew'⟩) | (go_at_call 143; (with_reducible refine (shPorts1 _ _).mono ?_); rintro e w' ⟨ao', c', rfl, hown', hnew'⟩) | (go_at_call 143; (with_reducible refine (shPorts2 _ _ _).mono ?_); rintro e w' ⟨ao', c', rfl, hown', hnew'⟩))
  go_ret3
  rw [HR.out]
  exact Rates.none _ _ _ (New.refl _)

end Go.Proofs.YtnedmonlofbahaaGreatDoor
namespace Go.Proofs.YtnedmonlofbahaaGreatDoor
open Go Go.RowKit
set_option linter.all false

theorem oneS_true {ps : List Int} {k : Int} (h : oneS ps k = true) : ∃ n, ps = [n] ∧ 1 ≤ n ∧ n ≤ k := by
  unfold oneS at h
  split at h
  · rename_i n; exact ⟨n, rfl, by simpa using h⟩
  · cases h
theorem twoS_true {ps : List Int} (h : twoS ps = true) : ∃ n m, ps = [n, m] ∧ 1 ≤ n ∧ n ≤ 16 ∧ 1 ≤ m ∧ m ≤ 64 ∧ n * m ≤ 64 := by
  unfold twoS at h
  split at h
  · rename_i n m; exact ⟨n, m, rfl, by simpa using h⟩
  · cases h

theorem tag_cases {tag : Int} (h1 : 1 ≤ tag) (h2 : tag ≤ 11) : tag = 1 ∨ tag = 2 ∨ tag = 3 ∨ tag = 4 ∨ tag = 5 ∨ tag = 6 ∨ tag = 7 ∨ tag = 8 ∨ tag = 9 ∨ tag = 10 ∨ tag = 11 := by omega

set_option maxRecDepth 100000 in
set_option maxHeartbeats 1000000 in
theorem shOf_any (tag : Int) (ao : Option Addr) (c : Nat) (ps : List Int) (w : World) (hx : SlAt w ao (Is ps)) (hl : ps.length ≤ 9223372036854775807) :
    Calls Tryz.prog 125 #[.int .u8 tag, .slice ao ps.length c] w (Rates w (shapeS tag ps)) := by
  by_cases ht : 1 ≤ tag ∧ tag ≤ 11
  · obtain ⟨t1, t2⟩ := ht
    have htag := tag_cases t1 t2
    clear t1 t2
    match ps, hx, hl with
    | [], hx, hl =>
      rcases htag with rfl | rfl | rfl | rfl | rfl | rfl | rfl | rfl | rfl | rfl | rfl
      · exact shOf_0_1 ao c w hx
      · exact shOf_0_2 ao c w hx
      · exact shOf_0_3 ao c w hx
      · exact shOf_0_4 ao c w hx
      · exact shOf_0_5 ao c w hx
      · exact shOf_0_6 ao c w hx
      · exact shOf_0_7 ao c w hx
      · exact shOf_0_8 ao c w hx
      · exact shOf_0_9 ao c w hx
      · exact shOf_0_10 ao c w hx
      · exact shOf_0_11 ao c w hx
    | [n], hx, hl =>
      rcases htag with rfl | rfl | rfl | rfl | rfl | rfl | rfl | rfl | rfl | rfl | rfl
      · exact shOf_1_1 n ao c w hx
      · exact shOf_1_2 n ao c w hx
      · exact shOf_1_3 n ao c w hx
      · exact shOf_1_4 n ao c w hx
      · exact shOf_1_5 n ao c w hx
      · exact shOf_1_6 n ao c w hx
      · exact shOf_1_7 n ao c w hx
      · exact shOf_1_8 n ao c w hx
      · exact shOf_1_9 n ao c w hx
      · exact shOf_1_10 n ao c w hx
      · exact shOf_1_11 n ao c w hx
    | [n, m], hx, hl =>
      rcases htag with rfl | rfl | rfl | rfl | rfl | rfl | rfl | rfl | rfl | rfl | rfl
      · exact shOf_2_1 n m ao c w hx
      · exact shOf_2_2 n m ao c w hx
      · exact shOf_2_3 n m ao c w hx
      · exact shOf_2_4 n m ao c w hx
      · exact shOf_2_5 n m ao c w hx
      · exact shOf_2_6 n m ao c w hx
      · exact shOf_2_7 n m ao c w hx
      · exact shOf_2_8 n m ao c w hx
      · exact shOf_2_9 n m ao c w hx
      · exact shOf_2_10 n m ao c w hx
      · exact shOf_2_11 n m ao c w hx
    | n :: m :: q :: r, hx, hl =>
      have h3 : 3 ≤ (n :: m :: q :: r).length := by simp
      rcases htag with rfl | rfl | rfl | rfl | rfl | rfl | rfl | rfl | rfl | rfl | rfl
      · exact shOf_3_1 _ ao c w hx h3 hl
      · exact shOf_3_2 _ ao c w hx h3 hl
      · exact shOf_3_3 _ ao c w hx h3 hl
      · exact shOf_3_4 _ ao c w hx h3 hl
      · exact shOf_3_5 _ ao c w hx h3 hl
      · exact shOf_3_6 _ ao c w hx h3 hl
      · exact shOf_3_7 _ ao c w hx h3 hl
      · exact shOf_3_8 _ ao c w hx h3 hl
      · exact shOf_3_9 _ ao c w hx h3 hl
      · exact shOf_3_10 _ ao c w hx h3 hl
      · exact shOf_3_11 _ ao c w hx h3 hl
  · have hs : shapeS tag ps = (60, [], []) := by unfold shapeS; rw [if_neg ht]
    have HS := Lib.hid hs
    clear hs
    by_cases h1 : tag < 1
    · clear ht
      go_enter Tryz.func125, Tryz.ntmps125
      go_wp2_with fail
      go_ret3
      rw [HS.out]
      exact Rates.none _ _ _ (New.refl _)
    · have h2 : 11 < tag := by omega
      clear ht
      go_enter Tryz.func125, Tryz.ntmps125
      go_wp2_with fail
      go_ret3
      rw [HS.out]
      exact Rates.none _ _ _ (New.refl _)

theorem sameInts_is (w : World) (ao bo : Option Addr) (xs ys : List Int) (n m c d : Nat) (hx : SlAt w ao (Is xs)) (hy : SlAt w bo (Is ys)) (hn : n = xs.length) (hm : m = ys.length) (b : Bool) (hb : decide (xs = ys) = b)
   (lx : xs.length ≤ 9223372036854775807) :
    Calls Tryz.prog 30 #[.slice ao n c, .slice bo m d] w fun e w' => e = .returned (.bool b) ∧ ∃ n, w' = w.drewN n := by
  subst hn hm hb
  exact sameInts_any w ao bo xs ys c d hx hy lx

end Go.Proofs.YtnedmonlofbahaaGreatDoor
namespace Go.Proofs.YtnedmonlofbahaaGreatDoor
open Go Go.RowKit
set_option linter.all false

def ws : List ByteArray := [⟨#[102, 105, 108, 116, 101, 114]⟩, ⟨#[117, 112]⟩, ⟨#[100, 111, 119, 110]⟩, ⟨#[119, 101, 97, 118, 101]⟩, ⟨#[117, 110, 119, 101, 97, 118, 101]⟩, ⟨#[97, 100, 100]⟩, ⟨#[113, 117, 111, 116]⟩, ⟨#[115, 117, 109]⟩, ⟨#[99, 111, 112, 121]⟩, ⟨#[116, 105, 99, 107]⟩, ⟨#[100, 114, 111, 112]⟩]
def wsV : Array Value := #[.string ⟨#[102, 105, 108, 116, 101, 114]⟩, .string ⟨#[117, 112]⟩, .string ⟨#[100, 111, 119, 110]⟩, .string ⟨#[119, 101, 97, 118, 101]⟩, .string ⟨#[117, 110, 119, 101, 97, 118, 101]⟩, .string ⟨#[97, 100, 100]⟩, .string ⟨#[113, 117, 111, 116]⟩, .string ⟨#[115, 117, 109]⟩, .string ⟨#[99, 111, 112, 121]⟩, .string ⟨#[116, 105, 99, 107]⟩, .string ⟨#[100, 114, 111, 112]⟩]
theorem ws_len : ws.length = 11 := rfl
theorem wsV_at (k : Nat) (h : k < 11) : wsV[k]? = some (.string (ws.getD k ByteArray.empty)) := by
  have hk : k = 0 ∨ k = 1 ∨ k = 2 ∨ k = 3 ∨ k = 4 ∨ k = 5 ∨ k = 6 ∨ k = 7 ∨ k = 8 ∨ k = 9 ∨ k = 10 := by omega
  rcases hk with rfl | rfl | rfl | rfl | rfl | rfl | rfl | rfl | rfl | rfl | rfl <;> rfl

def tagS (s : ByteArray) : Int × Int := match ws.findIdx? (fun u => u.toList == s.toList) with
  | some k => ((k : Int) + 1, 0)
  | none => (0, 60)
def wordS (t : Int) : ByteArray × Int := if 1 ≤ t ∧ t ≤ 11 then (ws.getD (t - 1).toNat ByteArray.empty, 0) else (ByteArray.empty, 60)

theorem findIdx_hit {p : ByteArray → Bool} {l : List ByteArray} {k : Nat} (hk : k < l.length) (hno : ∀ j, j < k → p (l.getD j ByteArray.empty) = false) (hp : p (l.getD k ByteArray.empty) = true) : l.findIdx? p = some k := by
  rw [List.findIdx?_eq_some_iff_getElem]
  refine ⟨hk, by simpa [hk] using hp, fun j hj => ?_⟩
  have := hno j hj
  simpa [show j < l.length by omega] using this
theorem findIdx_miss {p : ByteArray → Bool} {l : List ByteArray} (hno : ∀ j, j < l.length → p (l.getD j ByteArray.empty) = false) : l.findIdx? p = none := by
  rw [List.findIdx?_eq_none_iff]
  intro x hx
  obtain ⟨j, hj, rfl⟩ := List.getElem_of_mem hx
  have := hno j hj
  simpa [hj] using this

theorem shWords_any (w : World) : Calls Tryz.prog 95 #[] w fun e w' => e = .returned (.slice (some ⟨w.heap.size, 0, none⟩) 11 11) ∧ w.alloc (.cells wsV 9) = w' := by
  go_enter Tryz.func95, Tryz.ntmps95
  go_wp2
  go_ret
  exact ⟨rfl, rfl⟩

def TagR (w : World) (r : Int × Int) (e : Ending) (w' : World) : Prop := e = .returned (.tuple #[.int .u8 r.1, I r.2]) ∧ New w w'

set_option maxHeartbeats 1000000 in
theorem shTag_any (s : ByteArray) (w : World) : Calls Tryz.prog 53 #[.string s] w (TagR w (tagS s)) := by
  have hcell : ∀ k, k < 11 → (w.alloc (.cells wsV 9)).cell? ⟨w.heap.size, k, none⟩ = some (.string (ws.getD k ByteArray.empty)) := fun k hk => by
    rw [World.cell?_alloc_new]; exact wsV_at k hk
  have HC := Lib.hid hcell
  clear hcell
  go_enter Tryz.func53, Tryz.ntmps53
  go_wp2_with (go_at_call 95; (with_reducible refine (shWords_any _).mono ?_); rintro e w' ⟨rfl, rfl⟩)
  go_loopw [8] (fun i wr => ∃ k : Nat, k ≤ 11 ∧ i = .int .i64 k ∧ (∀ j, j < k → ((ws.getD j ByteArray.empty).toList == s.toList) = false) ∧ wr = w.alloc (.cells wsV 9)) (fun i _ => 11 - (intOf i).toNat)
  case atStart => exact ⟨0, by omega, rfl, by omega, rfl⟩
  case round =>
    obtain ⟨k, hk, rfl, hall, rfl⟩ := hrel
    have HA := Lib.hid hall
    clear hall
    by_cases hk1 : k < 11
    · have hc := HC.out k hk1
      obtain ⟨u, hu⟩ : ∃ u, u = ws.getD k ByteArray.empty := ⟨_, rfl⟩
      rw [← hu] at hc
      have HU := Lib.hid hu
      clear hu
      go_wp2
      · have hyes : (u.toList == s.toList) = true := by assumption
        go_ret2
        have := findIdx_hit (p := fun u => u.toList == s.toList) (l := ws) (k := k) (by rw [ws_len]; omega) HA.out (by rw [← HU.out]; exact hyes)
        exact ⟨by unfold tagS; rw [this]; simp [Int.add_comm], Keeps.alloc _ _⟩
      · have hno : (u.toList == s.toList) = false := by assumption
        go_roundw
        case rel =>
          refine ⟨k + 1, by omega, by go_num, fun j hj => ?_, (by first | rfl | trivial)⟩
          by_cases e : j < k
          · exact HA.out j e
          · obtain rfl : j = k := by omega
            rw [← HU.out]; exact hno
        case measure => simp [intOf]; omega
    · obtain rfl : k = 11 := by omega
      go_wp2
      go_ret2
      have := findIdx_miss (p := fun u => u.toList == s.toList) (l := ws) HA.out
      exact ⟨by unfold tagS; rw [this]; rfl, Keeps.alloc _ _⟩

def WordR_shWord_any (w : World) (r : ByteArray × Int) (e : Ending) (w' : World) : Prop := e = .returned (.tuple #[.string r.1, I r.2]) ∧ New w w'
set_option maxRecDepth 100000 in
set_option maxHeartbeats 1000000 in
theorem shWord_any (t : Int) (h0 : 0 ≤ t) (h255 : t ≤ 255) (w : World) : Calls Tryz.prog 70 #[.int .u8 t] w (WordR_shWord_any w (wordS t)) := by
  have hcell : ∀ k, k < 11 → (w.alloc (.cells wsV 9)).cell? ⟨w.heap.size, k, none⟩ = some (.string (ws.getD k ByteArray.empty)) := fun k hk => by
    rw [World.cell?_alloc_new]; exact wsV_at k hk
  have HC := Lib.hid hcell
  clear hcell
  by_cases h1 : 1 ≤ t ∧ t ≤ 11
  · obtain ⟨h1, h2⟩ := h1
    have hc := HC.out (t - 1).toNat (by omega)
    have hr : wordS t = (ws.getD (t - 1).toNat ByteArray.empty, 0) := by unfold wordS; rw [if_pos ⟨h1, h2⟩]
    have HR := Lib.hid hr; clear hr
    generalize ws.getD (t - 1).toNat ByteArray.empty = u at hc HR
    obtain ⟨k, hk⟩ : ∃ k : Nat, t = (k : Int) + 1 := ⟨(t - 1).toNat, by omega⟩
    subst hk
    have e : ((k : Int) + 1 - 1).toNat = k := by omega
    rw [e] at hc
    clear e
    go_enter Tryz.func70, Tryz.ntmps70
    go_wp2_with (go_at_call 95; (with_reducible refine (shWords_any _).mono ?_); rintro e w' ⟨rfl, rfl⟩)
    go_ret2
    rw [HR.out]
    exact ⟨rfl, Keeps.alloc _ _⟩
  · have hr : wordS t = (ByteArray.empty, 60) := by unfold wordS; rw [if_neg h1]
    have HR := Lib.hid hr; clear hr
    by_cases h3 : t < 1
    · go_enter Tryz.func70, Tryz.ntmps70
      go_wp2_with fail
      go_ret2
      rw [HR.out]
      exact ⟨rfl, New.refl _⟩
    · have h4 : 11 < t := by omega
      go_enter Tryz.func70, Tryz.ntmps70
      go_wp2_with fail
      go_ret2
      rw [HR.out]
      exact ⟨rfl, New.refl _⟩

end Go.Proofs.YtnedmonlofbahaaGreatDoor
namespace Go.Proofs.YtnedmonlofbahaaGreatDoor
open Go Go.RowKit Go.Joins
set_option linter.all false

def actCells (x : GAct) : List Value := [.string x.name, .int .u8 x.tag, .slice x.a x.xs.length x.c]
def edgeCells (x : GEdge) : List Value := [I x.f, I x.fp, I x.t, I x.tp, .slice x.a x.xs.length x.c]
def portCells (x : GPort) : List Value := [.string x.name, I x.ac, I x.po]
abbrev Gr.cs (g : Gr) : Array Value := #[.string g.name, .slice g.aa g.acts.length g.ac, .slice g.ea g.edges.length g.ec, .slice g.ia g.ins.length g.ic, .slice g.oa g.outs.length g.oc]
abbrev Gr.v (g : Gr) : Value := .agg g.cs
structure GrAt (w : World) (g : Gr) : Prop where
  sa : SlAt w g.aa (g.acts.flatMap actCells)
  se : SlAt w g.ea (g.edges.flatMap edgeCells)
  si : SlAt w g.ia (g.ins.flatMap portCells)
  so : SlAt w g.oa (g.outs.flatMap portCells)
  ax : ∀ x ∈ g.acts, SlAt w x.a (Is x.xs)
  ex : ∀ x ∈ g.edges, SlAt w x.a (Is x.xs)
theorem GrAt.new {w w' : World} {g : Gr} (h : GrAt w g) (k : New w w') : GrAt w' g := ⟨h.sa.new k, h.se.new k, h.si.new k, h.so.new k, fun x hx => (h.ax x hx).new k, fun x hx => (h.ex x hx).new k⟩
structure GLen (g : Gr) : Prop where
  a : g.acts.length ≤ 9223372036854775807
  e : g.edges.length ≤ 9223372036854775807
  i : g.ins.length ≤ 9223372036854775807
  o : g.outs.length ≤ 9223372036854775807
  ax : ∀ x ∈ g.acts, x.xs.length ≤ 9223372036854775807 ∧ x.name.size ≤ 9223372036854775807
  ex : ∀ x ∈ g.edges, x.xs.length ≤ 9223372036854775807
  ix : ∀ x ∈ g.ins, x.name.size ≤ 9223372036854775807
  ox : ∀ x ∈ g.outs, x.name.size ≤ 9223372036854775807
  n : g.name.size ≤ 9223372036854775807

theorem acts_at {w : World} {ao : Option Addr} {l : List GAct} (h : SlAt w ao (l.flatMap actCells)) {i : Nat} (hi : i < l.length) :
    ∃ b off, ao = some ⟨b, off, none⟩ ∧ w.cell? ⟨b, off + i * 3, none⟩ = some (.string l[i].name) ∧ w.cell? ⟨b, off + i * 3 + 1, none⟩ = some (.int .u8 l[i].tag) ∧ w.cell? ⟨b, off + i * 3 + 2, none⟩ = some (.slice l[i].a l[i].xs.length l[i].c) := by
  obtain ⟨b, off, e, k⟩ := row_at (n := 3) (fun _ => rfl) (by decide) h hi
  exact ⟨b, off, e, k 0 (by decide), k 1 (by decide), k 2 (by decide)⟩
theorem gedges_at {w : World} {ao : Option Addr} {l : List GEdge} (h : SlAt w ao (l.flatMap edgeCells)) {i : Nat} (hi : i < l.length) :
    ∃ b off, ao = some ⟨b, off, none⟩ ∧ w.cell? ⟨b, off + i * 5, none⟩ = some (I l[i].f) ∧ w.cell? ⟨b, off + i * 5 + 1, none⟩ = some (I l[i].fp) ∧ w.cell? ⟨b, off + i * 5 + 2, none⟩ = some (I l[i].t) ∧ w.cell? ⟨b, off + i * 5 + 3, none⟩ = some (I l[i].tp) ∧ w.cell? ⟨b, off + i * 5 + 4, none⟩ = some (.slice l[i].a l[i].xs.length l[i].c) := by
  obtain ⟨b, off, e, k⟩ := row_at (n := 5) (fun _ => rfl) (by decide) h hi
  exact ⟨b, off, e, k 0 (by decide), k 1 (by decide), k 2 (by decide), k 3 (by decide), k 4 (by decide)⟩
theorem ports_at {w : World} {ao : Option Addr} {l : List GPort} (h : SlAt w ao (l.flatMap portCells)) {i : Nat} (hi : i < l.length) :
    ∃ b off, ao = some ⟨b, off, none⟩ ∧ w.cell? ⟨b, off + i * 3, none⟩ = some (.string l[i].name) ∧ w.cell? ⟨b, off + i * 3 + 1, none⟩ = some (I l[i].ac) ∧ w.cell? ⟨b, off + i * 3 + 2, none⟩ = some (I l[i].po) := by
  obtain ⟨b, off, e, k⟩ := row_at (n := 3) (fun _ => rfl) (by decide) h hi
  exact ⟨b, off, e, k 0 (by decide), k 1 (by decide), k 2 (by decide)⟩
theorem bytesN_inj {s t : ByteArray} : bytesN s = bytesN t ↔ s = t := by
  refine ⟨fun h => ?_, fun h => by rw [h]⟩
  have inj : ∀ (l m : List UInt8), l.map (fun b => (b.toNat : Int)) = m.map (fun b => (b.toNat : Int)) → l = m := by
    intro l
    induction l with
    | nil => intro m h; cases m with
      | nil => rfl
      | cons y m => simp at h
    | cons x l ih => intro m h; cases m with
      | nil => simp at h
      | cons y m =>
        simp only [List.map_cons, List.cons.injEq] at h
        have hx : x.toNat = y.toNat := by have := h.1; omega
        rw [ih m h.2, UInt8.toNat_inj.1 hx]
  have := inj _ _ h
  apply ByteArray.ext
  exact Array.toList_inj.1 this
def manyG (g : Gr) : Int × Int × Int × Int :=
  if 32 < g.acts.length then (81, 1, 32, 0)
  else if 96 < g.edges.length then (81, 2, 96, 0)
  else if 16 < g.ins.length then (81, 3, 16, 0)
  else if 16 < g.outs.length then (81, 4, 16, 0)
  else (0, 0, 0, 0)

theorem size_alloc (w : World) (o : Obj) : (w.alloc o).heap.size = w.heap.size + 1 := by
  show (w.heap.push o).size = _
  rw [Array.size_push]

theorem shape_few (tag : Int) (ps : List Int) : (shapeS tag ps).2.1.length ≤ 16 ∧ (shapeS tag ps).2.2.length ≤ 16 := by
  unfold shapeS
  split
  · rename_i ht
    split
    · rename_i hg
      rcases tag_cases ht.1 ht.2 with rfl | rfl | rfl | rfl | rfl | rfl | rfl | rfl | rfl | rfl | rfl
      · simp [rates]
      · simp [rates]
      · simp [rates]
      · obtain ⟨n, m, rfl, h1, h2, h3, h4, h5⟩ := twoS_true (ps := ps) (by simpa [goodS] using hg)
        simp [rates]; omega
      · obtain ⟨n, m, rfl, h1, h2, h3, h4, h5⟩ := twoS_true (ps := ps) (by simpa [goodS] using hg)
        simp [rates]; omega
      · obtain ⟨n, rfl, h1, h2⟩ := oneS_true (ps := ps) (k := 16) (by simpa [goodS] using hg)
        simp [rates]; omega
      · simp [rates]
      · simp [rates]
      · obtain ⟨n, rfl, h1, h2⟩ := oneS_true (ps := ps) (k := 16) (by simpa [goodS] using hg)
        simp [rates]; omega
      · simp [rates]
      · simp [rates]
    · simp
  · simp

end Go.Proofs.YtnedmonlofbahaaGreatDoor
