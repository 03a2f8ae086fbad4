/-
  Whole numbers by digits of 2 ^ 30, plain: digits, how many, sums, ten times. No program text in sight.
-/
import Derived.Test.YtmmoocbnmjmfeaaDoorLexI
namespace Go.Proofs.YtmmoocbnmjmfeaaDoor
open Go Go.RowKit
set_option linter.all false

/-- What stands from the j-th digit on. -/
def hiD (v j : Nat) : Nat := v / 1073741824 ^ j
def dig (v j : Nat) : Nat := hiD v j % 1073741824
theorem hiD_zero (v : Nat) : hiD v 0 = v := by unfold hiD; simp
theorem hiD_succ (v j : Nat) : hiD v (j + 1) = hiD v j / 1073741824 := by unfold hiD; rw [Nat.pow_succ, Nat.div_div_eq_div_mul]
theorem dig_lt (v j : Nat) : dig v j < 1073741824 := Nat.mod_lt _ (by omega)
theorem hiD_eq (v j : Nat) : hiD v j = hiD v (j + 1) * 1073741824 + dig v j := by rw [hiD_succ]; unfold dig; omega
/-- How many digits (of what has three at most). -/
def nd (v : Nat) : Nat := if v = 0 then 0 else if v < 1073741824 then 1 else if v < 1152921504606846976 then 2 else 3
theorem hiD_one (v : Nat) : hiD v 1 = v / 1073741824 := by rw [hiD_succ, hiD_zero]
theorem hiD_two (v : Nat) : hiD v 2 = v / 1152921504606846976 := by rw [hiD_succ, hiD_one]; omega
theorem hiD_three (v : Nat) : hiD v 3 = v / 1237940039285380274899124224 := by rw [hiD_succ, hiD_two]; omega
theorem hiD_zeros {v j : Nat} (h : hiD v j = 0) : ∀ d, hiD v (j + d) = 0 := by
  intro d
  induction d with
  | zero => exact h
  | succ d ih => rw [← Nat.add_assoc, hiD_succ, ih]
theorem hiD_nd {v : Nat} (hv : v < 1237940039285380274899124224) : hiD v (nd v) = 0 := by
  unfold nd
  split
  · rename_i h; rw [hiD_zero]; exact h
  · split
    · rw [hiD_one]; omega
    · split
      · rw [hiD_two]; omega
      · rw [hiD_three]; omega
theorem dig_nd {v j : Nat} (hv : v < 1237940039285380274899124224) (h : nd v ≤ j) : hiD v j = 0 ∧ dig v j = 0 := by
  have h1 : hiD v j = 0 := by
    have := hiD_zeros (hiD_nd hv) (j - nd v)
    rwa [show nd v + (j - nd v) = j by omega] at this
  exact ⟨h1, by unfold dig; rw [h1]⟩
theorem nd_le (v : Nat) : nd v ≤ 3 := by
  unfold nd
  split
  · omega
  · split
    · omega
    · split <;> omega
theorem nd_top {v : Nat} (hv : v < 1237940039285380274899124224) (h : 0 < nd v) : dig v (nd v - 1) ≠ 0 := by
  unfold nd at h ⊢
  split
  · rename_i h0; rw [if_pos h0] at h; omega
  · rename_i h0
    split
    · unfold dig; rw [show (1 - 1 : Nat) = 0 from rfl, hiD_zero]; omega
    · split
      · unfold dig; rw [show (2 - 1 : Nat) = 1 from rfl, hiD_one]; omega
      · unfold dig; rw [show (3 - 1 : Nat) = 2 from rfl, hiD_two]; omega
/-- The number of digits is told by its last one. -/
theorem nd_of {v n : Nat} (hv : v < 1237940039285380274899124224) (h0 : hiD v n = 0) (h1 : n = 0 ∨ dig v (n - 1) ≠ 0) : n = nd v := by
  rcases Nat.lt_trichotomy n (nd v) with h | h | h
  · have h2 := nd_top hv (by omega)
    have := hiD_zeros h0 (nd v - 1 - n)
    rw [show n + (nd v - 1 - n) = nd v - 1 by omega] at this
    exact absurd (by unfold dig; rw [this]) h2
  · exact h
  · rcases h1 with h1 | h1
    · omega
    · exact absurd (dig_nd hv (show nd v ≤ n - 1 by omega)).2 h1
/-- The first n digits. -/
def dgl (v n : Nat) : List Int := (List.range n).map fun j => ((dig v j : Nat) : Int)
theorem dgl_len (v n : Nat) : (dgl v n).length = n := by unfold dgl; simp
theorem dgl_get (v n j : Nat) (h : j < n) : (dgl v n)[j]? = some ((dig v j : Nat) : Int) := by
  unfold dgl
  rw [List.getElem?_map, List.getElem?_range h]; rfl
theorem dgl_succ (v n : Nat) : dgl v (n + 1) = dgl v n ++ [((dig v n : Nat) : Int)] := by unfold dgl; rw [List.range_succ, List.map_append]; rfl
theorem dgl_take (v n m : Nat) (h : m ≤ n) : (dgl v n).take m = dgl v m := by
  unfold dgl
  rw [← List.map_take, List.take_range, Nat.min_eq_left h]
def dgs (v : Nat) : List Int := dgl v (nd v)
/-- A sum, digit by digit. -/
def SumSt (x y i c : Nat) : Prop := hiD (x + y) i = hiD x i + hiD y i + c ∧ c ≤ 1
theorem SumSt.zero (x y : Nat) : SumSt x y 0 0 := ⟨by rw [hiD_zero, hiD_zero, hiD_zero]; omega, by omega⟩
theorem SumSt.step {x y i c s : Nat} (h : SumSt x y i c) (hs : s = c + dig x i + dig y i) : s % 1073741824 = dig (x + y) i ∧ SumSt x y (i + 1) (s / 1073741824) := by
  obtain ⟨h1, h2⟩ := h
  have ex := hiD_eq x i
  have ey := hiD_eq y i
  have lx := dig_lt x i
  have ly := dig_lt y i
  have e : hiD (x + y) i = (hiD x (i + 1) + hiD y (i + 1)) * 1073741824 + s := by omega
  refine ⟨?_, ?_, by omega⟩
  · unfold dig; rw [e]; omega
  · rw [hiD_succ, e]; omega
/-- Ten times, digit by digit. -/
def TenSt (x i c : Nat) : Prop := hiD (x * 10) i = hiD x i * 10 + c ∧ c < 10
theorem TenSt.zero (x : Nat) : TenSt x 0 0 := ⟨by rw [hiD_zero, hiD_zero]; omega, by omega⟩
theorem TenSt.step {x i c s : Nat} (h : TenSt x i c) (hs : s = c + dig x i * 10) : s % 1073741824 = dig (x * 10) i ∧ TenSt x (i + 1) (s / 1073741824) := by
  obtain ⟨h1, h2⟩ := h
  have ex := hiD_eq x i
  have lx := dig_lt x i
  have e : hiD (x * 10) i = (hiD x (i + 1) * 10) * 1073741824 + s := by omega
  refine ⟨?_, ?_, by omega⟩
  · unfold dig; rw [e]; omega
  · rw [hiD_succ, e]; omega
end Go.Proofs.YtmmoocbnmjmfeaaDoor
