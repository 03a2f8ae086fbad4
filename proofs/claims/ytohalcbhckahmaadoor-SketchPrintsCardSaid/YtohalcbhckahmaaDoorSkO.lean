/-
  Layer 5: long lists of bytes in memory; a sketch that was read, in the words the laws use.
-/
import Derived.Test.YtohalcbhckahmaaDoorSkM
import Derived.Test.YtohalcbhckahmaaDoorSkN
import Derived.Test.YtohalcbhckahmaaDoorSkU
namespace Go.Proofs.YtohalcbhckahmaaDoor
open Go Go.RowKit Go.Joins
set_option linter.all false

theorem wpList_appL {w : World} {ops : Array Oper} {rest : List Oper} {o : Oper} {a : Act} {Q : Exit → Act → World → Prop} (hgd : o.guard = none) (sl x : Operand)
    (ho : o.op = .call { callee := .builtin .append, args := #[sl, x], argTypes := #[47, 9] })
    (base : Nat) (ab : Option Addr) (cb : Nat) (Bs : List UInt8) (n : Nat) (hs : a.eval sl = .slice ab n cb) (hown : w.ownsRow base 5 1 (.slice ab n cb) n (bCells Bs)) (s : ByteArray) (hx : a.eval x = .string s)
    (hb : n + s.size ≤ 60000000) (hbase : base ≤ w.heap.size)
    (h : ∀ a' c' w', w'.ownsRow base 5 1 (.slice a' (n + s.size) c') (n + s.size) (bCells (Bs ++ s.data.toList)) → Keeps (blk ab) w w' → wpList Tryd.prog ops Q rest (a.put o.dst (.slice a' (n + s.size) c')) w') : wpList Tryd.prog ops Q (o :: rest) a w := by
  obtain ⟨i0, hi, hz0, hz1, hz2⟩ := info_parts infoByte
  refine Lib.wpList_append_own_string w hgd sl x 47 9 ho base 5 i0 Tryd.underlying47 Tryd.underlying9 hi hz0 hz1 hz2 (.slice ab n cb) n (bCells Bs) hs hown s hx (by unfold maxLen; omega) (by omega) hbase ?_
  intro v' w' h1 hg _
  obtain ⟨a', c', rfl⟩ := lx_slice h1
  refine h a' c' w' ?_ (Keeps.grown hg (fun k h => blk_of_own h.symm))
  unfold bCells
  rw [List.map_append]
  exact h1
theorem one_byte (w : World) : SlAt (w.alloc (.cells #[.int .u8 32] 5)) (some ⟨w.heap.size, 0, none⟩) (bCells [32]) := SlAt.lit w _ _
theorem bCells_one (l : List UInt8) : ∀ u ∈ bCells l, u.oneCell' = true := by
  intro u hu
  obtain ⟨b, _, rfl⟩ := List.mem_map.1 hu
  rfl
theorem bCells_app (a b : List UInt8) : bCells (a ++ b) = bCells a ++ bCells b := by unfold bCells; rw [List.map_append]
theorem looseU_get {l : List LTok} {k : Nat} (hk : k < l.length) : looseU l (k + 1) = looseU l k ++ l[k].spelt ++ (if k + 2 < l.length then [32] else []) := looseU_succ (List.getElem?_eq_getElem hk)
/-- The place of the wrong token in the text so far. -/
def wrongZ (l : List LTok) (j : Option Nat) (k : Nat) : Int := match j with
  | none => -1
  | some j => if j < k then ((looseU l j).length : Int) else -1
theorem wrongZ_none (l : List LTok) (k : Nat) : wrongZ l none k = -1 := rfl
theorem wrongZ_some (l : List LTok) (j k : Nat) : wrongZ l (some j) k = if j < k then ((looseU l j).length : Int) else -1 := rfl
theorem wrongZ_ne {l : List LTok} {j k : Nat} (h : j ≠ k) : wrongZ l (some j) (k + 1) = wrongZ l (some j) k := by
  rw [wrongZ_some, wrongZ_some]
  by_cases h1 : j < k
  · rw [if_pos h1, if_pos (by omega)]
  · rw [if_neg h1, if_neg (by omega)]
theorem wrongZ_at {l : List LTok} {j : Nat} : wrongZ l (some j) j = -1 ∧ wrongZ l (some j) (j + 1) = ((looseU l j).length : Int) := by
  rw [wrongZ_some, wrongZ_some, if_neg (by omega), if_pos (by omega)]
  exact ⟨rfl, rfl⟩
theorem wrongZ_end {l : List LTok} {j : Nat} (h : j < l.length) : wrongZ l (some j) l.length = ((looseU l j).length : Int) := by
  rw [wrongZ_some, if_pos h]
theorem skL_bare (x : LSk) : (skL x.mem).bare = x.bare := by
  unfold skL LSk.mem LSk.bare
  simp only [List.map_map, arr_back]
  congr 1
theorem printA_two {s : Sk} (hn : nameB s.name = true) (hr : s.items.all rightB = true) : (1048576 < (printW s).length ∧ printA s = ([], 2)) ∨ ((printW s).length ≤ 1048576 ∧ printA s = (printW s, 0)) := by
  unfold printA
  rw [hn, hr, if_neg (by simp)]
  by_cases h : 1048576 < (printW s).length
  · rw [if_pos h]; exact .inl ⟨h, rfl⟩
  · rw [if_neg h]; exact .inr ⟨by omega, rfl⟩
end Go.Proofs.YtohalcbhckahmaaDoor
