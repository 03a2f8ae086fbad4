/-
  Layer 20: the document's answer: the loops.
-/
import Derived.Test.YtfmpjbiaamkobaaDoorCodeE
import Derived.Test.YtfmpjbiaamkobaaDoorMem2
namespace Go.Proofs.YtfmpjbiaamkobaaDoor
open Go Go.RowKit
set_option linter.all false

def openI (fr : List Nat) : List Int := fr.reverse.map Int.ofNat
theorem openI_push (k : Nat) (fr : List Nat) : openI (k :: fr) = openI fr ++ [(k : Int)] := by simp [openI]
theorem openI_len (fr : List Nat) : (openI fr).length = fr.length := by simp [openI]
theorem openI_at (fr : List Nat) (q : Nat) (hq : q < fr.length) : (Is (openI fr))[q]? = some (I ((fr.reverse[q]'(by simpa using hq) : Nat) : Int)) := by
  unfold Is openI
  rw [List.getElem?_map, List.getElem?_map, List.getElem?_eq_getElem (by simpa using hq)]
  rfl
theorem walkL_cons {L : Lims} {ops : List OpD} {k : Nat} (hk : k < ops.length) (fr : List Nat) : walkL L ops (ops.drop k) k fr = match stepL L ops k ops[k] fr with | .error e => .error e | .ok τ => walkL L ops (ops.drop (k + 1)) (k + 1) τ := by
  rw [List.drop_eq_getElem_cons hk]; rfl
theorem loopsE_err {L : Lims} {ops : List OpD} {e : Int} (h : walkL L ops ops 0 [] = .error e) : loopsE L ops = e := by unfold loopsE; rw [h]
theorem anyN_rev (l : List Nat) (p : Nat → Bool) : l.any p = l.reverse.any p := by simp
def Opn (w : World) (B : Nat) (v : Value) (fr : List Nat) : Prop := ∃ a c m, fr.length = m ∧ v = .slice a m c ∧ w.ownsRow B 3 1 (.slice a m c) m (Is (openI fr))
theorem openI_top (a : Nat) (r : List Nat) : (Is (openI (a :: r)))[r.length]? = some (I (a : Int)) := by
  rw [openI_push]
  unfold Is
  rw [List.map_append, List.getElem?_append_right (by simp [openI_len])]
  simp [openI_len]
theorem openI_pop (a : Nat) (r : List Nat) : (Is (openI (a :: r))).take (r.length * 1) = Is (openI r) := by
  rw [openI_push]
  unfold Is
  rw [List.map_append, List.take_append_of_le_length (by simp [openI_len]), List.take_of_length_le (by simp [openI_len])]


end Go.Proofs.YtfmpjbiaamkobaaDoor
