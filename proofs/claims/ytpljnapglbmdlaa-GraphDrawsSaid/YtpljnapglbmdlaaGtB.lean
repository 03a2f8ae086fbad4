/-
  Layer 8: a list of numbers copied.
-/
import Derived.Test.YtpljnapglbmdlaaShapeO
namespace Go.Proofs.Ytpljnapglbmdlaa
open Go Go.RowKit
set_option linter.all false
set_option maxRecDepth 100000 in
set_option maxHeartbeats 2000000 in
theorem rInts_any (ao : Option Addr) (c : Nat) (xs : List Int) (w : World) (hx : SlAt w ao (Is xs)) (hn : xs.length * 8 ≤ 140737488351232) :
    Calls Try.prog 22 #[.slice ao xs.length c] w fun e w' => ∃ ao' c', e = .returned (.slice ao' xs.length c') ∧ OwnI w' w.heap.size ao' c' xs ∧ New w w' := by
  obtain ⟨i0, hi, hz0, hz1, hz2⟩ := info_parts Try.infoInt
  go_enter Try.func22, Try.ntmps22
  go_wp2_with (at_builtin; refine wpList_app rfl _ _ 41 rfl w.heap.size 3 i0 (.int .i64 0) 1 8 Try.underlying41 hi hz0 hz1 hz2 rfl (by decide) none 0 0 [] rfl (World.ownsRow_nil _ _ _ _) ao xs.length c (Is xs) rfl (by simp) hx (oneCell_ints _ _) (by unfold maxLen; omega) (by omega) (Nat.le_refl _) ?_)
  intro ao' c' w' hown' hk' hmv _
  go_wp2
  go_ret
  exact ⟨ao', c', by simp, by unfold OwnI; simpa using hown', (New.refl w).keeps hk' (fun i hi ⟨a, ha, hb⟩ => by cases ha)⟩
end Go.Proofs.Ytpljnapglbmdlaa
