/-
  Walks, second part: shape's own lists, the reference's tests on parameters, the lists that are lent.
-/
import Derived.Test.YtfmpjbiaamkobaaDoorShapeA
namespace Go.Proofs.YtfmpjbiaamkobaaDoor
open Go Go.RowKit
set_option linter.all false

/-- shape: ports(rates...): a copy. -/
theorem shPorts_any (ao : Option Addr) (c : Nat) (xs : List Int) (w : World) (hx : SlAt w ao (Is xs)) (hn : xs.length ≤ 64) :
    Calls Tryd.prog 28 #[.slice ao xs.length c] w fun e w' => ∃ ao' c', e = .returned (.slice ao' xs.length c') ∧ OwnI w' w.heap.size ao' c' xs ∧ New w w' := by
  obtain ⟨i0, hi, hz0, hz1, hz2⟩ := info_parts Tryd.infoInt
  have hx2 : ∀ o, SlAt (w.alloc o) ao (Is xs) := fun o => hx.new (Keeps.alloc w o)
  go_enter Tryd.func28, Tryd.ntmps28
  go_wp2_with ((at_builtin; refine wpList_app rfl _ _ 50 rfl w.heap.size 3 i0 (.int .i64 0) 1 8 Tryd.underlying50 hi hz0 hz1 hz2 rfl (by decide) _ 0 0 [] rfl ?cc ao xs.length c (Is xs) rfl ?c00 ?c0 ?c1 ?c2 ?c3 ?c4 ?c5))
  case cc => exact World.ownsRow_made (size := 1) _ #[] 0 (Nat.le_refl _) (by decide) (by simp)
  case c00 => simp
  case c0 => exact hx2 _
  case c1 => exact oneCell_ints _ _
  case c2 => unfold maxLen; omega
  case c3 => omega
  case c4 => simp
  case c5 =>
    intro ao' c' w' hown' hk' hmv _
    go_wp2
    go_ret
    refine ⟨ao', c', by simp, by unfold OwnI; simpa using hown', (New.refl w).trans (Keeps.trans (Keeps.alloc w _) hk' (fun i hi ⟨a, ha, hb⟩ => ?_))⟩
    simp only [Option.some.injEq] at ha
    subst ha
    simp at hb; omega

set_option maxHeartbeats 400000 in
/-- shape: same(n, rate). -/
theorem shSame_any (n : Nat) (r : Int) (w : World) (hn : n ≤ 64) :
    Calls Tryd.prog 29 #[I n, I r] w fun e w' => ∃ ao c, e = .returned (.slice ao n c) ∧ OwnI w' w.heap.size ao c (List.replicate n r) ∧ New w w' := by
  obtain ⟨i0, hi, hz0, hz1, hz2⟩ := info_parts Tryd.infoInt
  go_enter Tryd.func29, Tryd.ntmps29
  go_wp2_with (at_make; refine wpList_make_full _ rfl _ _ 50 rfl w.heap.size 3 i0 (.int .i64 0) 1 Tryd.underlying50 hi hz0 hz1 _ _ _ _ n rfl rfl rfl rfl ?b1 ?b2 ?b3 ?b4)
  case b1 => rw [hz2]; omega
  case b2 => unfold maxLen; omega
  case b3 => simp
  case b4 =>
    intro w1 hown hg
    rw [toList_madeCells_one] at hown
    have hnew : New w w1 := Keeps.grown hg (fun k h => by cases h)
    go_wp2
    go_loopw [11] (fun i wr => ∃ k : Nat, k ≤ n ∧ i = .int .i64 k ∧ wr.ownsRow w.heap.size 3 1 (.slice (some ⟨w.heap.size, 0, none⟩) n n) n (List.replicate k (I r) ++ List.replicate (n - k) (I 0)) ∧ New w wr) (fun i _ => n - (intOf i).toNat)
    case atStart => exact ⟨0, Nat.zero_le _, rfl, by simpa using hown, hnew⟩
    case round =>
      clear hown hnew hg
      obtain ⟨k, hk, rfl, hown, hnew⟩ := hrel
      by_cases hkn : k < n
      · have hcell : wr.cell? ⟨w.heap.size, k, none⟩ = some (I 0) := by
          rw [hown.cellAt k (by omega)]; simp [List.getElem?_append]; rw [List.getElem?_replicate, if_pos (by omega)]
        have hfz := hown.frozenAt k
        have hst := hown.stored k (I r)
        go_wp2
        go_roundw
        case rel =>
          refine ⟨k + 1, by omega, by go_num, ?_, hnew.setCell (by simp) _⟩
          have e : (List.replicate k (I r) ++ List.replicate (n - k) (I 0)).set k (I r) = List.replicate (k + 1) (I r) ++ List.replicate (n - (k + 1)) (I 0) := by
            rw [List.set_append_right _ _ (by simp)]
            obtain ⟨m, hm⟩ : ∃ m, n - k = m + 1 := ⟨n - k - 1, by omega⟩
            have hm' : n - (k + 1) = m := by omega
            rw [hm, hm', List.replicate_succ (n := m), List.replicate_succ' (n := k)]; simp
          rw [← e]; exact hst.1
        case measure => simp [intOf]; omega
      · obtain rfl : k = n := by omega
        go_wp2
        go_ret
        exact ⟨_, _, rfl, by unfold OwnI; simpa using hown, hnew⟩

theorem ret_bool {a b : Bool} (h : a = b) : Ending.returned (.bool a) = .returned (.bool b) := by rw [h]

/-- ref: one(params, most). -/
def oneS (ps : List Int) (most : Int) : Bool := match ps with
  | [n] => decide (1 ≤ n ∧ n ≤ most)
  | _ => false

/-- ref: two(params). -/
def twoS (ps : List Int) : Bool := match ps with
  | [n, m] => decide (1 ≤ n ∧ n ≤ 16 ∧ 1 ≤ m ∧ m ≤ 64 ∧ n * m ≤ 64)
  | _ => false

/-- ref: good(tag, params). -/
def goodS (tag : Int) (ps : List Int) : Bool :=
  if tag = 1 then decide (1 ≤ ps.length ∧ ps.length ≤ 16)
  else if tag = 2 ∨ tag = 3 ∨ tag = 11 then oneS ps 64
  else if tag = 4 ∨ tag = 5 then twoS ps
  else if tag = 6 ∨ tag = 9 then oneS ps 16
  else if tag = 10 then decide (ps.length = 2)
  else decide (ps.length = 0)


end Go.Proofs.YtfmpjbiaamkobaaDoor
