/-
  Walks, second part: shape's own lists, the reference's tests on parameters, the lists that are lent.
-/
import Derived.Test.YtijlgcbnoekmeaaShapeA
namespace Go.Proofs.Ytijlgcbnoekmeaa
open Go Go.RowKit
set_option linter.all false

/-- shape: ports(rates...): a copy. -/
theorem shPorts_any (ao : Option Addr) (c : Nat) (xs : List Int) (w : World) (hx : SlAt w ao (Is xs)) (hn : xs.length ≤ 64) :
    Calls Try.prog 50 #[.slice ao xs.length c] w fun e w' => ∃ ao' c', e = .returned (.slice ao' xs.length c') ∧ OwnI w' w.heap.size ao' c' xs ∧ New w w' := by
  obtain ⟨i0, hi, hz0, hz1, hz2⟩ := info_parts Try.infoInt
  have hx2 : ∀ o, SlAt (w.alloc o) ao (Is xs) := fun o => hx.new (Keeps.alloc w o)
  go_enter Try.func50, Try.ntmps50
  go_wp2_with ((at_builtin; refine wpList_app rfl _ _ 37 rfl w.heap.size 3 i0 (.int .i64 0) 1 8 Try.underlying37 hi hz0 hz1 hz2 rfl (by decide) _ 0 0 [] rfl ?cc ao xs.length c (Is xs) rfl ?c00 ?c0 ?c1 ?c2 ?c3 ?c4 ?c5))
  case cc => exact World.ownsRow_made (size := 1) _ #[] 0 (Nat.le_refl _) (by decide) (by simp)
  case c00 => simp
  case c0 => exact hx2 _
  case c1 => exact oneCell_ints _ _
  case c2 => unfold maxLen; omega
  case c3 => omega
  case c4 => simp
  case c5 =>
    intro ao' c' w' hown' hk' hmv _
    go_wp2
    go_ret
    refine ⟨ao', c', by simp, by unfold OwnI; simpa using hown', (New.refl w).trans (Keeps.trans (Keeps.alloc w _) hk' (fun i hi ⟨a, ha, hb⟩ => ?_))⟩
    simp only [Option.some.injEq] at ha
    subst ha
    simp at hb; omega

set_option maxHeartbeats 400000 in
/-- shape: same(n, rate). -/
theorem shSame_any (n : Nat) (r : Int) (w : World) (hn : n ≤ 64) :
    Calls Try.prog 51 #[I n, I r] w fun e w' => ∃ ao c, e = .returned (.slice ao n c) ∧ OwnI w' w.heap.size ao c (List.replicate n r) ∧ New w w' := by
  obtain ⟨i0, hi, hz0, hz1, hz2⟩ := info_parts Try.infoInt
  go_enter Try.func51, Try.ntmps51
  go_wp2_with (at_make; refine wpList_make_full _ rfl _ _ 37 rfl w.heap.size 3 i0 (.int .i64 0) 1 Try.underlying37 hi hz0 hz1 _ _ _ _ n rfl rfl rfl rfl ?b1 ?b2 ?b3 ?b4)
  case b1 => rw [hz2]; omega
  case b2 => unfold maxLen; omega
  case b3 => simp
  case b4 =>
    intro w1 hown hg
    rw [toList_madeCells_one] at hown
    have hnew : New w w1 := Keeps.grown hg (fun k h => by cases h)
    go_wp2
    go_loopw [11] (fun i wr => ∃ k : Nat, k ≤ n ∧ i = .int .i64 k ∧ wr.ownsRow w.heap.size 3 1 (.slice (some ⟨w.heap.size, 0, none⟩) n n) n (List.replicate k (I r) ++ List.replicate (n - k) (I 0)) ∧ New w wr) (fun i _ => n - (intOf i).toNat)
    case atStart => exact ⟨0, Nat.zero_le _, rfl, by simpa using hown, hnew⟩
    case round =>
      clear hown hnew hg
      obtain ⟨k, hk, rfl, hown, hnew⟩ := hrel
      by_cases hkn : k < n
      · have hcell : wr.cell? ⟨w.heap.size, k, none⟩ = some (I 0) := by
          rw [hown.cellAt k (by omega)]; simp [List.getElem?_append]; rw [List.getElem?_replicate, if_pos (by omega)]
        have hfz := hown.frozenAt k
        have hst := hown.stored k (I r)
        go_wp2
        go_roundw
        case rel =>
          refine ⟨k + 1, by omega, by go_num, ?_, hnew.setCell (by simp) _⟩
          have e : (List.replicate k (I r) ++ List.replicate (n - k) (I 0)).set k (I r) = List.replicate (k + 1) (I r) ++ List.replicate (n - (k + 1)) (I 0) := by
            rw [List.set_append_right _ _ (by simp)]
            obtain ⟨m, hm⟩ : ∃ m, n - k = m + 1 := ⟨n - k - 1, by omega⟩
            have hm' : n - (k + 1) = m := by omega
            rw [hm, hm', List.replicate_succ (n := m), List.replicate_succ' (n := k)]; simp
          rw [← e]; exact hst.1
        case measure => simp [intOf]; omega
      · obtain rfl : k = n := by omega
        go_wp2
        go_ret
        exact ⟨_, _, rfl, by unfold OwnI; simpa using hown, hnew⟩

theorem ret_bool {a b : Bool} (h : a = b) : Ending.returned (.bool a) = .returned (.bool b) := by rw [h]

/-- ref: one(params, most). -/
def oneS (ps : List Int) (most : Int) : Bool := match ps with
  | [n] => decide (1 ≤ n ∧ n ≤ most)
  | _ => false

theorem one_any (ao : Option Addr) (c : Nat) (ps : List Int) (m : Int) (w : World) (hx : SlAt w ao (Is ps)) (hl : ps.length ≤ 9223372036854775807) :
    Calls Try.prog 59 #[.slice ao ps.length c, I m] w fun e w' => e = .returned (.bool (oneS ps m)) ∧ w' = w := by
  by_cases h1 : ps.length = 1
  · match ps, h1 with
    | [n], _ =>
      obtain ⟨b, off, rfl, hc⟩ := Is_at hx (i := 0) (by simp)
      simp only [Nat.add_zero, List.getElem_cons_zero] at hc
      by_cases h2 : 1 ≤ n
      · by_cases h3 : n ≤ m
        all_goals
          go_enter Try.func59, Try.ntmps59
          go_wp2
          go_ret
          exact ⟨by simp [oneS, h2, h3]; try omega, rfl⟩
      · go_enter Try.func59, Try.ntmps59
        go_wp2
        go_ret
        exact ⟨by simp [oneS]; omega, rfl⟩
  · have h1' : ((ps.length : Int) == 1) = false := by simp; omega
    have e : oneS ps m = false := by
      match ps, h1 with
      | [], _ => rfl
      | _ :: _ :: _, _ => rfl
    go_enter Try.func59, Try.ntmps59
    have E := Lib.hid e
    clear e
    go_wp2
    go_ret
    exact ⟨ret_bool E.out.symm, rfl⟩


/-- ref: two(params). -/
def twoS (ps : List Int) : Bool := match ps with
  | [n, m] => decide (1 ≤ n ∧ n ≤ 16 ∧ 1 ≤ m ∧ m ≤ 64 ∧ n * m ≤ 64)
  | _ => false

theorem two_any (ao : Option Addr) (c : Nat) (ps : List Int) (w : World) (hx : SlAt w ao (Is ps)) (hl : ps.length ≤ 9223372036854775807) :
    Calls Try.prog 60 #[.slice ao ps.length c] w fun e w' => e = .returned (.bool (twoS ps)) ∧ ∃ n, w' = w.drewN n := by
  by_cases h1 : ps.length = 2
  · match ps, h1 with
    | [n, m], _ =>
      obtain ⟨b, off, rfl, hc⟩ := Is_at hx (i := 0) (by simp)
      obtain ⟨b', off', e, hc'⟩ := Is_at hx (i := 1) (by simp)
      simp only [Option.some.injEq, Addr.mk.injEq, and_true] at e
      obtain ⟨rfl, rfl⟩ := e
      simp only [Nat.add_zero, List.getElem_cons_zero, List.getElem_cons_succ] at hc hc'
      by_cases h2 : 1 ≤ n ∧ n ≤ 16 ∧ 1 ≤ m ∧ m ≤ 64
      · obtain ⟨h21, h22, h23, h24⟩ := h2
        have hb1 : 1 ≤ n * m := by have := Int.mul_le_mul h21 h23 (by omega) (by omega); simpa using this
        have hb2 : n * m ≤ 1024 := by have := Int.mul_le_mul h22 h24 (by omega) (by omega); simpa using this
        by_cases h3 : n * m ≤ 64
        all_goals
          go_enter Try.func60, Try.ntmps60
          go_wp2
          go_quiet (fail)
          go_wp2
          go_ret
          exact ⟨by simp [twoS, h21, h22, h23, h24, h3]; try omega, _, rfl⟩
      · have e2 : twoS [n, m] = false := by simp [twoS]; omega
        have E2 := Lib.hid e2
        clear e2
        go_enter Try.func60, Try.ntmps60
        go_wp2
        all_goals
          go_ret
          exact ⟨ret_bool E2.out.symm, 0, rfl⟩
  · have h1' : ((ps.length : Int) != 2) = true := by simp; omega
    have e : twoS ps = false := by
      match ps, h1 with
      | [], _ => rfl
      | [_], _ => rfl
      | _ :: _ :: _ :: _, _ => rfl
    go_enter Try.func60, Try.ntmps60
    have E := Lib.hid e
    clear e
    go_wp2
    go_ret
    exact ⟨ret_bool E.out.symm, 0, rfl⟩


/-- ref: good(tag, params). -/
def goodS (tag : Int) (ps : List Int) : Bool :=
  if tag = 1 then decide (1 ≤ ps.length ∧ ps.length ≤ 16)
  else if tag = 2 ∨ tag = 3 ∨ tag = 11 then oneS ps 64
  else if tag = 4 ∨ tag = 5 then twoS ps
  else if tag = 6 ∨ tag = 9 then oneS ps 16
  else if tag = 10 then decide (ps.length = 2)
  else decide (ps.length = 0)

theorem good_any (tag : Int) (ao : Option Addr) (c : Nat) (ps : List Int) (w : World) (h1 : 1 ≤ tag) (h2 : tag ≤ 11) (hx : SlAt w ao (Is ps)) (hl : ps.length ≤ 9223372036854775807) :
    Calls Try.prog 46 #[.int .u8 tag, .slice ao ps.length c] w fun e w' => e = .returned (.bool (goodS tag ps)) ∧ ∃ n, w' = w.drewN n := by
  have hc : tag = 1 ∨ tag = 2 ∨ tag = 3 ∨ tag = 4 ∨ tag = 5 ∨ tag = 6 ∨ tag = 7 ∨ tag = 8 ∨ tag = 9 ∨ tag = 10 ∨ tag = 11 := by omega
  clear h1 h2
  rcases hc with rfl | rfl | rfl | rfl | rfl | rfl | rfl | rfl | rfl | rfl | rfl
  all_goals
    go_enter Try.func46, Try.ntmps46
    go_wp2_with (first
      | (go_at_call 59; refine (one_any _ _ _ _ _ hx hl).mono ?_; rintro e w' ⟨rfl, rfl⟩)
      | (go_at_call 60; refine (two_any _ _ _ _ hx hl).mono ?_; rintro e w' ⟨rfl, n, rfl⟩))
  all_goals go_ret
  all_goals first
    | (refine ⟨ret_bool ?_, 0, rfl⟩; first | rfl | (simp [goodS]; done) | (simp [goodS]; omega))
    | (refine ⟨ret_bool ?_, _, rfl⟩; first | rfl | (simp [goodS]; done))
    | (refine ⟨ret_bool ?_, 0, rfl⟩; rw [Bool.eq_iff_iff]; simp [goodS]; omega)
    | (refine ⟨ret_bool ?_, 0, rfl⟩; rw [Bool.eq_iff_iff]; simp [goodS]; done)

end Go.Proofs.Ytijlgcbnoekmeaa
