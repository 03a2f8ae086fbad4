/-
  Walks, sixth part: the words, the sums, the lists that are lent and the look at their apartness.
-/
import Derived.Test.YtohalcbhckahmaaDoorShapeA
namespace Go.Proofs.YtohalcbhckahmaaDoor
open Go Go.RowKit
set_option linter.all false

theorem oneCell_is (xs : List Int) : ∀ u ∈ Is xs, u.oneCell' = true := ints_oneCell .i64 xs

/-- What Lent hands out: a copy in a block of its own, four marks behind it. -/
def Lent (w : World) (xs : List Int) (e : Ending) (w' : World) : Prop :=
  ∃ g, e = .returned (.slice (some ⟨g, 0, none⟩) xs.length (xs.length + 4)) ∧ w.heap.size ≤ g ∧ w'.heap[g]? = some (.cells ((Is xs ++ Is [-7770777, -7770777, -7770777, -7770777]).toArray) 3 (0, 0)) ∧ New w w'

set_option maxRecDepth 100000 in
set_option maxHeartbeats 1000000 in
theorem lent_any (ao : Option Addr) (c : Nat) (xs : List Int) (w : World) (hx : SlAt w ao (Is xs)) (hn : xs.length * 8 ≤ 140737488351232) :
    Calls Tryd.prog 38 #[.slice ao xs.length c] w (Lent w xs) := by
  obtain ⟨i0, hi, hz0, hz1, hz2⟩ := info_parts Tryd.infoInt
  go_enter Tryd.func38, Tryd.ntmps38
  go_wp2_with (at_make; refine wpList_make_own _ rfl _ _ 38 rfl w.heap.size 3 i0 (.int .i64 0) 1 Tryd.underlying38 hi hz0 hz1 _ _ _ (xs.length + 4) rfl rfl ?b0 ?b1 ?b2 ?b3 ?b4)
  case b0 => simp
  case b1 => rw [hz2]; omega
  case b2 => unfold maxLen; omega
  case b3 => simp
  case b4 =>
    intro w1 hown hg
    have hnew : New w w1 := Keeps.grown hg (fun k h => by cases h)
    clear hg
    go_wp2_with ((at_builtin; refine wpList_fits rfl _ _ 38 rfl w.heap.size 3 i0 1 Tryd.underlying38 hi hz1 (by decide) _ 0 (xs.length + 4) [] rfl hown ao xs.length c (Is xs) rfl ?c0 ?c1 ?c2 ?c3 ?c5))
    case c0 => simp
    case c1 => exact hx.new hnew
    case c2 => exact oneCell_is _
    case c3 => omega
    case c5 =>
      intro w2 hown2 hk2
      have hnew2 : New w w2 := hnew.keeps hk2 (fun i hi ⟨a, ha, hb⟩ => by simp at ha; subst ha; simp at hb; omega)
      try simp only [Nat.zero_add, List.nil_append] at hown2
      clear hown hnew hk2
      go_wp2
      go_loopw [3, 4] (fun v i wr => ∃ k : Nat, k ≤ 4 ∧ i = .int .i64 k ∧ v = .slice (some ⟨w.heap.size, 0, none⟩) (xs.length + k) (xs.length + 4) ∧ wr.ownsRow w.heap.size 3 1 (.slice (some ⟨w.heap.size, 0, none⟩) (xs.length + k) (xs.length + 4)) (xs.length + k) (Is xs ++ List.replicate k (I (-7770777))) ∧ New w wr) (fun _ i _ => 4 - (intOf i).toNat)
      case atStart => exact ⟨0, by omega, rfl, rfl, by simpa using hown2, hnew2⟩
      case round =>
        clear hown2 hnew2
        obtain ⟨k, hk, rfl, rfl, hown, hnew⟩ := hrel
        by_cases hk4 : k < 4
        · have hs := hnew.size
          go_wp2_with ((at_builtin; refine wpList_fits rfl _ _ 38 rfl w.heap.size 3 i0 1 Tryd.underlying38 hi hz1 (by decide) _ (xs.length + k) (xs.length + 4) _ rfl ((Keeps.alloc (S := fun _ => False) _ _).owns hown (fun _ _ h => h)) _ 1 1 [I (-7770777)] rfl rfl ?d0 ?d1 ?d2 ?d3))
          case d0 => exact SlAt.lit _ _ _
          case d1 => intro u hu; simp at hu; subst hu; rfl
          case d2 => omega
          case d3 =>
            intro w3 hown3 hk3
            have hnew3 : New w w3 := (hnew.alloc _).keeps hk3 (fun i hi ⟨a, ha, hb⟩ => by simp at ha; subst ha; simp at hb; omega)
            clear hown hk3
            go_wp2
            go_roundw
            case rel => exact ⟨k + 1, by omega, by go_num, rfl, by simpa [List.replicate_succ', Nat.add_assoc] using hown3, hnew3⟩
            case measure => simp [intOf]; omega
        · obtain rfl : k = 4 := by omega
          have hfull := ownsRow_full hown
          clear hown
          go_wp2
          go_ret
          exact ⟨_, by simp, Nat.le_refl _, by rw [hfull]; rfl, hnew⟩

set_option maxRecDepth 100000 in
set_option maxHeartbeats 1000000 in
theorem kept_any (g : Nat) (ao : Option Addr) (c : Nat) (xs : List Int) (w : World) (hg : w.heap[g]? = some (.cells ((Is xs ++ Is [-7770777, -7770777, -7770777, -7770777]).toArray) 3 (0, 0))) (hx : SlAt w ao (Is xs)) (hn : xs.length * 8 ≤ 140737488351232) :
    Calls Tryd.prog 48 #[.slice (some ⟨g, 0, none⟩) xs.length (xs.length + 4), .slice ao xs.length c] w fun e w' => e = .returned (.bool true) ∧ ∃ n, w' = w.drewN n := by
  have hown : SlAt w (some ⟨g, 0, none⟩) (Is xs) := by
    have := (SlAt.block hg).take xs.length
    simpa using this
  have hall : ∀ k, xs.length ≤ k → k < xs.length + 4 → w.cell? ⟨g, k, none⟩ = some (I (-7770777)) := by
    intro k h1 h2
    rw [cell_of_row w g k _ _ _ hg]
    obtain ⟨j, rfl⟩ : ∃ j, k = xs.length + j := ⟨k - xs.length, by omega⟩
    have hj : j = 0 ∨ j = 1 ∨ j = 2 ∨ j = 3 := by omega
    rcases hj with rfl | rfl | rfl | rfl <;> simp [List.getElem?_append]
  have HA := Lib.hid hall
  clear hall
  go_enter Tryd.func48, Tryd.ntmps48
  go_wp2_with (go_at_call 62; refine (sameInts_any _ _ _ xs xs _ _ hown hx (by omega)).mono ?_; rw [decide_eq_true rfl]; rintro e w' ⟨rfl, n, rfl⟩)
  go_loopw [6] (fun i wr => ∃ k : Nat, xs.length ≤ k ∧ k ≤ xs.length + 4 ∧ i = .int .i64 k ∧ ∃ n, wr = w.drewN n) (fun i _ => xs.length + 4 - (intOf i).toNat)
  case atStart => exact ⟨xs.length, by omega, by omega, rfl, _, rfl⟩
  case round =>
    obtain ⟨k, hk0, hk, rfl, n, rfl⟩ := hrel
    by_cases hk4 : k < xs.length + 4
    · have hc := HA.out k hk0 hk4
      go_wp2
      go_roundw
      case rel => exact ⟨k + 1, by omega, by omega, by go_num, _, rfl⟩
      case measure => simp [intOf]; omega
    · go_wp2
      go_ret
      exact ⟨rfl, _, rfl⟩
end Go.Proofs.YtohalcbhckahmaaDoor
