/-
  Walks of the small functions of layer 6 and of the lists that both sides share: what each call returns, and what it keeps.
-/
import Derived.Test.YtijlgcbnoekmeaaChecked
import Derived.Test.YtijlgcbnoekmeaaMem
import Derived.Outline
import Derived.Deep.DeepMust
namespace Go.Proofs.Ytijlgcbnoekmeaa
open Go Go.RowKit
set_option linter.all false

abbrev I (n : Int) : Value := .int .i64 n
abbrev Is (xs : List Int) : List Value := xs.map (Value.int .i64)

theorem Try.infoInt : (Try.prog.info? 3).map (fun i => (i.zero, i.size, i.bytes)) = some (some (.int .i64 0), 1, 8) := by kernel_rfl

/-- An owned list of ints. -/
def OwnI (w : World) (B : Nat) (ao : Option Addr) (c : Nat) (xs : List Int) : Prop := w.ownsRow B 3 1 (.slice ao xs.length c) xs.length (Is xs)

theorem OwnI.sl {w : World} {B : Nat} {ao : Option Addr} {c : Nat} {xs : List Int} (h : OwnI w B ao c xs) : SlAt w ao (Is xs) := SlAt.of_owns h
theorem OwnI.new {w w' : World} {B : Nat} {ao : Option Addr} {c : Nat} {xs : List Int} (h : OwnI w B ao c xs) (k : New w w') : OwnI w' B ao c xs := k.owns h
theorem OwnI.lt {w : World} {B : Nat} {ao : Option Addr} {c : Nat} {xs : List Int} (h : OwnI w B ao c xs) : ∀ a, ao = some a → B ≤ a.block ∧ a.block < w.heap.size := fun a ha =>
  World.ownsRow.lt h a.block (by subst ha; rfl)

theorem Is_at {w : World} {ao : Option Addr} {xs : List Int} (h : SlAt w ao (Is xs)) {i : Nat} (hi : i < xs.length) :
    ∃ b off, ao = some ⟨b, off, none⟩ ∧ w.cell? ⟨b, off + i, none⟩ = some (.int .i64 xs[i]) := by
  obtain ⟨b, off, e, c⟩ := h.at (i := i) (by simpa using hi)
  exact ⟨b, off, e, by rw [c]; simp⟩

set_option maxHeartbeats 400000 in
theorem sameInts_any (w : World) (ao bo : Option Addr) (xs ys : List Int) (c d : Nat) (hx : SlAt w ao (Is xs)) (hy : SlAt w bo (Is ys))
   (lx : xs.length ≤ 9223372036854775807) :
    Calls Try.prog 25 #[.slice ao xs.length c, .slice bo ys.length d] w fun e w' => e = .returned (.bool (decide (xs = ys))) ∧ ∃ n, w' = w.drewN n := by
  by_cases hl : xs.length = ys.length
  · have hl' : ((xs.length : Int) != (ys.length : Int)) = false := by simp [hl]
    have HL := Lib.hid hl
    clear hl
    have hle : xs.length ≤ ys.length := by have := HL.out; omega
    have hge : ys.length ≤ xs.length := by have := HL.out; omega
    go_enter Try.func25, Try.ntmps25
    go_wp2
    go_loopw [5] (fun i wr => ∃ k : Nat, k ≤ xs.length ∧ i = .int .i64 k ∧ (∀ j, j < k → xs[j]? = ys[j]?) ∧ ∃ n, wr = w.drewN n) (fun i _ => xs.length - (intOf i).toNat)
    case atStart => exact ⟨0, by omega, rfl, by omega, 0, rfl⟩
    case round =>
      obtain ⟨k, hk, rfl, hall, n, rfl⟩ := hrel
      have HA := Lib.hid hall
      clear hall
      by_cases hkl : k < xs.length
      · obtain ⟨b, off, rfl, hc⟩ := Is_at hx hkl
        obtain ⟨b', off', rfl, hc'⟩ := Is_at hy (i := k) (by omega)
        go_wp2
        go_quiet (fail)
        go_wp2
        · have hne : (xs[k] != ys[k]) = true := by assumption
          go_ret
          refine ⟨?_, n + nq, by simp⟩
          have : xs ≠ ys := by rintro rfl; simp at hne
          simp [this]
        · have hne : (xs[k] != ys[k]) = false := by assumption
          go_roundw
          case rel =>
            refine ⟨k+1, by omega, by go_num, ?_, _, rfl⟩
            intro j hj
            by_cases e : j < k
            · exact HA.out j e
            · obtain rfl : j = k := by omega
              simp at hne
              rw [List.getElem?_eq_getElem hkl, List.getElem?_eq_getElem (by omega), hne]
          case measure => simp [intOf]; omega
      · go_wp2
        go_ret
        refine ⟨?_, _, rfl⟩
        have : xs = ys := by
          apply List.ext_getElem?
          intro i
          by_cases e : i < k
          · exact HA.out i e
          · rw [List.getElem?_eq_none (by omega), List.getElem?_eq_none (by omega)]
        simp [this]
  · have hl' : ((xs.length : Int) != (ys.length : Int)) = true := by simp; omega
    go_enter Try.func25, Try.ntmps25
    go_wp2
    go_ret
    refine ⟨?_, 0, rfl⟩
    have : xs ≠ ys := by rintro rfl; exact hl rfl
    simp [this]

theorem within_any (n m : Int) (w : World) :
    Calls Try.prog 49 #[I n, I m] w fun e w' => e = .returned (.bool (decide (1 ≤ n ∧ n ≤ m))) ∧ w' = w := by
  by_cases h1 : 1 ≤ n
  · by_cases h2 : n ≤ m
    all_goals
      go_enter Try.func49, Try.ntmps49
      go_wp2
      go_ret
      exact ⟨by simp [h1, h2]; try omega, rfl⟩
  · go_enter Try.func49, Try.ntmps49
    go_wp2
    go_ret
    exact ⟨by simp; omega, rfl⟩

set_option maxHeartbeats 400000 in
/-- ref: ports(n, rate). -/
theorem refPorts_any (n : Nat) (r : Int) (w : World) (hn : n ≤ 64) :
    Calls Try.prog 47 #[I n, I r] w fun e w' => ∃ ao c, e = .returned (.slice ao n c) ∧ OwnI w' w.heap.size ao c (List.replicate n r) ∧ New w w' := by
  obtain ⟨i0, hi, hz0, hz1, hz2⟩ := info_parts Try.infoInt
  go_enter Try.func47, Try.ntmps47
  go_wp2
  go_loopw [5, 6] (fun v i wr => ∃ k : Nat, k ≤ n ∧ i = .int .i64 k ∧ (∃ ao c, v = .slice ao k c ∧ wr.ownsRow w.heap.size 3 1 (.slice ao k c) k (List.replicate k (I r))) ∧ New w wr) (fun _ i _ => n - (intOf i).toNat)
  case atStart => exact ⟨0, Nat.zero_le _, rfl, ⟨_, _, rfl, World.ownsRow_nil _ _ _ _⟩, New.refl _⟩
  case round =>
    obtain ⟨k, hk, rfl, ⟨ao, c, rfl, hown⟩, hnew⟩ := hrel
    by_cases hkn : k < n
    · have hs := hnew.size
      go_wp2_with ((at_builtin; refine wpList_app rfl _ _ 37 rfl w.heap.size 3 i0 (.int .i64 0) 1 8 Try.underlying37 hi hz0 hz1 hz2 rfl (by decide) ao k c _ rfl ((Keeps.alloc (S := fun _ => False) _ _).owns hown (fun _ _ h => h)) _ 1 1 [I r] rfl rfl ?c0 ?c1 ?c2 ?c3 ?c4 ?c5))
      case c0 => exact SlAt.lit _ _ _
      case c1 => intro u hu; simp at hu; subst hu; rfl
      case c2 => unfold maxLen; omega
      case c3 => omega
      case c4 => simp; omega
      case c5 =>
        intro ao' c' w' hown' hk' hmv _
        have hnew' : New w w' := (hnew.alloc _).keeps hk' (fun i hi ⟨a, ha, hb⟩ => by
          have := World.ownsRow.lt hown a.block (by subst ha; rfl); omega)
        clear hown hk'
        go_wp2
        go_roundw
        case rel => exact ⟨k + 1, by omega, by go_num, ⟨_, _, rfl, by rw [List.replicate_succ']; exact hown'⟩, hnew'⟩
        case measure => simp [intOf]; omega
    · obtain rfl : k = n := by omega
      go_wp2
      go_ret
      exact ⟨_, _, rfl, by unfold OwnI; simpa using hown, hnew⟩

end Go.Proofs.Ytijlgcbnoekmeaa
