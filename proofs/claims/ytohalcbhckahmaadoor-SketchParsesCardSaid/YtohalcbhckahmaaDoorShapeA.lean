/-
  Walks of the small functions of layer 6 and of the lists that both sides share: what each call returns, and what it keeps.
-/
import Derived.Test.YtohalcbhckahmaaDoorChecked
import Derived.Test.YtohalcbhckahmaaDoorMem
import Derived.Outline
import Derived.Deep.DeepMust
namespace Go.Proofs.YtohalcbhckahmaaDoor
open Go Go.RowKit
set_option linter.all false

abbrev I (n : Int) : Value := .int .i64 n
abbrev Is (xs : List Int) : List Value := xs.map (Value.int .i64)

theorem Tryd.infoInt : (Tryd.prog.info? 3).map (fun i => (i.zero, i.size, i.bytes)) = some (some (.int .i64 0), 1, 8) := by kernel_rfl

/-- An owned list of ints. -/
def OwnI (w : World) (B : Nat) (ao : Option Addr) (c : Nat) (xs : List Int) : Prop := w.ownsRow B 3 1 (.slice ao xs.length c) xs.length (Is xs)

theorem OwnI.sl {w : World} {B : Nat} {ao : Option Addr} {c : Nat} {xs : List Int} (h : OwnI w B ao c xs) : SlAt w ao (Is xs) := SlAt.of_owns h
theorem OwnI.new {w w' : World} {B : Nat} {ao : Option Addr} {c : Nat} {xs : List Int} (h : OwnI w B ao c xs) (k : New w w') : OwnI w' B ao c xs := k.owns h
theorem OwnI.lt {w : World} {B : Nat} {ao : Option Addr} {c : Nat} {xs : List Int} (h : OwnI w B ao c xs) : ∀ a, ao = some a → B ≤ a.block ∧ a.block < w.heap.size := fun a ha =>
  World.ownsRow.lt h a.block (by subst ha; rfl)

theorem Is_at {w : World} {ao : Option Addr} {xs : List Int} (h : SlAt w ao (Is xs)) {i : Nat} (hi : i < xs.length) :
    ∃ b off, ao = some ⟨b, off, none⟩ ∧ w.cell? ⟨b, off + i, none⟩ = some (.int .i64 xs[i]) := by
  obtain ⟨b, off, e, c⟩ := h.at (i := i) (by simpa using hi)
  exact ⟨b, off, e, by rw [c]; simp⟩

set_option maxHeartbeats 400000 in
theorem sameInts_any (w : World) (ao bo : Option Addr) (xs ys : List Int) (c d : Nat) (hx : SlAt w ao (Is xs)) (hy : SlAt w bo (Is ys))
   (lx : xs.length ≤ 9223372036854775807) :
    Calls Tryd.prog 62 #[.slice ao xs.length c, .slice bo ys.length d] w fun e w' => e = .returned (.bool (decide (xs = ys))) ∧ ∃ n, w' = w.drewN n := by
  by_cases hl : xs.length = ys.length
  · have hl' : ((xs.length : Int) != (ys.length : Int)) = false := by simp [hl]
    have HL := Lib.hid hl
    clear hl
    have hle : xs.length ≤ ys.length := by have := HL.out; omega
    have hge : ys.length ≤ xs.length := by have := HL.out; omega
    go_enter Tryd.func62, Tryd.ntmps62
    go_wp2
    go_loopw [5] (fun i wr => ∃ k : Nat, k ≤ xs.length ∧ i = .int .i64 k ∧ (∀ j, j < k → xs[j]? = ys[j]?) ∧ ∃ n, wr = w.drewN n) (fun i _ => xs.length - (intOf i).toNat)
    case atStart => exact ⟨0, by omega, rfl, by omega, 0, rfl⟩
    case round =>
      obtain ⟨k, hk, rfl, hall, n, rfl⟩ := hrel
      have HA := Lib.hid hall
      clear hall
      by_cases hkl : k < xs.length
      · obtain ⟨b, off, rfl, hc⟩ := Is_at hx hkl
        obtain ⟨b', off', rfl, hc'⟩ := Is_at hy (i := k) (by omega)
        go_wp2
        go_quiet (fail)
        go_wp2
        · have hne : (xs[k] != ys[k]) = true := by assumption
          go_ret
          refine ⟨?_, n + nq, by simp⟩
          have : xs ≠ ys := by rintro rfl; simp at hne
          simp [this]
        · have hne : (xs[k] != ys[k]) = false := by assumption
          go_roundw
          case rel =>
            refine ⟨k+1, by omega, by go_num, ?_, _, rfl⟩
            intro j hj
            by_cases e : j < k
            · exact HA.out j e
            · obtain rfl : j = k := by omega
              simp at hne
              rw [List.getElem?_eq_getElem hkl, List.getElem?_eq_getElem (by omega), hne]
          case measure => simp [intOf]; omega
      · go_wp2
        go_ret
        refine ⟨?_, _, rfl⟩
        have : xs = ys := by
          apply List.ext_getElem?
          intro i
          by_cases e : i < k
          · exact HA.out i e
          · rw [List.getElem?_eq_none (by omega), List.getElem?_eq_none (by omega)]
        simp [this]
  · have hl' : ((xs.length : Int) != (ys.length : Int)) = true := by simp; omega
    go_enter Tryd.func62, Tryd.ntmps62
    go_wp2
    go_ret
    refine ⟨?_, 0, rfl⟩
    have : xs ≠ ys := by rintro rfl; exact hl rfl
    simp [this]


end Go.Proofs.YtohalcbhckahmaaDoor
