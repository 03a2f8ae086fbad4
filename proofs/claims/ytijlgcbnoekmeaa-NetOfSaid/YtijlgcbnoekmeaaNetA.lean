/-
  Layer 10: arcs in memory; the walks of both Checks.
-/
import Derived.Test.YtijlgcbnoekmeaaChecked
import Derived.Test.YtijlgcbnoekmeaaMem
import Derived.Test.YtijlgcbnoekmeaaShapeA
import Derived.Test.YtijlgcbnoekmeaaNetP
import Derived.Outline
import Derived.Deep.DeepMust
namespace Go.Proofs.Ytijlgcbnoekmeaa
open Go Go.RowKit
set_option linter.all false

theorem ret_b {a b : Bool} (h : a = b) : Ending.returned (.bool a) = .returned (.bool b) := by rw [h]
theorem ret_i {a b : Int} (h : a = b) : Ending.returned (.int .i64 a) = .returned (.int .i64 b) := by rw [h]

def arcCells (a : ArcD) : List Value := [I a.fr, I a.dst, I a.give, I a.take, I a.start]
def arcsCells (l : List ArcD) : List Value := l.flatMap arcCells

theorem arcsCells_len (l : List ArcD) : (arcsCells l).length = l.length * 5 := by
  induction l with
  | nil => rfl
  | cons x r ih =>
    show (arcCells x ++ arcsCells r).length = _
    rw [List.length_append, ih, List.length_cons]; simp [arcCells]; omega

theorem arcsCells_at (l : List ArcD) : ∀ (i f : Nat) (hi : i < l.length), f < 5 → (arcsCells l)[i * 5 + f]? = (arcCells l[i])[f]? := by
  induction l with
  | nil => intro i f hi; simp at hi
  | cons x r ih =>
    intro i f hi hf
    show (arcCells x ++ arcsCells r)[i * 5 + f]? = _
    cases i with
    | zero =>
      rw [List.getElem?_append_left (by simp [arcCells]; omega)]; simp
    | succ i =>
      rw [List.getElem?_append_right (by simp [arcCells]; omega)]
      have e : (i + 1) * 5 + f - (arcCells x).length = i * 5 + f := by simp [arcCells]; omega
      rw [e, ih i f (by simpa using hi) hf]; simp

theorem arcs_at {w : World} {ao : Option Addr} {l : List ArcD} (h : SlAt w ao (arcsCells l)) {i : Nat} (hi : i < l.length) :
    ∃ b off, ao = some ⟨b, off, none⟩ ∧ w.cell? ⟨b, off + i * 5, none⟩ = some (I l[i].fr) ∧ w.cell? ⟨b, off + i * 5 + 1, none⟩ = some (I l[i].dst) ∧
      w.cell? ⟨b, off + i * 5 + 2, none⟩ = some (I l[i].give) ∧ w.cell? ⟨b, off + i * 5 + 3, none⟩ = some (I l[i].take) ∧ w.cell? ⟨b, off + i * 5 + 4, none⟩ = some (I l[i].start) := by
  have hl := arcsCells_len l
  obtain ⟨b, off, e, _⟩ := h (i * 5) (by omega)
  have key : ∀ f, f < 5 → w.cell? ⟨b, off + i * 5 + f, none⟩ = (arcCells l[i])[f]? := by
    intro f hf
    obtain ⟨b', off', e', c⟩ := h.at (i := i * 5 + f) (by omega)
    rw [e] at e'
    simp only [Option.some.injEq, Addr.mk.injEq, and_true] at e'
    obtain ⟨rfl, rfl⟩ := e'
    rw [Nat.add_assoc, c, ← arcsCells_at l i f hi hf]
    exact (List.getElem?_eq_getElem _).symm
  exact ⟨b, off, e, key 0 (by omega), key 1 (by omega), key 2 (by omega), key 3 (by omega), key 4 (by omega)⟩

theorem refNode_any (nodes v : Int) (s : Value) (w : World) (hs : s.oneCell' = true) :
    Calls Try.prog 30 #[.agg #[I nodes, s], I v] w fun e w' => e = .returned (.bool (decide (0 ≤ v ∧ v < nodes))) ∧ New w w' := by
  by_cases h1 : 0 ≤ v
  · by_cases h2 : v < nodes
    · have hd : (0 ≤ v ∧ v < nodes) := ⟨h1, h2⟩
      have HD := Lib.hid hd; clear hd
      go_enter Try.func30, Try.ntmps30
      go_wp2
      go_ret
      exact ⟨ret_b (by simp [HD.out.1, HD.out.2]), Keeps.alloc _ _⟩
    · have hd : ¬ (0 ≤ v ∧ v < nodes) := fun h => h2 h.2
      have HD := Lib.hid hd; clear hd
      go_enter Try.func30, Try.ntmps30
      go_wp2
      go_ret
      exact ⟨ret_b (by simp; omega), Keeps.alloc _ _⟩
  · go_enter Try.func30, Try.ntmps30
    go_wp2
    go_ret
    exact ⟨ret_b (by simp; omega), Keeps.alloc _ _⟩

theorem refRate_any (v : Int) (w : World) :
    Calls Try.prog 31 #[I v] w fun e w' => e = .returned (.bool (decide (1 ≤ v ∧ v ≤ 64))) ∧ w' = w := by
  by_cases h1 : 1 ≤ v
  · go_enter Try.func31, Try.ntmps31
    go_wp2
    go_ret
    exact ⟨ret_b (by simp [h1]), rfl⟩
  · go_enter Try.func31, Try.ntmps31
    go_wp2
    go_ret
    exact ⟨ret_b (by simp; omega), rfl⟩

set_option maxRecDepth 100000 in
set_option maxHeartbeats 1000000 in
theorem netCheck_any (nodes : Int) (ao : Option Addr) (c : Nat) (arcs : List ArcD) (w : World) (hx : SlAt w ao (arcsCells arcs)) (hl : arcs.length ≤ 9223372036854775807) :
    Calls Try.prog 13 #[.agg #[I nodes, .slice ao arcs.length c]] w fun e w' => e = .returned (I (netErr nodes arcs)) ∧ New w w' := by
  by_cases h1 : nodes < 1
  · have he : netErr nodes arcs = 100 := by unfold netErr; rw [if_pos (.inl h1)]
    have HE := Lib.hid he; clear he
    go_enter Try.func13, Try.ntmps13
    go_wp2
    go_ret
    exact ⟨ret_i HE.out.symm, Keeps.alloc _ _⟩
  by_cases h2 : 32 < nodes
  · have he : netErr nodes arcs = 100 := by unfold netErr; rw [if_pos (.inr h2)]
    have HE := Lib.hid he; clear he
    go_enter Try.func13, Try.ntmps13
    go_wp2
    go_ret
    exact ⟨ret_i HE.out.symm, Keeps.alloc _ _⟩
  by_cases h3 : 96 < arcs.length
  · have he : netErr nodes arcs = 81 := by unfold netErr; rw [if_neg (by omega), if_pos h3]
    have HE := Lib.hid he; clear he
    go_enter Try.func13, Try.ntmps13
    go_wp2
    go_ret
    exact ⟨ret_i HE.out.symm, Keeps.alloc _ _⟩
  have he : netErr nodes arcs = arcsErr nodes arcs := by unfold netErr; rw [if_neg (by omega), if_neg h3]
  have HE := Lib.hid he; clear he
  go_enter Try.func13, Try.ntmps13
  go_wp2
  go_loopw [20] (fun i wr => ∃ k : Nat, k ≤ arcs.length ∧ i = .int .i64 k ∧ (∀ j (h : j < arcs.length), j < k → arcErr nodes arcs[j] = 0) ∧ New (w.alloc (.cells #[I nodes, .slice ao arcs.length c] 24)) wr) (fun i _ => arcs.length - (intOf i).toNat)
  case atStart => exact ⟨0, by omega, rfl, by omega, New.refl _⟩
  case round =>
    obtain ⟨k, hk, rfl, hall, hnew⟩ := hrel
    have HA := Lib.hid hall
    clear hall
    have hbox := hnew.cell (p := ⟨w.heap.size, 0, none⟩) (v := I nodes) (by simp)
    have hx' := (hx.new (Keeps.alloc w _)).new hnew
    have hsz : w.heap.size < wr.heap.size := by have := hnew.size; simp at this; omega
    by_cases hk1 : k < arcs.length
    · obtain ⟨b, off, rfl, q0, q1, q2, q3, q4⟩ := arcs_at hx' hk1
      generalize hae : arcs[k] = a at q0 q1 q2 q3 q4
      have HAE := Lib.hid hae
      clear hae
      have hbad : arcErr nodes a ≠ 0 → netErr nodes arcs = arcErr nodes a := fun h => by
        rw [HE.out, ← HAE.out]
        exact arcsErr_at hk1 (fun j hj => HA.out j (by omega) hj) (by rw [HAE.out]; exact h)
      have HB := Lib.hid hbad
      clear hbad
      have hgood : arcErr nodes a = 0 → ∀ j (h : j < arcs.length), j < k + 1 → arcErr nodes arcs[j] = 0 := fun h j hj hjk => by
        by_cases e : j < k
        · exact HA.out j hj e
        · obtain rfl : j = k := by omega
          rw [HAE.out]; exact h
      have HG := Lib.hid hgood
      clear hgood
      have hn1 : New w wr := New.trans (Keeps.alloc w _) hnew
      have hn2 : New w (wr.alloc (.cells #[I a.fr, I a.dst, I a.give, I a.take, I a.start] 36)) := hn1.alloc _
      go_wp2
      all_goals first
        | (go_ret; have hz : arcErr nodes a = 100 := (by unfold arcErr; (repeat' split) <;> omega); exact ⟨ret_i (by rw [HB.out (by omega)]; exact hz.symm), hn2⟩)
        | (go_ret; have hz : arcErr nodes a = 101 := (by unfold arcErr; (repeat' split) <;> omega); exact ⟨ret_i (by rw [HB.out (by omega)]; exact hz.symm), hn2⟩)
        | (go_ret; have hz : arcErr nodes a = 88 := (by unfold arcErr; (repeat' split) <;> omega); exact ⟨ret_i (by rw [HB.out (by omega)]; exact hz.symm), hn2⟩)
        | skip
      all_goals
        have hz : arcErr nodes a = 0 := by unfold arcErr; (repeat' split) <;> omega
        go_roundw
        case rel => exact ⟨k + 1, by omega, by go_num, HG.out hz, hnew.alloc _⟩
        case measure => simp [intOf]; omega
    · have hn1 : New w wr := New.trans (Keeps.alloc w _) hnew
      have hz : netErr nodes arcs = 0 := by
        rw [HE.out]
        refine arcsErr_zero (fun a ha => ?_)
        obtain ⟨j, hj, rfl⟩ := List.getElem_of_mem ha
        exact HA.out j hj (by omega)
      have HZ := Lib.hid hz
      clear hz
      go_wp2
      go_ret
      exact ⟨ret_i HZ.out.symm, hn1⟩


end Go.Proofs.Ytijlgcbnoekmeaa
