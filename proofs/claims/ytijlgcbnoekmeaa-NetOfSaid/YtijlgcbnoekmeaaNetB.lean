/-
  Layer 10: the reference's Check; copies and comparisons of nets.
-/
import Derived.Test.YtijlgcbnoekmeaaNetA
namespace Go.Proofs.Ytijlgcbnoekmeaa
open Go Go.RowKit
set_option linter.all false

/-- The cells that the reference's Check reads in a round. -/
def C7 (w : World) (p q : Nat) (a : ArcD) (n : Int) (s : Value) : Prop :=
  w.cell? ⟨p, 0, none⟩ = some (I n) ∧ w.cell? ⟨p, 1, none⟩ = some s ∧ w.cell? ⟨q, 0, none⟩ = some (I a.fr) ∧ w.cell? ⟨q, 1, none⟩ = some (I a.dst) ∧ w.cell? ⟨q, 2, none⟩ = some (I a.give) ∧ w.cell? ⟨q, 3, none⟩ = some (I a.take) ∧ w.cell? ⟨q, 4, none⟩ = some (I a.start)
theorem C7.new {w w' : World} {p q : Nat} {a : ArcD} {n : Int} {s : Value} (h : C7 w p q a n s) (k : New w w') : C7 w' p q a n s :=
  ⟨k.cell h.1, k.cell h.2.1, k.cell h.2.2.1, k.cell h.2.2.2.1, k.cell h.2.2.2.2.1, k.cell h.2.2.2.2.2.1, k.cell h.2.2.2.2.2.2⟩

set_option maxRecDepth 100000 in
set_option maxHeartbeats 2000000 in
theorem refNetCheck_any (nodes : Int) (ao : Option Addr) (c : Nat) (arcs : List ArcD) (w : World) (hx : SlAt w ao (arcsCells arcs)) (hl : arcs.length ≤ 9223372036854775807) :
    Calls Try.prog 11 #[.agg #[I nodes, .slice ao arcs.length c]] w fun e w' => e = .returned (I (netErr nodes arcs)) ∧ New w w' := by
  by_cases h1 : nodes < 1
  · have he : netErr nodes arcs = 100 := by unfold netErr; rw [if_pos (.inl h1)]
    have HE := Lib.hid he; clear he
    go_enter Try.func11, Try.ntmps11
    go_wp2
    go_ret
    exact ⟨ret_i HE.out.symm, Keeps.alloc _ _⟩
  by_cases h2 : 32 < nodes
  · have he : netErr nodes arcs = 100 := by unfold netErr; rw [if_pos (.inr h2)]
    have HE := Lib.hid he; clear he
    go_enter Try.func11, Try.ntmps11
    go_wp2
    go_ret
    exact ⟨ret_i HE.out.symm, Keeps.alloc _ _⟩
  by_cases h3 : 96 < arcs.length
  · have he : netErr nodes arcs = 81 := by unfold netErr; rw [if_neg (by omega), if_pos h3]
    have HE := Lib.hid he; clear he
    go_enter Try.func11, Try.ntmps11
    go_wp2
    go_ret
    exact ⟨ret_i HE.out.symm, Keeps.alloc _ _⟩
  have he : netErr nodes arcs = arcsErr nodes arcs := by unfold netErr; rw [if_neg (by omega), if_neg h3]
  have HE := Lib.hid he; clear he
  go_enter Try.func11, Try.ntmps11
  go_wp2
  go_loopw [3] (fun i wr => ∃ k : Nat, k ≤ arcs.length ∧ i = .int .i64 k ∧ (∀ j (h : j < arcs.length), j < k → arcErr nodes arcs[j] = 0) ∧ New (w.alloc (.cells #[I nodes, .slice ao arcs.length c] 24)) wr) (fun i _ => arcs.length - (intOf i).toNat)
  case atStart => exact ⟨0, by omega, rfl, by omega, New.refl _⟩
  case round =>
    obtain ⟨k, hk, rfl, hall, hnew⟩ := hrel
    have HA := Lib.hid hall
    clear hall
    have hbox := hnew.cell (p := ⟨w.heap.size, 0, none⟩) (v := I nodes) (by simp)
    have hbox1 := hnew.cell (p := ⟨w.heap.size, 1, none⟩) (v := .slice ao arcs.length c) (by simp)
    have hx' := (hx.new (Keeps.alloc w _)).new hnew
    have hsz : w.heap.size < wr.heap.size := by have := hnew.size; simp at this; omega
    by_cases hk1 : k < arcs.length
    · obtain ⟨b, off, rfl, q0, q1, q2, q3, q4⟩ := arcs_at hx' hk1
      generalize hae : arcs[k] = a at q0 q1 q2 q3 q4
      have HAE := Lib.hid hae
      clear hae
      have hbad : arcErr nodes a ≠ 0 → netErr nodes arcs = arcErr nodes a := fun h => by
        rw [HE.out, ← HAE.out]
        exact arcsErr_at hk1 (fun j hj => HA.out j (by omega) hj) (by rw [HAE.out]; exact h)
      have HB := Lib.hid hbad
      clear hbad
      have hgood : arcErr nodes a = 0 → ∀ j (h : j < arcs.length), j < k + 1 → arcErr nodes arcs[j] = 0 := fun h j hj hjk => by
        by_cases e : j < k
        · exact HA.out j hj e
        · obtain rfl : j = k := by omega
          rw [HAE.out]; exact h
      have HG := Lib.hid hgood
      clear hgood
      have c7 : C7 (wr.alloc (.cells #[I a.fr, I a.dst, I a.give, I a.take, I a.start] 36)) w.heap.size wr.heap.size a nodes (.slice (some ⟨b, off, none⟩) arcs.length c) := by
        have ka : New wr (wr.alloc (.cells #[I a.fr, I a.dst, I a.give, I a.take, I a.start] 36)) := Keeps.alloc _ _
        exact ⟨ka.cell hbox, ka.cell hbox1, by simp, by simp, by simp, by simp, by simp⟩
      have hn0 : New w (wr.alloc (.cells #[I a.fr, I a.dst, I a.give, I a.take, I a.start] 36)) := (New.trans (Keeps.alloc w _) hnew).alloc _
      have hw0 := hnew.alloc (.cells #[I a.fr, I a.dst, I a.give, I a.take, I a.start] 36)
      have C := Lib.hid c7
      clear c7
      go_wp2_with fail
      refine (refNode_any nodes _ _ _ rfl).mono ?_
      rintro e w2 ⟨rfl, n2⟩
      have C2 := Lib.hid (C.out.new n2)
      obtain ⟨z0, z1, z2, z3, z4, z5, z6⟩ := C2.out
      have hn2 := hn0.trans n2
      have hw2 := hw0.trans n2
      by_cases c1 : 0 ≤ a.fr ∧ a.fr < nodes
      · have d1 : decide (0 ≤ a.fr ∧ a.fr < nodes) = true := by simpa using c1
        go_wp2_with fail
        refine (refNode_any nodes _ _ _ rfl).mono ?_
        rintro e w3 ⟨rfl, n3⟩
        clear z0 z1 z2 z3 z4 z5 z6
        have C3 := Lib.hid (C2.out.new n3)
        obtain ⟨z0, z1, z2, z3, z4, z5, z6⟩ := C3.out
        have hn3 := hn2.trans n3
        have hw3 := hw2.trans n3
        by_cases c2 : 0 ≤ a.dst ∧ a.dst < nodes
        · have d2 : decide (0 ≤ a.dst ∧ a.dst < nodes) = true := by simpa using c2
          go_wp2_with fail
          refine (refRate_any _ _).mono ?_
          rintro e w4 ⟨rfl, rfl⟩
          by_cases c3 : 1 ≤ a.give ∧ a.give ≤ 64
          · have d3 : decide (1 ≤ a.give ∧ a.give ≤ 64) = true := by simpa using c3
            go_wp2_with fail
            refine (refRate_any _ _).mono ?_
            rintro e w4 ⟨rfl, rfl⟩
            by_cases c4 : 1 ≤ a.take ∧ a.take ≤ 64
            · have d4 : decide (1 ≤ a.take ∧ a.take ≤ 64) = true := by simpa using c4
              obtain ⟨c11, c12⟩ := c1
              obtain ⟨c21, c22⟩ := c2
              obtain ⟨c31, c32⟩ := c3
              obtain ⟨c41, c42⟩ := c4
              go_wp2_with fail
              all_goals first
                | (go_ret; have hz : arcErr nodes a = 88 := (by unfold arcErr; (repeat' split) <;> omega); exact ⟨ret_i (by rw [HB.out (by omega)]; exact hz.symm), hn3⟩)
                | skip
              have hz : arcErr nodes a = 0 := by unfold arcErr; (repeat' split) <;> omega
              go_roundw
              case rel => exact ⟨k + 1, by omega, by go_num, HG.out hz, hw3⟩
              case measure => simp [intOf]; omega
            · have d4 : decide (1 ≤ a.take ∧ a.take ≤ 64) = false := by simpa using c4
              have hz : arcErr nodes a = 101 := by unfold arcErr; (repeat' split) <;> omega
              have HZ := Lib.hid hz
              clear hz c4
              go_wp2_with fail
              go_ret
              exact ⟨ret_i (by rw [HB.out (by rw [HZ.out]; omega)]; exact HZ.out.symm), hn3⟩
          · have d3 : decide (1 ≤ a.give ∧ a.give ≤ 64) = false := by simpa using c3
            have hz : arcErr nodes a = 101 := by unfold arcErr; (repeat' split) <;> omega
            have HZ := Lib.hid hz
            clear hz c3
            go_wp2_with fail
            go_ret
            exact ⟨ret_i (by rw [HB.out (by rw [HZ.out]; omega)]; exact HZ.out.symm), hn3⟩
        · have d2 : decide (0 ≤ a.dst ∧ a.dst < nodes) = false := by simpa using c2
          have hz : arcErr nodes a = 100 := by unfold arcErr; (repeat' split) <;> omega
          have HZ := Lib.hid hz
          clear hz c2
          go_wp2_with fail
          go_ret
          exact ⟨ret_i (by rw [HB.out (by rw [HZ.out]; omega)]; exact HZ.out.symm), hn3⟩
      · have d1 : decide (0 ≤ a.fr ∧ a.fr < nodes) = false := by simpa using c1
        have hz : arcErr nodes a = 100 := by unfold arcErr; (repeat' split) <;> omega
        have HZ := Lib.hid hz
        clear hz c1
        go_wp2_with fail
        go_ret
        exact ⟨ret_i (by rw [HB.out (by rw [HZ.out]; omega)]; exact HZ.out.symm), hn2⟩
    · have hn1 : New w wr := New.trans (Keeps.alloc w _) hnew
      have hz : netErr nodes arcs = 0 := by
        rw [HE.out]
        refine arcsErr_zero (fun a ha => ?_)
        obtain ⟨j, hj, rfl⟩ := List.getElem_of_mem ha
        exact HA.out j hj (by omega)
      have HZ := Lib.hid hz
      clear hz
      go_wp2
      go_ret
      exact ⟨ret_i HZ.out.symm, hn1⟩

end Go.Proofs.Ytijlgcbnoekmeaa
