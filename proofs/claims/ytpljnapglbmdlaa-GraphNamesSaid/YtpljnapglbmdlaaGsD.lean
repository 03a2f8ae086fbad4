/-
  Layer 8: has a graph more parts than a statement copies?
-/
import Derived.Test.YtpljnapglbmdlaaGsB
namespace Go.Proofs.Ytpljnapglbmdlaa
open Go Go.RowKit Go.Joins
set_option linter.all false

structure GRoom (g : Gr) : Prop where
  a : g.acts.length ≤ 17592186044416
  e : g.edges.length ≤ 17592186044416
  i : g.ins.length ≤ 17592186044416
  o : g.outs.length ≤ 17592186044416
  ax : ∀ x ∈ g.acts, x.xs.length ≤ 17592186044416
  ex : ∀ x ∈ g.edges, x.xs.length ≤ 17592186044416
structure GFew (g : Gr) : Prop where
  n : g.acts.length + g.edges.length + g.ins.length + g.outs.length ≤ 1048576
  ax : ∀ x ∈ g.acts, x.xs.length ≤ 1048576
  ex : ∀ x ∈ g.edges, x.xs.length ≤ 1048576
theorem lt_cast (m : Nat) : decide ((1048576 : Int) < (m : Int)) = decide (1048576 < m) := by
  rw [Bool.eq_iff_iff]; simp; omega
set_option maxRecDepth 100000 in
set_option maxHeartbeats 8000000 in
theorem heavy_any (w : World) (g : Gr) (hg : GrAt w g) (hr : GRoom g) :
    Calls Try.prog 9 #[g.v] w fun e w' => (e = .returned (.bool true) ∨ (e = .returned (.bool false) ∧ GFew g)) ∧ New w w' := by
  have ra := hr.a
  have re := hr.e
  have ri := hr.i
  have ro := hr.o
  have RAX := Lib.hid hr.ax
  have REX := Lib.hid hr.ex
  have HG := Lib.hid hg
  clear hg hr
  obtain ⟨post, hpost⟩ : ∃ post : Ending → World → Prop, (fun e w' => (e = .returned (.bool true) ∨ (e = .returned (.bool false) ∧ GFew g)) ∧ New w w') = post := ⟨_, rfl⟩
  rw [hpost]
  have HP := Lib.hid hpost
  clear hpost
  obtain ⟨aA, hA⟩ : ∃ a, g.aa = a := ⟨_, rfl⟩
  obtain ⟨aE, hE⟩ : ∃ a, g.ea = a := ⟨_, rfl⟩
  simp only [Gr.v, Gr.cs]
  rw [hA, hE]
  have HA := Lib.hid hA
  have HE := Lib.hid hE
  clear hA hE
  go_enter Try.func9, Try.ntmps9
  go_wp2_with fail
  have na : New w (w.alloc (.cells #[.string g.name, .slice aA g.acts.length g.ac, .slice aE g.edges.length g.ec, .slice g.ia g.ins.length g.ic, .slice g.oa g.outs.length g.oc] 26)) := (New.refl w).alloc _
  have ha : (w.alloc (.cells #[.string g.name, .slice aA g.acts.length g.ac, .slice aE g.edges.length g.ec, .slice g.ia g.ins.length g.ic, .slice g.oa g.outs.length g.oc] 26)).heap[w.heap.size]? = some (.cells #[.string g.name, .slice aA g.acts.length g.ac, .slice aE g.edges.length g.ec, .slice g.ia g.ins.length g.ic, .slice g.oa g.outs.length g.oc] 26 (0, 0)) := heap_alloc_new w _
  generalize (w.alloc (.cells #[.string g.name, .slice aA g.acts.length g.ac, .slice aE g.edges.length g.ec, .slice g.ia g.ins.length g.ic, .slice g.oa g.outs.length g.oc] 26)) = W at na ha ⊢
  have HB := Lib.hid ha
  clear ha
  go_loopw [3, 4] (fun v i wr => ∃ (k m : Nat), k ≤ g.acts.length ∧ i = .int .i64 k ∧ v = .int .i64 m ∧ m ≤ 70368744177664 ∧ g.acts.length + g.edges.length + g.ins.length + g.outs.length ≤ m ∧ Hid ((∀ j (hj : j < g.acts.length), j < k → g.acts[j].xs.length ≤ m) ∧ New W wr)) (fun _ i _ => g.acts.length - (intOf i).toNat)
  case atStart => exact ⟨0, g.acts.length + g.edges.length + g.ins.length + g.outs.length, by omega, rfl, by go_num, by omega, by omega, Lib.hid ⟨fun j hj h => by omega, New.refl _⟩⟩
  case round =>

    obtain ⟨k, m, hk, rfl, rfl, hm1, hm2, HR⟩ := hrel
    have hN := HR.out.2
    obtain ⟨c0, c1, c2, c3, c4, hCl⟩ := gr_cells (Keeps.heap hN HB.out (fun h => h))
    by_cases hc : k < g.acts.length ∧ m ≤ 1048576
    · obtain ⟨hk1, hm3⟩ := hc
      have hkI : (k : Int) < (g.acts.length : Int) := by omega
      have hkd : decide (k < g.acts.length) = true := decide_eq_true hk1
      have hmI : (m : Int) ≤ 1048576 := by omega
      have hmd : decide (m ≤ 1048576) = true := decide_eq_true hm3
      obtain ⟨b, off, hab, q0, q1, q2⟩ := acts_at (HG.out.new (na.trans hN)).sa hk1
      have hbw : b < wr.heap.size := World.block_lt_of_cell? wr _ q0
      have hxr := RAX.out _ (List.getElem_mem hk1)
      have e : aA = some ⟨b, off, none⟩ := HA.out.symm.trans hab
      subst e
      have HR2 : Hid (∀ j (hj : j < g.acts.length), j < k + 1 → g.acts[j].xs.length ≤ m + g.acts[k].xs.length) := Lib.hid (fun j hj hjk => by
        by_cases e : j = k
        · subst e; omega
        · have := HR.out.1 j hj (by omega); omega)
      clear hab
      generalize g.acts[k] = x at q0 q1 q2 hxr HR2
      go_wp2_with fail
      go_roundw
      case rel => exact ⟨k + 1, m + x.xs.length, by omega, by go_num, by go_num, by omega, by omega, Lib.hid ⟨HR2.out, hN⟩⟩
      case measure => simp [intOf]; omega
    · have HQ : Hid (m ≤ 1048576 → ∀ x ∈ g.acts, x.xs.length ≤ 1048576) := Lib.hid (fun h x hx => by
        obtain ⟨j, hj, rfl⟩ := List.getElem_of_mem hx
        have := HR.out.1 j hj (by omega)
        omega)
      clear HR
      have hNX := hN
      by_cases hk1 : k < g.acts.length
      case' pos =>
        have hkI : (k : Int) < (g.acts.length : Int) := by omega
        have hkd : decide (k < g.acts.length) = true := decide_eq_true hk1
        have hmI : (1048576 : Int) < (m : Int) := by omega
        have hmd : decide (m ≤ 1048576) = false := decide_eq_false (by omega)
      case' neg =>
        have hkI : (g.acts.length : Int) ≤ (k : Int) := by omega
        have hkd : decide (k < g.acts.length) = false := decide_eq_false hk1
      all_goals
        clear hc
        go_wp2_with fail
        clear hN hk hk1 hkI hkd c0 c1 c2 c3 c4 hCl
        go_loopw [3, 5] (fun v i wr => ∃ (k m : Nat), k ≤ g.edges.length ∧ i = .int .i64 k ∧ v = .int .i64 m ∧ m ≤ 70368744177664 ∧ g.acts.length + g.edges.length + g.ins.length + g.outs.length ≤ m ∧ Hid ((∀ j (hj : j < g.edges.length), j < k → g.edges[j].xs.length ≤ m) ∧ (m ≤ 1048576 → ∀ x ∈ g.acts, x.xs.length ≤ 1048576) ∧ New W wr)) (fun _ i _ => g.edges.length - (intOf i).toNat)
        case atStart => exact ⟨0, m, by omega, rfl, rfl, by omega, by omega, Lib.hid ⟨fun j hj h => by omega, HQ.out, hNX⟩⟩
        case round =>
          clear HQ hNX hm1 hm2
          obtain ⟨k, m, hk, rfl, rfl, hm1, hm2, HR⟩ := hrel
          have hN := HR.out.2.2
          obtain ⟨c0, c1, c2, c3, c4, hCl⟩ := gr_cells (Keeps.heap hN HB.out (fun h => h))
          by_cases hc : k < g.edges.length ∧ m ≤ 1048576
          · obtain ⟨hk1, hm3⟩ := hc
            have hkI : (k : Int) < (g.edges.length : Int) := by omega
            have hkd : decide (k < g.edges.length) = true := decide_eq_true hk1
            have hmI : (m : Int) ≤ 1048576 := by omega
            have hmd : decide (m ≤ 1048576) = true := decide_eq_true hm3
            obtain ⟨b, off, hab, q0, q1, q2, q3, q4⟩ := gedges_at (HG.out.new (na.trans hN)).se hk1
            have hbw : b < wr.heap.size := World.block_lt_of_cell? wr _ q0
            have hxr := REX.out _ (List.getElem_mem hk1)
            have e : aE = some ⟨b, off, none⟩ := HE.out.symm.trans hab
            subst e
            have HR2 : Hid (∀ j (hj : j < g.edges.length), j < k + 1 → g.edges[j].xs.length ≤ m + g.edges[k].xs.length) := Lib.hid (fun j hj hjk => by
              by_cases e : j = k
              · subst e; omega
              · have := HR.out.1 j hj (by omega); omega)
            clear hab
            generalize g.edges[k] = x at q0 q1 q2 q3 q4 hxr HR2
            go_wp2_with fail
            go_roundw
            case rel => exact ⟨k + 1, m + x.xs.length, by omega, by go_num, by go_num, by omega, by omega, Lib.hid ⟨HR2.out, fun h => HR.out.2.1 (by omega), hN⟩⟩
            case measure => simp [intOf]; omega
          · have HPP : Hid (∀ W' b, b = decide (1048576 < m) → New wr W' → post (.returned (.bool b)) W') := Lib.hid (fun W' b hb kW => by
              rw [← HP.out]
              refine ⟨?_, (na.trans hN).trans kW⟩
              by_cases h : 1048576 < m
              · left; rw [hb, decide_eq_true h]
              · right
                refine ⟨by rw [hb, decide_eq_false h], by omega, HR.out.2.1 (by omega), fun x hx => ?_⟩
                obtain ⟨j, hj, rfl⟩ := List.getElem_of_mem hx
                have := HR.out.1 j hj (by omega)
                omega)
            clear HR
            by_cases hk1 : k < g.edges.length
            case' pos =>
              have hkI : (k : Int) < (g.edges.length : Int) := by omega
              have hkd : decide (k < g.edges.length) = true := decide_eq_true hk1
              have hmI : (1048576 : Int) < (m : Int) := by omega
              have hmd : decide (m ≤ 1048576) = false := decide_eq_false (by omega)
            case' neg =>
              have hkI : (g.edges.length : Int) ≤ (k : Int) := by omega
              have hkd : decide (k < g.edges.length) = false := decide_eq_false hk1
            all_goals
              clear hc
              go_wp2_with fail
              first
                | exact HPP.out _ (decide ((1048576 : Int) < (m : Int))) (lt_cast m) (New.refl _)
                | exact HPP.out _ true ((decide_eq_true (by omega)).symm) (New.refl _)
                | exact HPP.out _ false ((decide_eq_false (by omega)).symm) (New.refl _)
end Go.Proofs.Ytpljnapglbmdlaa
