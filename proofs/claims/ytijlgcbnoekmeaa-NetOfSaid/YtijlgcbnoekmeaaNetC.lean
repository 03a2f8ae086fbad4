/-
  Layer 10: copies and comparisons of nets; the small methods of a net's web.
-/
import Derived.Test.YtijlgcbnoekmeaaNetB
import Derived.Test.YtijlgcbnoekmeaaMem2
namespace Go.Proofs.Ytijlgcbnoekmeaa
open Go Go.RowKit
set_option linter.all false

theorem Try.infoArc : (Try.prog.info? 36).map (fun i => (i.zero, i.size, i.bytes)) = some (some (.agg #[.int .i64 0, .int .i64 0, .int .i64 0, .int .i64 0, .int .i64 0]), 5, 40) := by kernel_rfl

theorem oneCell_arcs (l : List ArcD) : ∀ u ∈ arcsCells l, u.oneCell' = true := by
  intro u hu
  obtain ⟨a, _, ha⟩ := List.mem_flatMap.1 hu
  simp [arcCells] at ha
  rcases ha with rfl | rfl | rfl | rfl | rfl <;> rfl

/-- A net of the call's own. -/
def OwnNet (w : World) (B : Nat) (ao : Option Addr) (c : Nat) (arcs : List ArcD) : Prop := w.ownsRow B 36 5 (.slice ao arcs.length c) arcs.length (arcsCells arcs)

set_option maxRecDepth 100000 in
set_option maxHeartbeats 1000000 in
theorem refNet_any (nodes : Int) (ao : Option Addr) (c : Nat) (arcs : List ArcD) (w : World) (hx : SlAt w ao (arcsCells arcs)) (hl : arcs.length * 40 ≤ 140737488351232) :
    Calls Try.prog 12 #[.agg #[I nodes, .slice ao arcs.length c]] w fun e w' => ∃ ao' c', e = .returned (.agg #[I nodes, .slice ao' arcs.length c']) ∧ OwnNet w' w.heap.size ao' c' arcs ∧ New w w' := by
  obtain ⟨i0, hi, hz0, hz1, hz2⟩ := info_parts Try.infoArc
  have hlen := arcsCells_len arcs
  have HL := Lib.hid hlen
  clear hlen
  go_enter Try.func12, Try.ntmps12
  go_wp2_with ((at_builtin; refine wpList_app rfl _ _ 22 rfl w.heap.size 36 i0 _ 5 40 Try.underlying22 hi hz0 hz1 hz2 rfl (by decide) none 0 0 [] rfl (World.ownsRow_nil _ _ _ _) ao arcs.length c (arcsCells arcs) rfl ?c00 ?c0 ?c1 ?c2 ?c3 ?c4 ?c5))
  case c00 => exact HL.out
  case c0 => exact (hx.new (Keeps.alloc _ _)).new (Keeps.alloc _ _)
  case c1 => exact oneCell_arcs _
  case c2 => unfold maxLen; omega
  case c3 => omega
  case c4 => simp; omega
  case c5 =>
    intro ao' c' w' hown' hk' hmv _
    have hn' : New w w' := ((New.refl w).alloc _).alloc _ |>.keeps hk' (fun i hi ⟨a, ha, hb⟩ => by cases ha)
    have kk : New ((w.alloc (.cells #[I nodes, .slice ao arcs.length c] 24)).alloc (.cells #[.int .i64 0, .slice none 0 0] 24)) w' := Keeps.mono hk' (fun i _ ⟨a, ha, _⟩ => by cases ha)
    have q0 := kk.cell (p := ⟨w.heap.size, 0, none⟩) (v := I nodes) (by rw [World.cell?_alloc_past _ _ _ (by simp)]; simp)
    have q1 := kk.cell (p := ⟨w.heap.size + 1, 0, none⟩) (v := I 0) (by rw [World.cell?_alloc_at _ _ _ _ (by simp)]; rfl)
    have q2 := kk.cell (p := ⟨w.heap.size + 1, 1, none⟩) (v := .slice none 0 0) (by rw [World.cell?_alloc_at _ _ _ _ (by simp)]; rfl)
    have f1 := (Keeps.frozen kk (p := ⟨w.heap.size + 1, 0, none⟩) (by simp) (fun h => h)).trans (World.frozen?_alloc_at _ _ _ _ (by simp))
    have f2 := (Keeps.frozen kk (p := ⟨w.heap.size + 1, 1, none⟩) (by simp) (fun h => h)).trans (World.frozen?_alloc_at _ _ _ _ (by simp))
    have hw : w.heap.size + 1 < w'.heap.size := by have := kk.size; simp at this; omega
    have hfar : ∀ k, (Value.slice ao' arcs.length c').ownBlock = some k → w.heap.size + 1 < k := by
      intro k hk
      rcases hmv with rfl | ⟨g, rfl, hg⟩
      · simp [Value.ownBlock] at hk
      · simp [Value.ownBlock] at hk; simp at hg; omega
    clear hk' hmv
    go_wp2
    obtain ⟨r0, r1, ks⟩ := store2 (u := .int .i64 nodes) (v := .slice ao' arcs.length c') q1 q2
    refine bodyPost_ret (v := .agg #[I nodes, .slice ao' arcs.length c']) ?_ rfl ⟨ao', c', rfl, ks.owns hown' (fun k hk e => by have := hfar k hk; omega), hn'.keeps ks (fun i hi e => by omega)⟩
    generalize ((w'.setCell ⟨w.heap.size + 1, 0, none⟩ (.int .i64 nodes)).setCell ⟨w.heap.size + 1, 1, none⟩ (.slice ao' arcs.length c')) = W at r0 r1
    simp [results, Try.results12, go_sem, r0, r1]

set_option maxRecDepth 100000 in
set_option maxHeartbeats 1000000 in
/-- Two nets that are the same. -/
theorem sameNet_yes (nodes : Int) (ao bo : Option Addr) (c d : Nat) (arcs : List ArcD) (w : World) (hx : SlAt w ao (arcsCells arcs)) (hy : SlAt w bo (arcsCells arcs)) (hl : arcs.length * 40 ≤ 140737488351232) :
    Calls Try.prog 15 #[.agg #[I nodes, .slice ao arcs.length c], .agg #[I nodes, .slice bo arcs.length d]] w fun e w' => e = .returned (.bool true) ∧ New w w' := by
  go_enter Try.func15, Try.ntmps15
  go_wp2
  go_loopw [5] (fun i wr => ∃ k : Nat, k ≤ arcs.length ∧ i = .int .i64 k ∧ ∃ n, wr = ((w.alloc (.cells #[I nodes, .slice ao arcs.length c] 24)).alloc (.cells #[I nodes, .slice bo arcs.length d] 24)).drewN n) (fun i _ => arcs.length - (intOf i).toNat)
  case atStart => exact ⟨0, by omega, rfl, 0, rfl⟩
  case round =>
    obtain ⟨k, hk, rfl, n, rfl⟩ := hrel
    by_cases hk1 : k < arcs.length
    · obtain ⟨b, off, rfl, q0, q1, q2, q3, q4⟩ := arcs_at ((((hx.new (Keeps.alloc w (.cells #[I nodes, .slice ao arcs.length c] 24))).new (Keeps.alloc _ (.cells #[I nodes, .slice bo arcs.length d] 24))))) hk1
      obtain ⟨b', off', rfl, z0, z1, z2, z3, z4⟩ := arcs_at ((((hy.new (Keeps.alloc w (.cells #[I nodes, .slice (some ⟨b, off, none⟩) arcs.length c] 24))).new (Keeps.alloc _ (.cells #[I nodes, .slice bo arcs.length d] 24))))) hk1
      generalize arcs[k] = a at q0 q1 q2 q3 q4 z0 z1 z2 z3 z4
      have hk0 : (k : Int) < (arcs.length : Int) := by omega
      go_wp2
      go_quiet (fail)
      go_wp2
      go_roundw
      case rel => exact ⟨k + 1, by omega, by go_num, _, rfl⟩
      case measure => simp [intOf]; omega
    · go_wp2
      go_ret
      exact ⟨rfl, (((New.refl w).alloc _).alloc _).drewN _⟩

end Go.Proofs.Ytijlgcbnoekmeaa
