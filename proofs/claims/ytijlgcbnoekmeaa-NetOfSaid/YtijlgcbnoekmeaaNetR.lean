/-
  Layer 10: the reference's state and what it answers.
-/
import Derived.Test.YtijlgcbnoekmeaaNetE
import Derived.Test.YtijlgcbnoekmeaaNetB
import Derived.Deep.RegionHeld3
namespace Go.Proofs.Ytijlgcbnoekmeaa
open Go Go.RowKit
set_option linter.all false

/-- The reference's state: the caller's net, a row of counts of its own. -/
structure Rs (w : World) (nodes : Nat) (arcs : List ArcD) (ao : Option Addr) (lo bf : Nat) (F : List Int) : Prop where
  hx : SlAt w ao (arcsCells arcs)
  hf : w.ownsRow lo 3 1 (.slice (some ⟨bf, 0, none⟩) nodes nodes) nodes (Is F)
  sep : ∀ a, ao = some a → arcs ≠ [] → a.block ≠ bf
abbrev refV (nodes : Nat) (arcs : List ArcD) (ao : Option Addr) (c bf : Nat) : Value := .agg #[I (nodes : Int), .slice ao arcs.length c, .slice (some ⟨bf, 0, none⟩) nodes nodes]

theorem Rs.new {w w' : World} {nodes : Nat} {arcs : List ArcD} {ao : Option Addr} {lo bf : Nat} {F : List Int} (h : Rs w nodes arcs ao lo bf F) (k : New w w') : Rs w' nodes arcs ao lo bf F := ⟨h.hx.new k, k.owns h.hf, h.sep⟩
theorem Rs.len {w : World} {nodes : Nat} {arcs : List ArcD} {ao : Option Addr} {lo bf : Nat} {F : List Int} (h : Rs w nodes arcs ao lo bf F) : F.length = nodes := by have := h.hf.1; simp at this; omega
theorem Rs.fir {w : World} {nodes : Nat} {arcs : List ArcD} {ao : Option Addr} {lo bf : Nat} {F : List Int} (h : Rs w nodes arcs ao lo bf F) {i : Nat} (hi : i < nodes) : w.cell? ⟨bf, i, none⟩ = some (I (F.getD i 0)) := by
  rw [h.hf.cellAt i (by omega)]
  have := h.len
  simp [show i < F.length by omega]

set_option maxRecDepth 100000 in
set_option maxHeartbeats 1000000 in
theorem refHas_any (w : World) (nodes : Nat) (arcs : List ArcD) (ao : Option Addr) (c lo bf : Nat) (F : List Int) (j : Nat) (hs : Sound nodes arcs) (h : Rs w nodes arcs ao lo bf F) (hj : j < arcs.length) :
    Calls Try.prog 44 #[refV nodes arcs ao c bf, I j] w fun e w' => e = .returned (I (hasW arcs F j)) ∧ New w w' := by
  unfold refV
  have hm := hs.m
  have hn := hs.n2
  have hj0 : (j : Int) < (arcs.length : Int) := by omega
  have hmem := hs.fr _ (arcAt_mem hj)
  have hmem2 := hs.dst _ (arcAt_mem hj)
  have h1 := h.new ((New.refl w).alloc (.cells #[I nodes, .slice ao arcs.length c, .slice (some ⟨bf, 0, none⟩) nodes nodes] 39))
  obtain ⟨b, off, rfl, q0, q1, q2, q3, q4⟩ := arcs_at h1.hx hj
  have hat : arcs[j] = arcAt arcs j := by simp [arcAt, hj]
  rw [hat] at q0 q1 q2 q3 q4
  clear hat
  have hHas : hasW arcs F j = wrap64 (wrap64 ((arcAt arcs j).start + wrap64 ((arcAt arcs j).give * F.getD (arcAt arcs j).fr.toNat 0)) - wrap64 ((arcAt arcs j).take * F.getD (arcAt arcs j).dst.toNat 0)) := by
    rw [wrap_addr, wrap_subl, wrap_subr]; rfl
  have HH := Lib.hid hHas
  clear hHas
  generalize arcAt arcs j = x at q0 q1 q2 q3 q4 hmem hmem2 HH
  obtain ⟨f, hf, hfn⟩ : ∃ f : Nat, x.fr = f ∧ f < nodes := ⟨x.fr.toNat, by omega, by omega⟩
  obtain ⟨t, ht, htn⟩ : ∃ t : Nat, x.dst = t ∧ t < nodes := ⟨x.dst.toNat, by omega, by omega⟩
  rw [hf] at q0 HH
  rw [ht] at q1 HH
  simp only [Int.toNat_natCast] at HH
  have r0 := h1.fir hfn
  have r1 := h1.fir htn
  generalize F.getD f 0 = F0 at r0 HH
  generalize F.getD t 0 = F1 at r1 HH
  have hfI : (f : Int) < (nodes : Int) := by omega
  have htI : (t : Int) < (nodes : Int) := by omega
  clear hf ht hmem hmem2
  go_enter Try.func44, Try.ntmps44
  go_wp2
  have k2 : New (w.alloc (.cells #[I nodes, .slice (some ⟨b, off, none⟩) arcs.length c, .slice (some ⟨bf, 0, none⟩) nodes nodes] 39)) ((w.alloc (.cells #[I nodes, .slice (some ⟨b, off, none⟩) arcs.length c, .slice (some ⟨bf, 0, none⟩) nodes nodes] 39)).alloc (.cells #[.int .i64 f, .int .i64 t, .int .i64 x.give, .int .i64 x.take, .int .i64 x.start] 36)) := (New.refl _).alloc _
  have r0' := k2.cell r0
  have r1' := k2.cell r1
  have b2 := k2.cell (p := ⟨w.heap.size, 2, none⟩) (v := .slice (some ⟨bf, 0, none⟩) nodes nodes) (by simp)
  have kN : New w _ := ((New.refl w).alloc (.cells #[I nodes, .slice (some ⟨b, off, none⟩) arcs.length c, .slice (some ⟨bf, 0, none⟩) nodes nodes] 39)).trans k2
  have p0 : ((w.alloc (.cells #[I nodes, .slice (some ⟨b, off, none⟩) arcs.length c, .slice (some ⟨bf, 0, none⟩) nodes nodes] 39)).alloc (.cells #[.int .i64 f, .int .i64 t, .int .i64 x.give, .int .i64 x.take, .int .i64 x.start] 36)).cell? ⟨w.heap.size + 1, 0, none⟩ = some (.int .i64 f) := by simp
  have p1 : ((w.alloc (.cells #[I nodes, .slice (some ⟨b, off, none⟩) arcs.length c, .slice (some ⟨bf, 0, none⟩) nodes nodes] 39)).alloc (.cells #[.int .i64 f, .int .i64 t, .int .i64 x.give, .int .i64 x.take, .int .i64 x.start] 36)).cell? ⟨w.heap.size + 1, 1, none⟩ = some (.int .i64 t) := by simp
  have p2 : ((w.alloc (.cells #[I nodes, .slice (some ⟨b, off, none⟩) arcs.length c, .slice (some ⟨bf, 0, none⟩) nodes nodes] 39)).alloc (.cells #[.int .i64 f, .int .i64 t, .int .i64 x.give, .int .i64 x.take, .int .i64 x.start] 36)).cell? ⟨w.heap.size + 1, 2, none⟩ = some (.int .i64 x.give) := by simp
  have p3 : ((w.alloc (.cells #[I nodes, .slice (some ⟨b, off, none⟩) arcs.length c, .slice (some ⟨bf, 0, none⟩) nodes nodes] 39)).alloc (.cells #[.int .i64 f, .int .i64 t, .int .i64 x.give, .int .i64 x.take, .int .i64 x.start] 36)).cell? ⟨w.heap.size + 1, 3, none⟩ = some (.int .i64 x.take) := by simp
  have p4 : ((w.alloc (.cells #[I nodes, .slice (some ⟨b, off, none⟩) arcs.length c, .slice (some ⟨bf, 0, none⟩) nodes nodes] 39)).alloc (.cells #[.int .i64 f, .int .i64 t, .int .i64 x.give, .int .i64 x.take, .int .i64 x.start] 36)).cell? ⟨w.heap.size + 1, 4, none⟩ = some (.int .i64 x.start) := by simp
  clear k2 r0 r1 q0 q1 q2 q3 q4 h h1
  generalize ((w.alloc (.cells #[I nodes, .slice (some ⟨b, off, none⟩) arcs.length c, .slice (some ⟨bf, 0, none⟩) nodes nodes] 39)).alloc (.cells #[.int .i64 f, .int .i64 t, .int .i64 x.give, .int .i64 x.take, .int .i64 x.start] 36)) = W2 at *
  go_quiet (fail)
  go_wp2
  go_ret
  rw [HH.out]
  exact ⟨rfl, kN.drewN _⟩

set_option maxRecDepth 100000 in
set_option maxHeartbeats 1000000 in
theorem refShort_any (w : World) (nodes : Nat) (arcs : List ArcD) (ao : Option Addr) (c lo bf : Nat) (s : Mark) (v : Int) (hs : Sound nodes arcs) (h : Rs w nodes arcs ao lo bf s.fired) (he : EqnW arcs s) :
    Calls Try.prog 36 #[refV nodes arcs ao c bf, I v] w fun e w' => e = .returned (I (shortS arcs nodes s.toks v)) ∧ New w w' := by
  unfold refV
  rw [shortS_any hs]
  have hm := hs.m
  have h1 := h.new ((New.refl w).alloc (.cells #[I nodes, .slice ao arcs.length c, .slice (some ⟨bf, 0, none⟩) nodes nodes] 39))
  have HE := Lib.hid he
  clear he h
  go_enter Try.func36, Try.ntmps36
  go_wp2
  go_loopw [5] (fun i wr => ∃ k : Nat, k ≤ arcs.length ∧ i = .int .i64 k ∧ (∀ j, j < k → (arcAt arcs j).dst = v → (arcAt arcs j).take ≤ s.toks.getD j 0) ∧ New (w.alloc (.cells #[I nodes, .slice ao arcs.length c, .slice (some ⟨bf, 0, none⟩) nodes nodes] 39)) wr) (fun i _ => arcs.length - (intOf i).toNat)
  case atStart => exact ⟨0, by omega, rfl, by omega, New.refl _⟩
  case round =>
    obtain ⟨k, hk, rfl, hall, hnew⟩ := hrel
    have HA := Lib.hid hall
    clear hall
    have hb0 := hnew.cell (p := ⟨w.heap.size, 0, none⟩) (v := I nodes) (by simp)
    have hb1 := hnew.cell (p := ⟨w.heap.size, 1, none⟩) (v := .slice ao arcs.length c) (by simp)
    have hb2 := hnew.cell (p := ⟨w.heap.size, 2, none⟩) (v := .slice (some ⟨bf, 0, none⟩) nodes nodes) (by simp)
    have hwn : New w wr := ((New.refl w).alloc _).trans hnew
    by_cases hk1 : k < arcs.length
    · have h2 := h1.new hnew
      have hcall : ∀ w1, New wr w1 → Calls Try.prog 44 #[.agg #[I nodes, .slice ao arcs.length c, .slice (some ⟨bf, 0, none⟩) nodes nodes], I k] w1 fun e w' => e = .returned (I (s.toks.getD k 0)) ∧ New w1 w' := by
        intro w1 hn1
        have := refHas_any w1 nodes arcs ao c lo bf s.fired k hs (h2.new hn1) hk1
        rw [← HE.out k hk1] at this
        exact this
      obtain ⟨b, off, rfl, q0, q1, q2, q3, q4⟩ := arcs_at h2.hx hk1
      have hat : arcs[k] = arcAt arcs k := by simp [arcAt, hk1]
      rw [hat] at q0 q1 q2 q3 q4
      clear hat q0 q2 q4
      have hhit := short_hit (t := s.toks) (v := v) hk1 (fun j hj => HA.out j hj)
      have HH := Lib.hid hhit
      have hnext : ((arcAt arcs k).dst = v → (arcAt arcs k).take ≤ s.toks.getD k 0) → ∀ j, j < k + 1 → (arcAt arcs j).dst = v → (arcAt arcs j).take ≤ s.toks.getD j 0 := by
        intro hh j hj
        by_cases e : j < k
        · exact HA.out j e
        · obtain rfl : j = k := by omega
          exact hh
      have HNX := Lib.hid hnext
      clear hhit hnext
      generalize arcAt arcs k = x at q1 q3 HH HNX
      generalize s.toks.getD k 0 = tk at hcall HH HNX
      have hk0 : (k : Int) < (arcs.length : Int) := by omega
      by_cases hd : x.dst = v
      · subst hd
        have hda : decide (x.dst = x.dst) = true := by simp
        go_wp2_with fail
        go_region_held3 (fun w' => w'.cell? ⟨w.heap.size, 0, none⟩ = some (I nodes) ∧ w'.cell? ⟨w.heap.size, 1, none⟩ = some (.slice (some ⟨b, off, none⟩) arcs.length c) ∧ w'.cell? ⟨w.heap.size, 2, none⟩ = some (.slice (some ⟨bf, 0, none⟩) nodes nodes) ∧ w'.cell? ⟨b, off + k * 5 + 1, none⟩ = some (I x.dst) ∧ w'.cell? ⟨b, off + k * 5 + 3, none⟩ = some (I x.take))
          ((first | (refine ⟨New.cell (w := wr) ?_ hb0, New.cell (w := wr) ?_ hb1, New.cell (w := wr) ?_ hb2, New.cell (w := wr) ?_ q1, New.cell (w := wr) ?_ q3⟩ <;> (repeat (first | exact New.refl wr | refine New.drew ?_ | refine New.trans ?_ hN2)))))
          ((go_at_call 44; refine (hcall _ ((New.refl wr).drew)).mono ?_; rintro e w2 ⟨rfl, hN2⟩))
        have hw2 := hnew.trans (((New.refl wr).drew).trans hN2)
        have hww2 := hwn.trans (((New.refl wr).drew).trans hN2)
        simp only [Exit.then]
        go_wp2
        · have hlt : tk < x.take := by assumption
          go_ret
          exact ⟨ret_i (HH.out trivial hlt).symm, hww2⟩
        · have hge : x.take ≤ tk := by omega
          go_roundw
          case rel => exact ⟨k + 1, by omega, by go_num, HNX.out (fun _ => hge), hw2⟩
          case measure => simp [intOf]; omega
      · have hda : decide (x.dst = v) = false := by simpa using hd
        have hdb : (x.dst == v) = false := by simpa using hd
        have HN := Lib.hid hd
        clear hd hcall
        go_wp2_with fail
        go_quiet (fail)
        go_wp2
        go_roundw
        case rel => exact ⟨k + 1, by omega, by go_num, HNX.out (fun e => absurd e HN.out), hnew.drewN _⟩
        case measure => simp [intOf]; omega
    · go_wp2
      go_ret
      exact ⟨ret_i (short_miss (fun j hj => HA.out j (by omega))).symm, hwn⟩
end Go.Proofs.Ytijlgcbnoekmeaa
