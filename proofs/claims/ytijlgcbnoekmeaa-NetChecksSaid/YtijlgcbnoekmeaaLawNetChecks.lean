/-
  'NetChecks': the law returns true at every input; what it is handed reads afterwards as before.
-/
import Derived.Test.YtijlgcbnoekmeaaRead
import Derived.Test.YtijlgcbnoekmeaaReadNet
import Derived.Test.YtijlgcbnoekmeaaNetI
namespace Go.Proofs.Ytijlgcbnoekmeaa.netChecks
open Go Go.RowKit Go.ChangeShapes Go.WideShapes Go.ChangeAt
open Go.ChangeMaps (open_string shut_string)
set_option linter.all false

set_option maxRecDepth 100000 in
set_option maxHeartbeats 2000000 in
theorem bad (w : World) (n0 : Int) (b0 : Option Addr) (c0 : Nat) (x0 : List ArcD) (h0 : SlAt w b0 (arcsCells x0)) (l0 : x0.length * 40 ≤ 140737488351232) (he : netErr n0 x0 ≠ 0) :
    Calls Try.prog 3 #[.agg #[I n0, .slice b0 x0.length c0]] w fun e w' => e = .returned (.bool true) ∧ New w w' := by
  have h0' : (netErr n0 x0 == 0) = false := by simpa using he
  have hnew : ∀ w1 b2 c2, SlAt w1 b2 (arcsCells x0) → Calls Try.prog 14 #[.agg #[I n0, .slice b2 x0.length c2]] w1 fun e w' => e = .returned (.tuple #[.pointer none, I (netErr n0 x0)]) ∧ New w1 w' :=
    fun w1 b2 c2 h => new_bad w1 n0 x0 b2 c2 h (by omega) he
  have HQ : Hid (netErr n0 x0 = netErr n0 x0) := Lib.hid rfl
  generalize hq : netErr n0 x0 = q at h0' hnew
  have HQ2 := Lib.hid hq
  clear hq he
  go_enter Try.func3, Try.ntmps3
  go_wp2_with fail
  refine (refNetCheck_any n0 b0 c0 x0 _ (h0.new ((New.refl w).alloc _)) (by omega)).mono ?_
  rw [HQ2.out]
  rintro e w1 ⟨rfl, k1⟩
  have hb0 := k1.cell (p := ⟨w.heap.size, 0, none⟩) (v := I n0) (by simp)
  have hb1 := k1.cell (p := ⟨w.heap.size, 1, none⟩) (v := .slice b0 x0.length c0) (by simp)
  have kk1 := ((New.refl w).alloc _).trans k1
  clear k1
  go_wp2_with fail
  refine (refNet_any n0 b0 c0 x0 _ (h0.new kk1) l0).mono ?_
  rintro e w2 ⟨b2, c2, rfl, o2, k2⟩
  have hs2 : SlAt w2 b2 (arcsCells x0) := SlAt.of_owns o2
  have kk2 := kk1.trans k2
  have hb02 := k2.cell hb0
  have hb12 := k2.cell hb1
  have hz2 := k2.size
  have hz1 := World.block_lt_of_cell? w1 _ hb0
  clear o2 k2 hb0 hb1 kk1
  go_wp2_with fail
  have al : New w2 (w2.alloc (.cells #[I n0, .slice b2 x0.length c2] 24)) := (New.refl w2).alloc _
  refine (netCheck_any n0 b2 c2 x0 _ (hs2.new al) (by omega)).mono ?_
  rw [HQ2.out]
  rintro e w3 ⟨rfl, k3⟩
  have hc0 := k3.cell (p := ⟨w2.heap.size, 0, none⟩) (v := I n0) (by simp)
  have hc1 := k3.cell (p := ⟨w2.heap.size, 1, none⟩) (v := .slice b2 x0.length c2) (by simp)
  have k23 := al.trans k3
  have hs3 := hs2.new k23
  have kk3 := kk2.trans k23
  have hb03 := k23.cell hb02
  have hb13 := k23.cell hb12
  clear k3 k23 al hs2 kk2 hb02 hb12
  go_wp2_with fail
  refine (hnew _ b2 c2 hs3).mono ?_
  rintro e w4 ⟨rfl, k4⟩
  have hc04 := k4.cell hc0
  have hc14 := k4.cell hc1
  have hb04 := k4.cell hb03
  have hb14 := k4.cell hb13
  have kk4 := kk3.trans k4
  have hs4 := hs3.new k4
  clear k4 hc0 hc1 hb03 hb13 kk3 hs3
  go_wp2_with fail
  refine (sameNet_yes n0 b2 b0 c2 c0 x0 _ hs4 (h0.new kk4) (by omega)).mono ?_
  rintro e w5 ⟨rfl, k5⟩
  go_wp2_with fail
  refine (awake_any _).mono ?_
  rintro e w6 ⟨rfl, k6⟩
  go_wp2
  go_ret
  exact ⟨rfl, (kk4.trans k5).trans k6⟩

set_option maxRecDepth 100000 in
set_option maxHeartbeats 2000000 in
theorem good (w : World) (n : Nat) (b0 : Option Addr) (c0 : Nat) (x0 : List ArcD) (h0 : SlAt w b0 (arcsCells x0)) (l0 : x0.length * 40 ≤ 140737488351232) (hs : Sound n x0) (he : netErr n x0 = 0) :
    Calls Try.prog 3 #[.agg #[I (n : Int), .slice b0 x0.length c0]] w fun e w' => e = .returned (.bool true) ∧ New w w' := by
  have HQ2 := Lib.hid he
  clear he
  obtain ⟨n0, hn0⟩ : ∃ z : Int, z = (n : Int) := ⟨_, rfl⟩
  have HN := Lib.hid hn0
  rw [← hn0]
  have hnew : ∀ w1 b2 c2, SlAt w1 b2 (arcsCells x0) → Calls Try.prog 14 #[.agg #[I n0, .slice b2 x0.length c2]] w1 fun e w' => ∃ b, e = .returned (.tuple #[.pointer (some ⟨b, 0, none⟩), I 0]) ∧ New w1 w' :=
    fun w1 b2 c2 h => by
      rw [hn0]
      exact (new_any w1 n x0 b2 c2 hs h).mono fun e w' ⟨p, h1, _, _, h2⟩ => ⟨p.b, h1, h2⟩
  have HQ : Hid (netErr n0 x0 = 0) := Lib.hid (by rw [hn0]; exact HQ2.out)
  clear hn0
  go_enter Try.func3, Try.ntmps3
  go_wp2_with fail
  refine (refNetCheck_any n0 b0 c0 x0 _ (h0.new ((New.refl w).alloc _)) (by omega)).mono ?_
  rw [HQ.out]
  rintro e w1 ⟨rfl, k1⟩
  have hb0 := k1.cell (p := ⟨w.heap.size, 0, none⟩) (v := I n0) (by simp)
  have hb1 := k1.cell (p := ⟨w.heap.size, 1, none⟩) (v := .slice b0 x0.length c0) (by simp)
  have kk1 := ((New.refl w).alloc _).trans k1
  clear k1
  go_wp2_with fail
  refine (refNet_any n0 b0 c0 x0 _ (h0.new kk1) l0).mono ?_
  rintro e w2 ⟨b2, c2, rfl, o2, k2⟩
  have hs2 : SlAt w2 b2 (arcsCells x0) := SlAt.of_owns o2
  have kk2 := kk1.trans k2
  have hb02 := k2.cell hb0
  have hb12 := k2.cell hb1
  have hz2 := k2.size
  have hz1 := World.block_lt_of_cell? w1 _ hb0
  clear o2 k2 hb0 hb1 kk1
  go_wp2_with fail
  have al : New w2 (w2.alloc (.cells #[I n0, .slice b2 x0.length c2] 24)) := (New.refl w2).alloc _
  refine (netCheck_any n0 b2 c2 x0 _ (hs2.new al) (by omega)).mono ?_
  rw [HQ.out]
  rintro e w3 ⟨rfl, k3⟩
  have hc0 := k3.cell (p := ⟨w2.heap.size, 0, none⟩) (v := I n0) (by simp)
  have hc1 := k3.cell (p := ⟨w2.heap.size, 1, none⟩) (v := .slice b2 x0.length c2) (by simp)
  have k23 := al.trans k3
  have hs3 := hs2.new k23
  have kk3 := kk2.trans k23
  have hb03 := k23.cell hb02
  have hb13 := k23.cell hb12
  clear k3 k23 al hs2 kk2 hb02 hb12
  go_wp2_with fail
  refine (hnew _ b2 c2 hs3).mono ?_
  rintro e w4 ⟨b, rfl, k4⟩
  have hc04 := k4.cell hc0
  have hc14 := k4.cell hc1
  have hb04 := k4.cell hb03
  have hb14 := k4.cell hb13
  have kk4 := kk3.trans k4
  have hs4 := hs3.new k4
  clear k4 hc0 hc1 hb03 hb13 kk3 hs3
  go_wp2_with fail
  refine (sameNet_yes n0 b2 b0 c2 c0 x0 _ hs4 (h0.new kk4) (by omega)).mono ?_
  rintro e w5 ⟨rfl, k5⟩
  go_wp2_with fail
  refine (awake_any _).mono ?_
  rintro e w6 ⟨rfl, k6⟩
  go_wp2
  go_ret
  exact ⟨rfl, (kk4.trans k5).trans k6⟩

theorem walk (w : World) (n0 : Int) (b0 : Option Addr) (c0 : Nat) (x0 : List ArcD) (h0 : SlAt w b0 (arcsCells x0)) (l0 : x0.length * 40 ≤ 140737488351232) :
    Calls Try.prog 3 #[.agg #[I n0, .slice b0 x0.length c0]] w fun e w' => e = .returned (.bool true) ∧ New w w' := by
  by_cases he : netErr n0 x0 = 0
  · obtain ⟨n, rfl, hs⟩ := sound_of he
    have hle := l0
    exact good w n b0 c0 x0 h0 l0 hs he
  · exact bad w n0 b0 c0 x0 h0 l0 he
set_option maxRecDepth 100000 in
theorem lifted (os : Os) (started : os.Started) (H : Type) (enc : TypeId × Value → H) :
    ReturnsInHanded {} Try.checked os 3 .any (Rows.netChecksSpec.pre6 enc Try.prog Try.f3 Rows.netChecksRow.domain false) (Rows.netChecksSpec.post enc Try.prog Try.f3 false true false false) := by
  refine returnsInHanded_of_change_sized (C := Try.checked) own started (by kernel_rfl) Try.func3
    (ChangeSpec.witness6 (enc := enc) (C := Try.checked) false ⟨#[], #[.agg #[.int .i64 0, .slice none 0 0]], []⟩ 8 (by kernel_rfl) (by kernel_rfl) (by kernel_rfl) (by kernel_rfl)) ?_
  intro W base args ds gs before hval0 hW hcnd hsz0 _
  have hval : ∀ (j : Nat) t v, Try.f3.params[j]? = some t → args[j]? = some v → Value.okWide Try.prog W .any base t v := hval0
  have hsz : (DataW.weightsEach Try.prog (Try.f3.params.toList ++ Rows.netChecksSpec.plain.varTypes Try.prog) (ds ++ gs)).all (· ≤ reachBytes) = true := hsz0
  clear hsz0
  have hW' := hW
  obtain ⟨p, q, hA0, hV, rfl, hfz, hnd⟩ := hW
  have hA : DataW.TrodAll enc Try.prog W 0 (fun _ => true) true Try.f3.params.toList args.toList ds p := hA0
  rw [Try.params3] at hA hval hsz
  obtain ⟨v0, vs0, d0, ds0, p0, q0, hargs, rfl, rfl, h0, r0'⟩ := trodAll_cons hA
  obtain ⟨rfl, rfl, rfl⟩ := trodAll_nil r0'
  obtain rfl : args = #[v0] := by cases args; simp_all
  obtain ⟨rfl, rfl⟩ := trodVars_none hV
  have k0 := h0
  have lt0 : ∀ x ∈ p0, x.block < W.heap.size := by obtain ⟨m, hm⟩ := k0; exact DataW.trod_lt m _ _ _ hm
  obtain ⟨n0, b0, c0, x0, rfl, w0, sl0, l0, e00, e01, rfl, dd0⟩ := read_net (hval 0 24 v0 rfl rfl) h0
  have l0' : x0.length * 40 ≤ 140737488351232 := by
    rcases dd0 with ⟨_, rfl⟩ | ⟨es, sp, rfl, hes⟩
    · simp
    · have := of_decide_eq_true (List.all_eq_true.1 hsz ((es.length + sp.length) * Try.prog.bytesOf 36) (DataW.weights_mem_each (j := 0) (t := 24) rfl rfl _ (by simp [DataW.weights, DataW.weightsEach, Try.underlying24, Try.underlying22])))
      rw [show Try.prog.bytesOf 36 = 40 by kernel_rfl, hes] at this
      have hr : reachBytes = 140737488351232 := rfl
      rw [hr] at this
      omega
  clear hA0 hval0
  refine (walk W n0 b0 c0 x0 sl0 l0').mono fun e W' ⟨he, hnew⟩ => ?_
  have bel := hnew.below
  subst he
  exact ⟨_, rfl, _, _, _, [], _, [], hW', trodAll_mk1 (shut_bool Try.underlying4 _), (trodAll_cons_mk (Below.trod laidOut (by kernel_rfl) (of_decide_eq_true (by kernel_rfl)) k0 bel lt0) trodAll_mk0), rfl, bel.frame _, fun h => by cases h⟩

theorem over : Rows.netChecksRow.holds Try.pinned (OpenSpec.ofChange Rows.netChecksSpec) :=
  OpenClaim.holds_of_wide 3 Try.f3 rfl rfl rfl rfl rfl rfl rfl ⟨rfl, rfl, rfl, rfl, rfl⟩ rfl rfl rfl rfl rfl (by kernel_rfl) Try.func3 (by kernel_rfl)
    (of_decide_eq_true (by kernel_rfl)) (by unfold Func.isWrapper; first | (rw [if_pos (by decide +kernel)]; kernel_rfl) | (rw [if_neg (by decide +kernel)]; exact ⟨rfl, rfl⟩))
    (fun os started H enc _ => lifted os started H enc)

/-- THE STATEMENT. -/
theorem proved : Rows.NetChecksSaid := over
end Go.Proofs.Ytijlgcbnoekmeaa.netChecks
