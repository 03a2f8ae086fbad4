/-
  'NetOf': the law returns true at every input; what it is handed reads afterwards as before.
-/
import Derived.Test.YtijlgcbnoekmeaaRead
import Derived.Test.YtijlgcbnoekmeaaReadGrN
import Derived.Test.YtijlgcbnoekmeaaNetO2
import Derived.Test.YtijlgcbnoekmeaaNetI
namespace Go.Proofs.Ytijlgcbnoekmeaa.netOf
open Go Go.RowKit Go.Joins Go.ChangeShapes Go.WideShapes Go.ChangeAt
open Go.ChangeMaps (open_string shut_string)
set_option linter.all false

set_option maxRecDepth 100000 in
set_option maxHeartbeats 16000000 in
theorem walk (w : World) (g0 : Gr) (hg0 : GrAt w g0) (hl0 : GLen g0) (hw0 : GWf g0) :
    Calls Try.prog 10 #[g0.v] w fun e w' => e = .returned (.bool true) ∧ New w w' := by
  have HR := Lib.hid (fun W (k : New w W) => rof_any W g0 (hg0.new k) hl0)
  have HC := Lib.hid (fun W (k : New w W) => cof_any W g0 (hg0.new k) hl0)
  have hll := netL_len g0
  simp only [Gr.v, Gr.cs] at HR HC ⊢
  go_enter Try.func10, Try.ntmps10
  have na : New w (w.alloc (.cells #[.string g0.name, .slice g0.aa g0.acts.length g0.ac, .slice g0.ea g0.edges.length g0.ec, .slice g0.ia g0.ins.length g0.ic, .slice g0.oa g0.outs.length g0.oc] 63)) := (New.refl w).alloc _
  have ha : (w.alloc (.cells #[.string g0.name, .slice g0.aa g0.acts.length g0.ac, .slice g0.ea g0.edges.length g0.ec, .slice g0.ia g0.ins.length g0.ic, .slice g0.oa g0.outs.length g0.oc] 63)).heap[w.heap.size]? = some (.cells #[.string g0.name, .slice g0.aa g0.acts.length g0.ac, .slice g0.ea g0.edges.length g0.ec, .slice g0.ia g0.ins.length g0.ic, .slice g0.oa g0.outs.length g0.oc] 63 (0, 0)) := heap_alloc_new w _
  go_wp2_with fail
  generalize (w.alloc (.cells #[.string g0.name, .slice g0.aa g0.acts.length g0.ac, .slice g0.ea g0.edges.length g0.ec, .slice g0.ia g0.ins.length g0.ic, .slice g0.oa g0.outs.length g0.oc] 63)) = wa at na ha ⊢
  have HB := Lib.hid ha
  clear ha
  refine (HR.out wa na).mono ?_
  intro e w1 hr
  obtain ⟨a, c, rfl, s1, k1⟩ := hr.uni
  clear hr
  have hN1 := na.trans k1
  obtain ⟨x0, x1, x2, x3, x4, hXl⟩ := gr_cells (Keeps.heap k1 HB.out (fun h => h))
  go_wp2_with fail
  have kz : New w1 (w1.alloc (.cells #[I (netN g0), .slice a (netL g0).length c] 24)) := (New.refl w1).alloc _
  have hz : (w1.alloc (.cells #[I (netN g0), .slice a (netL g0).length c] 24)).heap[w1.heap.size]? = some (.cells #[I (netN g0), .slice a (netL g0).length c] 24 (0, 0)) := heap_alloc_new w1 _
  generalize (w1.alloc (.cells #[I (netN g0), .slice a (netL g0).length c] 24)) = w2 at kz hz  ⊢
  have hN2 := hN1.trans kz
  have s2 := s1.new kz
  clear x0 x1 x2 x3 x4 hXl HB HR na k1 s1 kz
  generalize w1.heap.size = P3 at hz ⊢
  refine (HC.out w2 hN2).mono ?_
  intro e w3 hr
  obtain ⟨b, d, rfl, s3, k3⟩ := hr.uni
  clear hr HC
  have hz3 := Keeps.heap k3 hz (fun h => h)
  have s4 := s2.new k3
  have hN3 := hN2.trans k3
  generalize netL g0 = LL at hz3 s3 s4 hll ⊢
  generalize netN g0 = NN at hz3 ⊢
  generalize (findG g0).1 = rr
  clear hz s2 k3
  obtain ⟨n0, n1, -, -, hNl⟩ := net_cells hz3
  have hSN := sameNet_yes NN a b c d LL (w3.alloc (.cells #[I NN, .slice b LL.length d] 24)) (s4.new ((New.refl w3).alloc _)) (s3.new ((New.refl w3).alloc _)) (by omega)
  go_wp2_with fail
  refine hSN.mono ?_
  rintro e w5 ⟨rfl, k5⟩
  go_wp2_with fail
  refine (awake_any w5).mono ?_
  rintro e w6 ⟨rfl, k6⟩
  go_wp2_with fail
  go_ret
  exact ⟨rfl, ((hN3.alloc _).trans k5).trans k6⟩
set_option maxRecDepth 100000 in
theorem lifted (os : Os) (started : os.Started) (H : Type) (enc : TypeId × Value → H) :
    ReturnsInHanded {} Try.checked os 10 .any (Rows.netOfSpec.pre6 enc Try.prog Try.f10 Rows.netOfRow.domain false) (Rows.netOfSpec.post enc Try.prog Try.f10 false true false false) := by
  refine returnsInHanded_of_change (C := Try.checked) own started (by kernel_rfl) Try.func10
    (ChangeSpec.witness6 (enc := enc) (C := Try.checked) false ⟨#[], #[.agg #[.string ByteArray.empty, .slice none 0 0, .slice none 0 0, .slice none 0 0, .slice none 0 0]], []⟩ 8 (by kernel_rfl) (by kernel_rfl) (by kernel_rfl) (by kernel_rfl)) ?_
  intro W base args ds gs before hval0 hW hcnd _
  have hval : ∀ (j : Nat) t v, Try.f10.params[j]? = some t → args[j]? = some v → Value.okWide Try.prog W .any base t v := hval0
  have hW' := hW
  obtain ⟨p, q, hA0, hV, rfl, hfz, hnd⟩ := hW
  have hA : DataW.TrodAll enc Try.prog W 0 (fun _ => true) true Try.f10.params.toList args.toList ds p := hA0
  rw [Try.params10] at hA hval
  obtain ⟨v0, vs0, d0, ds0, p0, q0, hargs, rfl, rfl, h0, r0'⟩ := trodAll_cons hA
  obtain ⟨rfl, rfl, rfl⟩ := trodAll_nil r0'
  obtain rfl : args = #[v0] := by cases args; simp_all
  obtain ⟨rfl, rfl⟩ := trodVars_none hV
  have k0 := h0
  have lt0 : ∀ x ∈ p0, x.block < W.heap.size := by obtain ⟨m, hm⟩ := k0; exact DataW.trod_lt m _ _ _ hm
  obtain ⟨g0', rfl, hg0, hl0, hw0, hr0⟩ := read_graph (hval 0 63 v0 rfl rfl) h0
  clear hA0 hval0
  refine (walk W g0' hg0 hl0 hw0).mono fun e W' ⟨he, hnew⟩ => ?_
  have bel := hnew.below
  subst he
  exact ⟨_, rfl, _, _, _, [], _, [], hW', trodAll_mk1 (shut_bool Try.underlying4 _), (trodAll_cons_mk (Below.trod laidOut (by kernel_rfl) (of_decide_eq_true (by kernel_rfl)) k0 bel lt0) trodAll_mk0), rfl, bel.frame _, fun h => by cases h⟩

theorem over : Rows.netOfRow.holds Try.pinned (OpenSpec.ofChange Rows.netOfSpec) :=
  OpenClaim.holds_of_wide 10 Try.f10 rfl rfl rfl rfl rfl rfl rfl ⟨rfl, rfl, rfl, rfl, rfl⟩ rfl rfl rfl rfl rfl (by kernel_rfl) Try.func10 (by kernel_rfl)
    (of_decide_eq_true (by kernel_rfl)) (by unfold Func.isWrapper; first | (rw [if_pos (by decide +kernel)]; kernel_rfl) | (rw [if_neg (by decide +kernel)]; exact ⟨rfl, rfl⟩))
    (fun os started H enc _ => lifted os started H enc)

/-- THE STATEMENT. -/
theorem proved : Rows.NetOfSaid := over
end Go.Proofs.Ytijlgcbnoekmeaa.netOf
