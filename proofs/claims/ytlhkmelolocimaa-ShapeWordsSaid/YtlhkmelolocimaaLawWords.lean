/-
  'ShapeWords': the law returns true at every input; what it is handed reads afterwards as before.
-/
import Derived.Test.YtlhkmelolocimaaRead
import Derived.Test.YtlhkmelolocimaaShapeI
namespace Go.Proofs.Ytlhkmelolocimaa.shapeWords
open Go Go.RowKit Go.ChangeShapes Go.WideShapes Go.ChangeAt
open Go.ChangeMaps (open_string shut_string)
set_option linter.all false

theorem back_all : ∀ k : Fin 11, tagS (ws.getD k.val ByteArray.empty) = ((k.val : Int) + 1, 0) := by decide +kernel
theorem back (t : Int) : (wordS t).2 = 60 ∨ ((wordS t).2 = 0 ∧ tagS (wordS t).1 = (t, 0)) := by
  unfold wordS
  split
  · rename_i h
    right
    refine ⟨rfl, ?_⟩
    have := back_all ⟨(t - 1).toNat, by omega⟩
    simp only at this ⊢
    rw [this]
    congr 1
    omega
  · left; rfl

theorem walk (a0 : Int) (h00 : 0 ≤ a0) (h01 : a0 ≤ 255) (w : World) :
    Calls Try.prog 8 #[.int .u8 a0] w fun e w' => e = .returned (.bool true) ∧ New w w' := by
  have hb := back a0
  have HB := Lib.hid hb
  clear hb
  go_enter Try.func8, Try.ntmps8
  go_wp2_with fail
  refine (refWord_any a0 h00 h01 _).mono ?_
  rintro e w1 ⟨rfl, n1⟩
  go_wp2_with fail
  refine (shWord_any a0 h00 h01 _).mono ?_
  rintro e w2 ⟨rfl, n2⟩
  go_wp2_with fail
  refine (shTag_any _ _).mono ?_
  rintro e w3 ⟨rfl, n3⟩
  go_wp2_with fail
  refine (awake_any _).mono ?_
  rintro e w4 ⟨rfl, n4⟩
  rcases HB.out with hb | ⟨hb1, hb2⟩
  · have hb' : (wordS a0).2 = 60 := hb
    go_wp2_with fail
    go_ret
    exact ⟨rfl, n1.trans (n2.trans (n3.trans n4))⟩
  · go_wp2_with fail
    go_ret
    exact ⟨rfl, n1.trans (n2.trans (n3.trans n4))⟩

set_option maxRecDepth 100000 in
theorem lifted (os : Os) (started : os.Started) (H : Type) (enc : TypeId × Value → H) :
    ReturnsInHanded {} Try.checked os 8 .any (Rows.shapeWordsSpec.pre6 enc Try.prog Try.f8 Rows.shapeWordsRow.domain false) (Rows.shapeWordsSpec.post enc Try.prog Try.f8 false true false false) := by
  refine returnsInHanded_of_change (C := Try.checked) own started (by kernel_rfl) Try.func8
    (ChangeSpec.witness6 (enc := enc) (C := Try.checked) false ⟨#[], #[.int .u8 0], []⟩ 8 (by kernel_rfl) (by kernel_rfl) (by kernel_rfl) (by kernel_rfl)) ?_
  intro W base args ds gs before hval0 hW hcnd _
  have hval : ∀ (j : Nat) t v, Try.f8.params[j]? = some t → args[j]? = some v → Value.okWide Try.prog W .any base t v := hval0
  have hW' := hW
  obtain ⟨p, q, hA0, hV, rfl, hfz, hnd⟩ := hW
  have hA : DataW.TrodAll enc Try.prog W 0 (fun _ => true) true Try.f8.params.toList args.toList ds p := hA0
  rw [Try.params8] at hA hval
  obtain ⟨v0, vs0, d0, ds0, p0, q0, hargs, rfl, rfl, h0, r0'⟩ := trodAll_cons hA
  obtain ⟨rfl, rfl, rfl⟩ := trodAll_nil r0'
  obtain rfl : args = #[v0] := by cases args; simp_all
  obtain ⟨rfl, rfl⟩ := trodVars_none hV
  have k0 := h0
  have lt0 : ∀ x ∈ p0, x.block < W.heap.size := by obtain ⟨m, hm⟩ := k0; exact DataW.trod_lt m _ _ _ hm
  obtain ⟨a0, rfl, _, _, w0⟩ := open_int Try.underlying5 (hval 0 5 v0 rfl rfl) h0
  clear hA0 hval0
  refine (walk a0 (wf_u8 w0).1 (wf_u8 w0).2 W).mono fun e W' ⟨he, hnew⟩ => ?_
  have bel := hnew.below
  subst he
  exact ⟨_, rfl, _, _, _, [], _, [], hW', trodAll_mk1 (shut_bool Try.underlying4 _), (trodAll_cons_mk (Below.trod laidOut (by kernel_rfl) (of_decide_eq_true (by kernel_rfl)) k0 bel lt0) trodAll_mk0), rfl, bel.frame _, fun h => by cases h⟩

theorem over : Rows.shapeWordsRow.holds Try.pinned (OpenSpec.ofChange Rows.shapeWordsSpec) :=
  OpenClaim.holds_of_wide 8 Try.f8 rfl rfl rfl rfl rfl rfl rfl ⟨rfl, rfl, rfl, rfl, rfl⟩ rfl rfl rfl rfl rfl (by kernel_rfl) Try.func8 (by kernel_rfl)
    (of_decide_eq_true (by kernel_rfl)) (by unfold Func.isWrapper; first | (rw [if_pos (by decide +kernel)]; kernel_rfl) | (rw [if_neg (by decide +kernel)]; exact ⟨rfl, rfl⟩))
    (fun os started H enc _ => lifted os started H enc)

/-- THE STATEMENT. -/
theorem proved : Rows.ShapeWordsSaid := over
end Go.Proofs.Ytlhkmelolocimaa.shapeWords
