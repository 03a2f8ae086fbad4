/-
  'ShapeTurned': the law returns true at every input; what it is handed reads afterwards as before.
-/
import Derived.Test.YtlhkmelolocimaaRead
import Derived.Test.YtlhkmelolocimaaShapeJ
namespace Go.Proofs.Ytlhkmelolocimaa.shapeTurned
open Go Go.RowKit Go.ChangeShapes Go.WideShapes Go.ChangeAt
open Go.ChangeMaps (open_string shut_string)
set_option linter.all false

theorem swap45 (ps : List Int) : shapeS 5 ps = ((shapeS 4 ps).1, (shapeS 4 ps).2.2, (shapeS 4 ps).2.1) := by
  by_cases h : twoS ps = true <;> simp [shapeS, goodS, rates, h]
theorem swap23 (ps : List Int) : shapeS 3 ps = ((shapeS 2 ps).1, (shapeS 2 ps).2.2, (shapeS 2 ps).2.1) := by
  by_cases h : oneS ps 64 = true <;> simp [shapeS, goodS, rates, h]

theorem walk (a0 : Int) (h00 : -9223372036854775808 ≤ a0) (h01 : a0 ≤ 9223372036854775807) (a1 : Int) (h10 : -9223372036854775808 ≤ a1) (h11 : a1 ≤ 9223372036854775807) (w : World) :
    Calls Try.prog 7 #[.int .i64 a0, .int .i64 a1] w fun e w' => e = .returned (.bool true) ∧ New w w' := by
  obtain ⟨e4, xs, ys, h4⟩ : ∃ e4 xs ys, shapeS 4 [a0, a1] = (e4, xs, ys) := ⟨_, _, _, rfl⟩
  have h5 : shapeS 5 [a0, a1] = (e4, ys, xs) := by rw [swap45, h4]
  obtain ⟨e2, us, vs, h2⟩ : ∃ e2 us vs, shapeS 2 [a0] = (e2, us, vs) := ⟨_, _, _, rfl⟩
  have h3 : shapeS 3 [a0] = (e2, vs, us) := by rw [swap23, h2]
  have H4 := Lib.hid h4
  have H5 := Lib.hid h5
  have H2 := Lib.hid h2
  have H3 := Lib.hid h3
  clear h4 h5 h2 h3
  go_enter Try.func7, Try.ntmps7
  go_wp2_with fail
  refine (shOf_is 4 _ _ [a0, a1] _ _ H4.out (SlAt.lit _ _ _) (by simp)).mono ?_
  rintro e w1 ⟨aa1, cc1, bb1, dd1, rfl, o1, p1, _, n1⟩
  go_wp2_with fail
  refine (shOf_is 5 _ _ [a0, a1] _ _ H5.out (SlAt.lit _ _ _) (by simp)).mono ?_
  rintro e w2 ⟨aa2, cc2, bb2, dd2, rfl, o2, p2, _, n2⟩
  go_wp2_with fail
  refine (shOf_is 2 _ _ [a0] _ _ H2.out (SlAt.lit _ _ _) (by simp)).mono ?_
  rintro e w3 ⟨aa3, cc3, bb3, dd3, rfl, o3, p3, _, n3⟩
  go_wp2_with fail
  refine (shOf_is 3 _ _ [a0] _ _ H3.out (SlAt.lit _ _ _) (by simp)).mono ?_
  rintro e w4 ⟨aa4, cc4, bb4, dd4, rfl, o4, p4, _, n4⟩
  have l1 := len_le o1
  have l2 := len_le p1
  have l3 := len_le o3
  have l4 := len_le p3
  have k1 : New w w1 := ((New.refl w).alloc _).trans n1
  have k2 : New w1 w2 := ((New.refl w1).alloc _).trans n2
  have k3 : New w2 w3 := ((New.refl w2).alloc _).trans n3
  have k4 : New w3 w4 := ((New.refl w3).alloc _).trans n4
  have s1 := (((o1.new k2).new k3).new k4).sl
  have s2 := (((p1.new k2).new k3).new k4).sl
  have s3 := ((o2.new k3).new k4).sl
  have s4 := ((p2.new k3).new k4).sl
  have s5 := (o3.new k4).sl
  have s6 := (p3.new k4).sl
  have s7 := o4.sl
  have s8 := p4.sl
  have k := ((k1.trans k2).trans k3).trans k4
  clear o1 o2 o3 o4 p1 p2 p3 p4 k1 k2 k3 k4 n1 n2 n3 n4
  simp only at l1 l2 l3 l4 s1 s2 s3 s4 s5 s6 s7 s8
  go_wp2_with fail
  refine (sameInts_is _ _ _ xs xs _ _ _ _ s1 s4 rfl rfl true (by simp) l1).mono ?_
  rintro e w5 ⟨rfl, m1, rfl⟩
  go_wp2_with fail
  refine (sameInts_is _ _ _ ys ys _ _ _ _ (s2.drewN _) (s3.drewN _) rfl rfl true (by simp) l2).mono ?_
  rintro e w6 ⟨rfl, m2, rfl⟩
  go_wp2_with fail
  refine (sameInts_is _ _ _ us us _ _ _ _ (s5.drewN _) (s8.drewN _) rfl rfl true (by simp) l3).mono ?_
  rintro e w6 ⟨rfl, m3, rfl⟩
  go_wp2_with fail
  refine (sameInts_is _ _ _ vs vs _ _ _ _ (s6.drewN _) (s7.drewN _) rfl rfl true (by simp) l4).mono ?_
  rintro e w6 ⟨rfl, m4, rfl⟩
  go_wp2_with fail
  refine (awake_any _).mono ?_
  rintro e w8 ⟨rfl, n8⟩
  go_wp2_with fail
  go_ret
  exact ⟨rfl, (k.drewN _).trans n8⟩

set_option maxRecDepth 100000 in
theorem lifted (os : Os) (started : os.Started) (H : Type) (enc : TypeId × Value → H) :
    ReturnsInHanded {} Try.checked os 7 .any (Rows.shapeTurnedSpec.pre6 enc Try.prog Try.f7 Rows.shapeTurnedRow.domain false) (Rows.shapeTurnedSpec.post enc Try.prog Try.f7 false true false false) := by
  refine returnsInHanded_of_change (C := Try.checked) own started (by kernel_rfl) Try.func7
    (ChangeSpec.witness6 (enc := enc) (C := Try.checked) false ⟨#[], #[.int .i64 0, .int .i64 0], []⟩ 8 (by kernel_rfl) (by kernel_rfl) (by kernel_rfl) (by kernel_rfl)) ?_
  intro W base args ds gs before hval0 hW hcnd _
  have hval : ∀ (j : Nat) t v, Try.f7.params[j]? = some t → args[j]? = some v → Value.okWide Try.prog W .any base t v := hval0
  have hW' := hW
  obtain ⟨p, q, hA0, hV, rfl, hfz, hnd⟩ := hW
  have hA : DataW.TrodAll enc Try.prog W 0 (fun _ => true) true Try.f7.params.toList args.toList ds p := hA0
  rw [Try.params7] at hA hval
  obtain ⟨v0, vs0, d0, ds0, p0, q0, hargs, rfl, rfl, h0, r0'⟩ := trodAll_cons hA
  obtain ⟨v1, vs1, d1, ds1, p1, q1, rfl, rfl, rfl, h1, r1'⟩ := trodAll_cons r0'
  obtain ⟨rfl, rfl, rfl⟩ := trodAll_nil r1'
  obtain rfl : args = #[v0, v1] := by cases args; simp_all
  obtain ⟨rfl, rfl⟩ := trodVars_none hV
  have k0 := h0
  have lt0 : ∀ x ∈ p0, x.block < W.heap.size := by obtain ⟨m, hm⟩ := k0; exact DataW.trod_lt m _ _ _ hm
  have k1 := h1
  have lt1 : ∀ x ∈ p1, x.block < W.heap.size := by obtain ⟨m, hm⟩ := k1; exact DataW.trod_lt m _ _ _ hm
  obtain ⟨a0, rfl, _, _, w0⟩ := open_int Try.underlying3 (hval 0 3 v0 rfl rfl) h0
  obtain ⟨a1, rfl, _, _, w1⟩ := open_int Try.underlying3 (hval 1 3 v1 rfl rfl) h1
  clear hA0 hval0
  refine (walk a0 (wf_i64 w0).1 (wf_i64 w0).2 a1 (wf_i64 w1).1 (wf_i64 w1).2 W).mono fun e W' ⟨he, hnew⟩ => ?_
  have bel := hnew.below
  subst he
  exact ⟨_, rfl, _, _, _, [], _, [], hW', trodAll_mk1 (shut_bool Try.underlying4 _), (trodAll_cons_mk (Below.trod laidOut (by kernel_rfl) (of_decide_eq_true (by kernel_rfl)) k0 bel lt0) (trodAll_cons_mk (Below.trod laidOut (by kernel_rfl) (of_decide_eq_true (by kernel_rfl)) k1 bel lt1) trodAll_mk0)), rfl, bel.frame _, fun h => by cases h⟩

theorem over : Rows.shapeTurnedRow.holds Try.pinned (OpenSpec.ofChange Rows.shapeTurnedSpec) :=
  OpenClaim.holds_of_wide 7 Try.f7 rfl rfl rfl rfl rfl rfl rfl ⟨rfl, rfl, rfl, rfl, rfl⟩ rfl rfl rfl rfl rfl (by kernel_rfl) Try.func7 (by kernel_rfl)
    (of_decide_eq_true (by kernel_rfl)) (by unfold Func.isWrapper; first | (rw [if_pos (by decide +kernel)]; kernel_rfl) | (rw [if_neg (by decide +kernel)]; exact ⟨rfl, rfl⟩))
    (fun os started H enc _ => lifted os started H enc)

/-- THE STATEMENT. -/
theorem proved : Rows.ShapeTurnedSaid := over
end Go.Proofs.Ytlhkmelolocimaa.shapeTurned
