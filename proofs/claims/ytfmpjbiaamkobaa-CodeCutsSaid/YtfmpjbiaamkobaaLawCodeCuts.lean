/-
  'CodeCuts': the law returns true at every input; what it is handed reads afterwards as before.
-/
import Derived.Test.YtfmpjbiaamkobaaRead
import Derived.Test.YtfmpjbiaamkobaaReadProg
import Derived.Test.YtfmpjbiaamkobaaCodeZ
namespace Go.Proofs.Ytfmpjbiaamkobaa.codeCuts
open Go Go.RowKit Go.Joins Go.ChangeShapes Go.WideShapes Go.ChangeAt
open Go.ChangeMaps (open_string shut_string)
set_option linter.all false

set_option maxRecDepth 100000 in
set_option maxHeartbeats 4000000 in
theorem bad (w : World) (p0 : Pg) (hp0 : PgAt w p0) (hl0 : Lens p0) (hw0 : PgWf p0) (a1 : Int) (a2 : ByteArray) (h0 : (stepsR p0).2 ≠ 0) :
    Calls Try.prog 9 #[p0.v, I a1, .string a2] w fun e w' => e = .returned (.bool true) ∧ New w w' := by
  have ka : New w (w.alloc (.cells p0.cs 26)) := Keeps.alloc _ _
  have h1 := fun W k => cencode_bad W p0 (hp0.new k) hl0 h0
  have h2 := fun W k => ccheck_any W p0 (hp0.new k) hl0
  generalize (stepsR p0).2 = r at h0 h1 h2
  have e0 : (r != 0) = true := by simpa using h0
  have e1 : (r == 0) = false := by simpa using h0
  simp only [Pg.v, Pg.cs] at h1 h2 ka ⊢
  clear hp0 hl0 hw0 h0
  go_enter Try.func9, Try.ntmps9
  go_wp2_with fail
  refine (h1 _ ka).mono ?_
  rintro e w1 ⟨rfl, n1⟩
  go_wp2_with fail
  refine (awake_any _).mono ?_
  rintro e w9 ⟨rfl, n9⟩
  go_wp2_with fail
  go_ret
  exact ⟨rfl, (ka.trans n1).trans n9⟩

theorem bytes_cut (s : ByteArray) (k : Nat) : bytesOf (s.extract 0 k) = (bytesOf s).take k := by
  unfold bytesOf
  rw [Lib.extract_data]
  simp [List.map_take]

set_option maxRecDepth 100000 in
set_option maxHeartbeats 8000000 in
theorem good (w : World) (p0 : Pg) (hp0 : PgAt w p0) (hl0 : Lens p0) (hw0 : PgWf p0) (a1 : Int) (h10 : -9223372036854775808 ≤ a1) (h11 : a1 ≤ 9223372036854775807) (a2 : ByteArray) (h2 : a2.size ≤ 140737488351232) (h0 : (stepsR p0).2 = 0) :
    Calls Try.prog 9 #[p0.v, I a1, .string a2] w fun e w' => e = .returned (.bool true) ∧ New w w' := by
  have ka : New w (w.alloc (.cells p0.cs 26)) := Keeps.alloc _ _
  have h1 := fun W k => cencode_good W p0 (hp0.new k) hl0 hw0 h0
  obtain ⟨hbb, hsz⟩ := sound_bytes h0 hw0
  have hplen : (progB p0).length = (strOfNums (progB p0)).size := by rw [strOfNums_size]
  have hmore : ∀ W : World, a2.toList.isEmpty = false → Calls Try.prog 22 #[.string (strOfNums (progB p0) ++ a2)] W (Decoded W (.error (204, ((strOfNums (progB p0)).size : Int)))) := by
    intro W ht
    have h := cdecode_any W (strOfNums (progB p0) ++ a2) (by rw [ByteArray.size_append]; omega)
    rw [bytes_app, hbb, decode_more h0 hw0 (bytesOf a2) (by
      intro e
      have h1 : (bytesOf a2).length = 0 := by rw [e]; rfl
      rw [bytesOf_len] at h1
      rw [Lib.toList_data] at ht
      have h2 : a2.data.toList.length = 0 := by rw [Array.length_toList]; exact h1
      rw [List.eq_nil_of_length_eq_zero h2] at ht
      cases ht), hplen] at h
    exact h
  have hcut : ∀ (W : World) (k : Nat), (k : Int) < ((strOfNums (progB p0)).size : Int) → Calls Try.prog 22 #[.string ((strOfNums (progB p0)).extract 0 k)] W (Decoded W (.error (if k < 4 then (202, 0) else (203, (k : Int))))) := by
    intro W k hk
    have hx : bytesOf ((strOfNums (progB p0)).extract 0 k) = (progB p0).take k := by
      rw [bytes_cut, hbb]
    have h := cdecode_any W ((strOfNums (progB p0)).extract 0 k) (by
      have := bytesOf_len ((strOfNums (progB p0)).extract 0 k)
      rw [hx, List.length_take] at this
      omega)
    rw [hx] at h
    by_cases h4 : k < 4
    · rw [if_pos h4]
      rw [decode_magic _ (by rw [List.length_take]; omega)] at h
      exact h
    · rw [if_neg h4]
      rw [decode_cut h0 hw0 k (by omega) (by omega)] at h
      exact h
  generalize strOfNums (progB p0) = s at h1 hmore hcut hsz
  clear hbb hplen hp0 hl0 hw0 h0
  simp only [Pg.v, Pg.cs] at h1 ka ⊢
  have HM := Lib.hid hmore
  have HC := Lib.hid hcut
  clear hmore hcut
  by_cases hk0 : a1 < 0
  · by_cases ht : a2.toList.isEmpty = true
    · have ht2 : a2.toList = [] := by simpa using ht
      go_enter Try.func9, Try.ntmps9
      go_wp2_with fail
      refine (h1 _ ka).mono ?_
      rintro e w1 ⟨rfl, n1⟩
      clear h1
      go_wp2_with fail
      refine (awake_any _).mono ?_
      rintro e w9 ⟨rfl, n9⟩
      go_wp2_with fail
      go_ret
      exact ⟨rfl, New.trans (ka.trans n1) n9⟩
    · have ht1 : a2.toList.isEmpty = false := by simpa using ht
      go_enter Try.func9, Try.ntmps9
      go_wp2_with fail
      refine (h1 _ ka).mono ?_
      rintro e w1 ⟨rfl, n1⟩
      clear h1
      go_wp2_with fail
      refine (HM.out _ ht1).mono ?_
      rintro e w2 ⟨rfl, n2⟩
      go_wp2_with fail
      refine (awake_any _).mono ?_
      rintro e w9 ⟨rfl, n9⟩
      go_wp2_with fail
      go_ret
      exact ⟨rfl, New.trans ((((ka.trans n1).trans n2).alloc _).alloc _) n9⟩
  · by_cases hk1 : a1 < (s.size : Int)
    · obtain ⟨k, rfl⟩ := Int.eq_ofNat_of_zero_le (show 0 ≤ a1 by omega)
      by_cases h4 : k < 4
      · by_cases ht : a2.toList.isEmpty = true
        · have ht2 : a2.toList = [] := by simpa using ht
          go_enter Try.func9, Try.ntmps9
          go_wp2_with fail
          refine (h1 _ ka).mono ?_
          rintro e w1 ⟨rfl, n1⟩
          clear h1
          go_wp2_with fail
          refine (HC.out _ k hk1).mono ?_
          rw [if_pos h4]
          rintro e w5 ⟨rfl, n5⟩
          go_wp2_with fail
          refine (awake_any _).mono ?_
          rintro e w9 ⟨rfl, n9⟩
          go_wp2_with fail
          go_ret
          exact ⟨rfl, New.trans ((((ka.trans n1).trans n5).alloc _).alloc _) n9⟩
        · have ht1 : a2.toList.isEmpty = false := by simpa using ht
          go_enter Try.func9, Try.ntmps9
          go_wp2_with fail
          refine (h1 _ ka).mono ?_
          rintro e w1 ⟨rfl, n1⟩
          clear h1
          go_wp2_with fail
          refine (HM.out _ ht1).mono ?_
          rintro e w2 ⟨rfl, n2⟩
          go_wp2_with fail
          refine (HC.out _ k hk1).mono ?_
          rw [if_pos h4]
          rintro e w5 ⟨rfl, n5⟩
          go_wp2_with fail
          refine (awake_any _).mono ?_
          rintro e w9 ⟨rfl, n9⟩
          go_wp2_with fail
          go_ret
          exact ⟨rfl, New.trans ((((((((ka.trans n1).trans n2).alloc _).alloc _).trans n5)).alloc _).alloc _) n9⟩
      · by_cases ht : a2.toList.isEmpty = true
        · have ht2 : a2.toList = [] := by simpa using ht
          go_enter Try.func9, Try.ntmps9
          go_wp2_with fail
          refine (h1 _ ka).mono ?_
          rintro e w1 ⟨rfl, n1⟩
          clear h1
          go_wp2_with fail
          refine (HC.out _ k hk1).mono ?_
          rw [if_neg h4]
          rintro e w5 ⟨rfl, n5⟩
          go_wp2_with fail
          refine (awake_any _).mono ?_
          rintro e w9 ⟨rfl, n9⟩
          go_wp2_with fail
          go_ret
          exact ⟨rfl, New.trans ((((ka.trans n1).trans n5).alloc _).alloc _) n9⟩
        · have ht1 : a2.toList.isEmpty = false := by simpa using ht
          go_enter Try.func9, Try.ntmps9
          go_wp2_with fail
          refine (h1 _ ka).mono ?_
          rintro e w1 ⟨rfl, n1⟩
          clear h1
          go_wp2_with fail
          refine (HM.out _ ht1).mono ?_
          rintro e w2 ⟨rfl, n2⟩
          go_wp2_with fail
          refine (HC.out _ k hk1).mono ?_
          rw [if_neg h4]
          rintro e w5 ⟨rfl, n5⟩
          go_wp2_with fail
          refine (awake_any _).mono ?_
          rintro e w9 ⟨rfl, n9⟩
          go_wp2_with fail
          go_ret
          exact ⟨rfl, New.trans ((((((((ka.trans n1).trans n2).alloc _).alloc _).trans n5)).alloc _).alloc _) n9⟩
    · by_cases ht : a2.toList.isEmpty = true
      · have ht2 : a2.toList = [] := by simpa using ht
        go_enter Try.func9, Try.ntmps9
        go_wp2_with fail
        refine (h1 _ ka).mono ?_
        rintro e w1 ⟨rfl, n1⟩
        clear h1
        go_wp2_with fail
        refine (awake_any _).mono ?_
        rintro e w9 ⟨rfl, n9⟩
        go_wp2_with fail
        go_ret
        exact ⟨rfl, New.trans (ka.trans n1) n9⟩
      · have ht1 : a2.toList.isEmpty = false := by simpa using ht
        go_enter Try.func9, Try.ntmps9
        go_wp2_with fail
        refine (h1 _ ka).mono ?_
        rintro e w1 ⟨rfl, n1⟩
        clear h1
        go_wp2_with fail
        refine (HM.out _ ht1).mono ?_
        rintro e w2 ⟨rfl, n2⟩
        go_wp2_with fail
        refine (awake_any _).mono ?_
        rintro e w9 ⟨rfl, n9⟩
        go_wp2_with fail
        go_ret
        exact ⟨rfl, New.trans ((((ka.trans n1).trans n2).alloc _).alloc _) n9⟩

set_option maxRecDepth 100000 in
set_option maxHeartbeats 4000000 in
theorem walk (w : World) (p0 : Pg) (hp0 : PgAt w p0) (hl0 : Lens p0) (hw0 : PgWf p0) (a1 : Int) (h10 : -9223372036854775808 ≤ a1) (h11 : a1 ≤ 9223372036854775807) (a2 : ByteArray) (h2 : a2.size ≤ 140737488351232) :
    Calls Try.prog 9 #[p0.v, .int .i64 a1, .string a2] w fun e w' => e = .returned (.bool true) ∧ New w w' := by
  by_cases h0 : (stepsR p0).2 = 0
  · exact good w p0 hp0 hl0 hw0 a1 h10 h11 a2 h2 h0
  · exact bad w p0 hp0 hl0 hw0 a1 a2 h0
set_option maxRecDepth 100000 in
theorem lifted (os : Os) (started : os.Started) (H : Type) (enc : TypeId × Value → H) :
    ReturnsInHanded {} Try.checked os 9 .any (Rows.codeCutsSpec.pre6 enc Try.prog Try.f9 Rows.codeCutsRow.domain false) (Rows.codeCutsSpec.post enc Try.prog Try.f9 false true false false) := by
  refine returnsInHanded_of_change_sized (C := Try.checked) own started (by kernel_rfl) Try.func9
    (ChangeSpec.witness6 (enc := enc) (C := Try.checked) false ⟨#[], #[.agg #[.int .i64 0, .int .i64 0, .int .i64 0, .int .i64 0, .slice none 0 0, .slice none 0 0, .slice none 0 0], .int .i64 0, .string ByteArray.empty], []⟩ 8 (by kernel_rfl) (by kernel_rfl) (by kernel_rfl) (by kernel_rfl)) ?_
  intro W base args ds gs before hval0 hW hcnd hsz0 _
  have hval : ∀ (j : Nat) t v, Try.f9.params[j]? = some t → args[j]? = some v → Value.okWide Try.prog W .any base t v := hval0
  have hsz : (DataW.weightsEach Try.prog (Try.f9.params.toList ++ Rows.codeCutsSpec.plain.varTypes Try.prog) (ds ++ gs)).all (· ≤ reachBytes) = true := hsz0
  clear hsz0
  have hW' := hW
  obtain ⟨p, q, hA0, hV, rfl, hfz, hnd⟩ := hW
  have hA : DataW.TrodAll enc Try.prog W 0 (fun _ => true) true Try.f9.params.toList args.toList ds p := hA0
  rw [Try.params9] at hA hval hsz
  obtain ⟨v0, vs0, d0, ds0, p0, q0, hargs, rfl, rfl, h0, r0'⟩ := trodAll_cons hA
  obtain ⟨v1, vs1, d1, ds1, p1, q1, rfl, rfl, rfl, h1, r1'⟩ := trodAll_cons r0'
  obtain ⟨v2, vs2, d2, ds2, p2, q2, rfl, rfl, rfl, h2, r2'⟩ := trodAll_cons r1'
  obtain ⟨rfl, rfl, rfl⟩ := trodAll_nil r2'
  obtain rfl : args = #[v0, v1, v2] := by cases args; simp_all
  obtain ⟨rfl, rfl⟩ := trodVars_none hV
  have k0 := h0
  have lt0 : ∀ x ∈ p0, x.block < W.heap.size := by obtain ⟨m, hm⟩ := k0; exact DataW.trod_lt m _ _ _ hm
  have k1 := h1
  have lt1 : ∀ x ∈ p1, x.block < W.heap.size := by obtain ⟨m, hm⟩ := k1; exact DataW.trod_lt m _ _ _ hm
  have k2 := h2
  have lt2 : ∀ x ∈ p2, x.block < W.heap.size := by obtain ⟨m, hm⟩ := k2; exact DataW.trod_lt m _ _ _ hm
  obtain ⟨p0', rfl, hp0, hl0, hw0⟩ := read_prog (hval 0 26 v0 rfl rfl) h0
  obtain ⟨a1, rfl, _, _, w1⟩ := open_int Try.underlying3 (hval 1 3 v1 rfl rfl) h1
  obtain ⟨a2, rfl, e2, _, w2⟩ := open_string Try.underlying9 (hval 2 9 v2 rfl rfl) h2
  have s2 : a2.size ≤ 140737488351232 := by
    have hh := sized_string hsz (j := 2) (t := 9) (bytes := a2.data.toList) rfl (by rw [e2]; rfl)
    have hr : reachBytes = 140737488351232 := rfl
    rw [hr, Array.length_toList] at hh
    exact hh
  clear hA0 hval0
  refine (walk W p0' hp0 hl0 hw0 a1 (wf_i64 w1).1 (wf_i64 w1).2 a2 s2).mono fun e W' ⟨he, hnew⟩ => ?_
  have bel := hnew.below
  subst he
  exact ⟨_, rfl, _, _, _, [], _, [], hW', trodAll_mk1 (shut_bool Try.underlying4 _), (trodAll_cons_mk (Below.trod laidOut (by kernel_rfl) (of_decide_eq_true (by kernel_rfl)) k0 bel lt0) (trodAll_cons_mk (Below.trod laidOut (by kernel_rfl) (of_decide_eq_true (by kernel_rfl)) k1 bel lt1) (trodAll_cons_mk (Below.trod laidOut (by kernel_rfl) (of_decide_eq_true (by kernel_rfl)) k2 bel lt2) trodAll_mk0))), rfl, bel.frame _, fun h => by cases h⟩

theorem over : Rows.codeCutsRow.holds Try.pinned (OpenSpec.ofChange Rows.codeCutsSpec) :=
  OpenClaim.holds_of_wide 9 Try.f9 rfl rfl rfl rfl rfl rfl rfl ⟨rfl, rfl, rfl, rfl, rfl⟩ rfl rfl rfl rfl rfl (by kernel_rfl) Try.func9 (by kernel_rfl)
    (of_decide_eq_true (by kernel_rfl)) (by unfold Func.isWrapper; first | (rw [if_pos (by decide +kernel)]; kernel_rfl) | (rw [if_neg (by decide +kernel)]; exact ⟨rfl, rfl⟩))
    (fun os started H enc _ => lifted os started H enc)

/-- THE STATEMENT. -/
theorem proved : Rows.CodeCutsSaid := over
end Go.Proofs.Ytfmpjbiaamkobaa.codeCuts
