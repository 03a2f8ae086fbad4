/-
  'LexNamed': the law returns true at every input; what it is handed reads afterwards as before; the variables of the library that it reads hold what the program's text lays.
-/
import Derived.Test.YtmmoocbnmjmfeaaDoorLexT
import Derived.Test.YtmmoocbnmjmfeaaDoorLexG
namespace Go.Proofs.YtmmoocbnmjmfeaaDoor.lexNamed
open Go Go.RowKit Go.Joins Go.ChangeShapes Go.WideShapes Go.ChangeAt
open Go.ChangeMaps (open_string shut_string)
set_option linter.all false

set_option maxRecDepth 100000 in
set_option maxHeartbeats 4000000 in
theorem walk (w : World) (he : Env w) (a0 : ByteArray) (h0 : a0.size ≤ 140737488351232) :
    Calls Tryd.prog 5 #[.string a0] w fun e w' => e = .returned (.bool true) ∧ New w w' := by
  have hs : a0.size ≤ 9223372036854775807 := by omega
  obtain ⟨⟨l, c, k⟩, hA⟩ : ∃ r, lexA a0.data.toList = r := ⟨_, rfl⟩
  have hcall := fun W e => callA W a0 e hs l c k hA l.length rfl
  have hnm := fun W => cname_any W a0 hs
  have hiff := named_iff a0.data.toList
  rw [hA, ← nameB_eq] at hiff
  have hcode := lexA_code hA
  obtain ⟨b, hb⟩ : ∃ b, nameB a0 = b := ⟨_, rfl⟩
  rw [hb] at hnm hiff
  clear hA hb hs
  rcases hcode with ⟨rfl, rfl, hne, -, -⟩ | ⟨hc, rfl⟩
  · by_cases h2 : l.length = 2
    · obtain ⟨t, u, rfl⟩ : ∃ t u, l = [t, u] := by
        match l, h2 with
        | [t, u], _ => exact ⟨t, u, rfl⟩
      have hcall : ∀ W (e : Env W), Calls Tryd.prog 11 #[.string a0] W fun e w' => ∃ a cc, e = .returned (.tuple #[.slice a 2 cc, .agg #[I 0, I 0]]) ∧ New W w' ∧ SlAt w' a ([t, u].flatMap tokCells) := hcall
      obtain ⟨so, tx, nu, at_⟩ := t
      have hval : (b = true ↔ so = 1 ∧ tx = a0.data.toList ∧ nu = 0 ∧ at_ = 0) := by
        simpa using hiff
      obtain ⟨T, hT⟩ : ∃ T : ByteArray, (⟨tx.toArray⟩ : ByteArray) = T := ⟨_, rfl⟩
      have hTl : tx = a0.data.toList ↔ T = a0 := by
        rw [← hT]
        constructor
        · rintro rfl; rfl
        · rintro rfl; rfl
      rw [hTl] at hval
      have hcall : ∀ W (e : Env W), Calls Tryd.prog 11 #[.string a0] W fun e w' => ∃ b1 o1 cc, e = .returned (.tuple #[.slice (some ⟨b1, o1, none⟩) 2 cc, .agg #[I 0, I 0]]) ∧ New W w' ∧ b1 < w'.heap.size ∧
          w'.cell? ⟨b1, o1, none⟩ = some (.int .u8 so) ∧ w'.cell? ⟨b1, o1 + 1, none⟩ = some (.string T) ∧ w'.cell? ⟨b1, o1 + 2, none⟩ = some (I nu) ∧ w'.cell? ⟨b1, o1 + 3, none⟩ = some (I (at_ : Int)) := fun W e => (hcall W e).mono (by
        rintro e w2 ⟨ao, cc, rfl, n2, hsl⟩
        obtain ⟨b1, o1, rfl, q0, q1, q2, q3⟩ := toks_at hsl (i := 0) (by simp)
        simp only [List.getElem_cons_zero, Nat.zero_mul, Nat.add_zero, hT] at q0 q1 q2 q3
        exact ⟨b1, o1, cc, rfl, n2, World.block_lt_of_cell? w2 _ q0, q0, q1, q2, q3⟩)
      clear hiff h2 hne hT hTl
      by_cases hc1 : so = 1
      · subst hc1
        by_cases hc2 : T = a0
        · subst hc2
          have ey := lx_yes T
          by_cases hc3 : nu = 0
          · subst hc3
            by_cases hc4 : at_ = 0
            · subst hc4
              have hbf : b = true := by
                exact hval.2 ⟨rfl, rfl, rfl, rfl⟩
              subst hbf
              clear hval
              go_enter Tryd.func5, Tryd.ntmps5
              go_wp2_with fail
              refine (hcall _ he).mono ?_
              rintro e w2 ⟨b1, o1, cc, rfl, n2, hb1, q0, q1, q2, q3⟩
              have t2 : New w (w2.alloc (.cells #[I 0, I 0] 25)) := n2.alloc _
              clear hcall
              go_wp2_with fail
              refine (awake_any _ (he.new t2)).mono ?_
              rintro e w3 ⟨rfl, n3⟩
              go_wp2_with fail
              refine (hnm _).mono ?_
              rintro e w4 ⟨rfl, n4⟩
              have HN := Lib.hid ((t2.trans n3).trans n4)
              clear n2 n3 n4 t2
              go_wp2_with fail
              go_ret
              exact ⟨rfl, HN.out⟩
            · have d1 : ((at_ : Int) == 0) = false := by simpa using fun h : (at_ : Int) = 0 => hc4 (by omega)
              have hbf : b = false := by
                cases b with
                | false => rfl
                | true => exact absurd (hval.1 rfl) (fun h => by simp_all)
              subst hbf
              clear hval hc4
              go_enter Tryd.func5, Tryd.ntmps5
              go_wp2_with fail
              refine (hcall _ he).mono ?_
              rintro e w2 ⟨b1, o1, cc, rfl, n2, hb1, q0, q1, q2, q3⟩
              have t2 : New w (w2.alloc (.cells #[I 0, I 0] 25)) := n2.alloc _
              clear hcall
              go_wp2_with fail
              refine (awake_any _ (he.new t2)).mono ?_
              rintro e w3 ⟨rfl, n3⟩
              go_wp2_with fail
              refine (hnm _).mono ?_
              rintro e w4 ⟨rfl, n4⟩
              have HN := Lib.hid ((t2.trans n3).trans n4)
              clear n2 n3 n4 t2
              go_wp2_with fail
              go_ret
              exact ⟨rfl, HN.out⟩
          · have d1 : (nu == 0) = false := by simpa using hc3
            have hbf : b = false := by
              cases b with
              | false => rfl
              | true => exact absurd (hval.1 rfl) (fun h => by simp_all)
            subst hbf
            clear hval hc3
            go_enter Tryd.func5, Tryd.ntmps5
            go_wp2_with fail
            refine (hcall _ he).mono ?_
            rintro e w2 ⟨b1, o1, cc, rfl, n2, hb1, q0, q1, q2, q3⟩
            have t2 : New w (w2.alloc (.cells #[I 0, I 0] 25)) := n2.alloc _
            clear hcall
            go_wp2_with fail
            refine (awake_any _ (he.new t2)).mono ?_
            rintro e w3 ⟨rfl, n3⟩
            go_wp2_with fail
            refine (hnm _).mono ?_
            rintro e w4 ⟨rfl, n4⟩
            have HN := Lib.hid ((t2.trans n3).trans n4)
            clear n2 n3 n4 t2
            go_wp2_with fail
            go_ret
            exact ⟨rfl, HN.out⟩
        · have d1 : (T.toList == a0.toList) = false := lx_no (fun h => hc2 (by apply ByteArray.ext; exact Array.toList_inj.1 h))
          have hbf : b = false := by
            cases b with
            | false => rfl
            | true => exact absurd (hval.1 rfl) (fun h => by simp_all)
          subst hbf
          clear hval hc2
          go_enter Tryd.func5, Tryd.ntmps5
          go_wp2_with fail
          refine (hcall _ he).mono ?_
          rintro e w2 ⟨b1, o1, cc, rfl, n2, hb1, q0, q1, q2, q3⟩
          have t2 : New w (w2.alloc (.cells #[I 0, I 0] 25)) := n2.alloc _
          clear hcall
          go_wp2_with fail
          refine (awake_any _ (he.new t2)).mono ?_
          rintro e w3 ⟨rfl, n3⟩
          go_wp2_with fail
          refine (hnm _).mono ?_
          rintro e w4 ⟨rfl, n4⟩
          have HN := Lib.hid ((t2.trans n3).trans n4)
          clear n2 n3 n4 t2
          go_wp2_with fail
          go_ret
          exact ⟨rfl, HN.out⟩
      · have d1 : (so == 1) = false := by simpa using hc1
        have hbf : b = false := by
          cases b with
          | false => rfl
          | true => exact absurd (hval.1 rfl) (fun h => by simp_all)
        subst hbf
        clear hval hc1
        go_enter Tryd.func5, Tryd.ntmps5
        go_wp2_with fail
        refine (hcall _ he).mono ?_
        rintro e w2 ⟨b1, o1, cc, rfl, n2, hb1, q0, q1, q2, q3⟩
        have t2 : New w (w2.alloc (.cells #[I 0, I 0] 25)) := n2.alloc _
        clear hcall
        go_wp2_with fail
        refine (awake_any _ (he.new t2)).mono ?_
        rintro e w3 ⟨rfl, n3⟩
        go_wp2_with fail
        refine (hnm _).mono ?_
        rintro e w4 ⟨rfl, n4⟩
        have HN := Lib.hid ((t2.trans n3).trans n4)
        clear n2 n3 n4 t2
        go_wp2_with fail
        go_ret
        exact ⟨rfl, HN.out⟩
    · have hl2 : ((l.length : Int) == 2) = false := by simpa using fun h : (l.length : Int) = 2 => h2 (by omega)
      have hbf : b = false := by
        cases b with
        | false => rfl
        | true => exact absurd (hiff.1 rfl).2.1 h2
      subst hbf
      obtain ⟨n, hn⟩ : ∃ n, l.length = n := ⟨_, rfl⟩
      rw [hn] at hcall hl2
      clear hiff h2 hne hn
      go_enter Tryd.func5, Tryd.ntmps5
      go_wp2_with fail
      refine (hcall _ he).mono ?_
      rintro e w2 ⟨ao, cc, rfl, n2, -⟩
      have t2 : New w (w2.alloc (.cells #[I 0, I 0] 25)) := n2.alloc _
      clear hcall
      go_wp2_with fail
      refine (awake_any _ (he.new t2)).mono ?_
      rintro e w3 ⟨rfl, n3⟩
      go_wp2_with fail
      refine (hnm _).mono ?_
      rintro e w4 ⟨rfl, n4⟩
      have HN := Lib.hid ((t2.trans n3).trans n4)
      clear n2 n3 n4 t2
      go_wp2_with fail
      go_ret
      exact ⟨rfl, HN.out⟩
  · have hbf : b = false := by
      cases b with
      | false => rfl
      | true => exact absurd (hiff.1 rfl).2.1 (by simp)
    subst hbf
    have hc0 : (c == 0) = false := by
      rcases hc with ⟨rfl, _⟩ | ⟨rfl | rfl | rfl, _⟩ <;> rfl
    have hcall : ∀ W (e : Env W), Calls Tryd.prog 11 #[.string a0] W fun e w' => ∃ a cc, e = .returned (.tuple #[.slice a 0 cc, .agg #[I c, I k]]) ∧ New W w' ∧ SlAt w' a [] := hcall
    clear hiff hc
    go_enter Tryd.func5, Tryd.ntmps5
    go_wp2_with fail
    refine (hcall _ he).mono ?_
    rintro e w2 ⟨ao, cc, rfl, n2, -⟩
    have t2 : New w (w2.alloc (.cells #[I c, I k] 25)) := n2.alloc _
    clear hcall
    go_wp2_with fail
    refine (awake_any _ (he.new t2)).mono ?_
    rintro e w3 ⟨rfl, n3⟩
    go_wp2_with fail
    refine (hnm _).mono ?_
    rintro e w4 ⟨rfl, n4⟩
    have HN := Lib.hid ((t2.trans n3).trans n4)
    clear n2 n3 n4 t2
    go_wp2_with fail
    go_ret
    exact ⟨rfl, HN.out⟩

set_option maxRecDepth 100000 in
theorem contract (H : Type) (enc : TypeId × Value → H) (W : World) (base : Nat) (args : Array Value) (ds gs : List (DataW H)) (before : List MemPlace)
    (hval0 : ∀ (j : Nat) t v, Tryd.f5.params[j]? = some t → args[j]? = some v → Value.okWide Tryd.prog W .any base t v)
    (hW : DataW.Whole enc Tryd.prog Tryd.f5.params.toList Rows.lexNamedSpec.vars false W args.toList ds gs before)
    (hsz0 : (DataW.weightsEach Tryd.prog (Tryd.f5.params.toList ++ Rows.lexNamedSpec.plain.varTypes Tryd.prog) (ds ++ gs)).all (· ≤ reachBytes) = true) (hL : laidMetH Tryd.prog Rows.lexNamedRow.laid W) :
    Calls Tryd.prog 5 args W fun e W' => ∃ v, e = .returned v ∧ Rows.lexNamedSpec.post enc Tryd.prog Tryd.f5 false true false false W args v W' := by
  have hval := hval0
  have hsz := hsz0
  clear hsz0
  have hW' := hW
  have he : Env W := env_of (by exact hL)
  obtain ⟨p, q, hA0, hV, rfl, hfz, hnd⟩ := hW
  have hA : DataW.TrodAll enc Tryd.prog W 0 (fun _ => true) true Tryd.f5.params.toList args.toList ds p := hA0
  rw [Tryd.params5] at hA hval hsz
  obtain ⟨v0, vs0, d0, ds0, p0, q0, hargs, rfl, rfl, h0, r0'⟩ := trodAll_cons hA
  obtain ⟨rfl, rfl, rfl⟩ := trodAll_nil r0'
  obtain rfl : args = #[v0] := by cases args; simp_all
  obtain ⟨rfl, rfl⟩ := trodVars_none hV
  have k0 := h0
  have lt0 : ∀ x ∈ p0, x.block < W.heap.size := by obtain ⟨m, hm⟩ := k0; exact DataW.trod_lt m _ _ _ hm
  obtain ⟨a0, rfl, e0, _, w0⟩ := open_string Tryd.underlying9 (hval 0 9 v0 rfl rfl) h0
  have s0 : a0.size ≤ 140737488351232 := by
    have hh := sized_string hsz (j := 0) (t := 9) (bytes := a0.data.toList) rfl (by rw [e0]; rfl)
    have hr : reachBytes = 140737488351232 := rfl
    rw [hr, Array.length_toList] at hh
    exact hh
  clear hA0 hval0
  refine (walk W he a0 s0).mono fun e W' ⟨he, hnew⟩ => ?_
  have bel := hnew.below
  subst he
  exact ⟨_, rfl, _, _, _, [], _, [], hW', trodAll_mk1 (shut_bool Tryd.underlying4 _), (trodAll_cons_mk (Below.trod laidOut (by kernel_rfl) (of_decide_eq_true (by kernel_rfl)) k0 bel lt0) trodAll_mk0), rfl, bel.frame _, fun h => by cases h⟩

theorem reads (os : Os) {H : Type} (enc : TypeId × Value → H) : ∃ places, DataW.whole enc Tryd.prog ((laidWorld os).forCall (fun _ _ => 0) ⟨#[], #[.string ByteArray.empty], []⟩).memory Tryd.f5.params.toList Rows.lexNamedSpec.vars false #[.string ByteArray.empty].toList 8 = some ([.lit (.string [])], [], places) :=
  ⟨[], by kernel_rfl⟩

set_option maxRecDepth 100000 in
theorem lifted (os : Os) (started : os.Started) (H : Type) (enc : TypeId × Value → H) (F : Stop.Interp) :
    ReturnsInHanded {} Tryd.checked os 5 .any ((OpenSpec.ofChange Rows.lexNamedSpec).preRow enc Tryd.prog Tryd.f5 Rows.lexNamedRow.domain false Rows.lexNamedRow.laid) (((OpenSpec.ofChange Rows.lexNamedSpec).at F).post enc Tryd.prog Tryd.f5 false true false false) := by
  obtain ⟨places, hx⟩ := reads os enc
  refine returnsInHanded_of_row (C := Tryd.checked) (s := OpenSpec.ofChange Rows.lexNamedSpec) own started (by kernel_rfl) Tryd.func5
    (witness_row_at (enc := enc) (C := Tryd.checked) false (laidWorld os) #[.string ByteArray.empty] rfl (by kernel_rfl) (by kernel_rfl) (by kernel_rfl)
      (OpenSpec.preRow_of_cond 8 hx (by kernel_rfl) (fun k hk => by cases hk) (by kernel_rfl) (laid_met os _))) ?_
  intro W base args ds gs before hval hW _ _ hsz hL _ _
  exact contract H enc W base args ds gs before hval hW hsz hL

theorem said : Rows.LexNamedSaid :=
  OpenClaim.holds_of_cond 5 Tryd.f5 rfl rfl rfl rfl rfl rfl rfl ⟨rfl, rfl, rfl, rfl, rfl⟩ rfl rfl rfl rfl rfl (by kernel_rfl) Tryd.func5 (by kernel_rfl)
    (of_decide_eq_true (by kernel_rfl)) (by unfold Func.isWrapper; first | (rw [if_pos (by decide +kernel)]; kernel_rfl) | (rw [if_neg (by decide +kernel)]; exact ⟨rfl, rfl⟩))
    (fun os started H enc _ F => by rw [OpenClaim.pre_eq_preRow]; exact lifted os started H enc F)

theorem plain (f : FuncId) (fn : Func) (hf : Tryd.pinned.checked.prog.funcNamed "pianola/pianolalaw04.LexNamed" = some f) (hfn : Tryd.pinned.checked.prog.funcs[f]? = some fn) :
    true = Tryd.pinned.checked.prog.looks [] ∧ ∀ (j : Nat) t, fn.params[j]? = some t → Tryd.pinned.checked.prog.wantsStandIn t = false := by
  obtain rfl : f = 5 := Option.some.inj ((show Tryd.prog.funcNamed "pianola/pianolalaw04.LexNamed" = some 5 by kernel_rfl).symm.trans hf) |>.symm
  obtain rfl : fn = Tryd.f5 := (Option.some.inj (Tryd.func5.symm.trans hfn)).symm
  refine ⟨by kernel_rfl, fun j t ht => ?_⟩
  rw [Tryd.params5] at ht
  have hm := Array.mem_of_getElem? ht
  have : t = 9 := by
    simpa [or_assoc] using hm
  rcases this with rfl
  · exact (show Tryd.prog.wantsStandIn 9 = false by kernel_rfl)

/-- THE CARD. -/
theorem proved : Rows.LexNamedCardSaid :=
  Claim7.holds_tied_plain_at .later [] _ _ _ _ said (fun _ h => by cases h) (by kernel_rfl) (fun _ h => by cases h) lexNamed_row_tie rfl ⟨rfl, rfl⟩ (by kernel_rfl) rfl plain (by kernel_rfl)
end Go.Proofs.YtmmoocbnmjmfeaaDoor.lexNamed
