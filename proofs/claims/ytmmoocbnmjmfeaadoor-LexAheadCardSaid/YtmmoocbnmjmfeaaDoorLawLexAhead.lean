/-
  'LexAhead': the law returns true at every input; what it is handed reads afterwards as before; the variables of the library that it reads hold what the program's text lays.
-/
import Derived.Test.YtmmoocbnmjmfeaaDoorLexT
import Derived.Test.YtmmoocbnmjmfeaaDoorLexH
namespace Go.Proofs.YtmmoocbnmjmfeaaDoor.lexAhead
open Go Go.RowKit Go.Joins Go.ChangeShapes Go.WideShapes Go.ChangeAt
open Go.ChangeMaps (open_string shut_string)
set_option linter.all false

set_option maxRecDepth 100000 in
set_option maxHeartbeats 4000000 in
theorem walk (w : World) (he : Env w) (a0 : ByteArray) (h0 : a0.size ≤ 140737488351232) :
    Calls Tryd.prog 9 #[.string a0] w fun e w' => e = .returned (.bool true) ∧ New w w' := by
  have hs : a0.size ≤ 9223372036854775807 := by omega
  obtain ⟨⟨l, c, k⟩, hA⟩ : ∃ r, lexA a0.data.toList = r := ⟨_, rfl⟩
  have cA := fun W e => callC W a0 e hs l c k hA l.length rfl
  have hcode := lexA_code hA
  have nA := (lexA_count (l := a0.data.toList)).1
  have pA := lexA_place (l := a0.data.toList)
  rw [hA] at nA pA
  simp only at nA pA
  rw [toList_len] at hcode
  by_cases hc2 : c = 2
  · subst hc2
    have h3 : l = [] ∧ 1048576 < a0.size ∧ k = 1048576 := by
      rcases hcode with ⟨h, _⟩ | ⟨⟨_, h1, h2⟩ | ⟨h, _⟩, h3⟩
      · cases h
      · exact ⟨h3, h1, h2⟩
      · omega
    obtain ⟨rfl, hbig, rfl⟩ := h3
    have hbI : (1048576 : Int) < (a0.size : Int) := by omega
    have cA : ∀ W (e : Env W), Calls Tryd.prog 11 #[.string a0] W fun e w' => ∃ a cc, e = .returned (.tuple #[.slice a 0 cc, .agg #[I 2, I 1048576]]) ∧ New W w' ∧ SlAt w' a [] ∧ 0 ≤ cc ∧ (cc : Int) ≤ 9223372036854775807 := cA
    clear hcode hA hbig
    go_enter Tryd.func9, Tryd.ntmps9
    go_wp2_with fail
    refine (cA _ he).mono ?_
    rintro e w1 ⟨p1, c1, rfl, n1, -, -, -⟩
    have t1 : New w (w1.alloc (.cells #[I 2, I 1048576] 25)) := n1.alloc _
    go_wp2_with fail
    refine (awake_any _ (he.new t1)).mono ?_
    rintro e w2 ⟨rfl, n2⟩
    have f1 : w2.cell? ⟨w1.heap.size, 1, none⟩ = some (I 1048576) := New.cell n2 (by rw [cell_of_block (heap_alloc_new w1 _) 1]; simp)
    have HN := Lib.hid (t1.trans n2)
    clear n1 n2 t1
    go_wp2_with fail
    go_ret
    exact ⟨rfl, HN.out⟩
  · have hah := lexA_ahead hA hc2
    rw [toList_len] at hah
    have hc2b : (c == 2) = false := by simpa using hc2
    by_cases hc0 : c = 0
    · subst hc0
      have hk0 : k = 0 := by
        rcases hcode with ⟨_, h, _⟩ | ⟨⟨h, _⟩ | ⟨h, _⟩, _⟩
        · exact h
        · cases h
        · omega
      subst hk0
      have hlen : a0.size ≤ 1048576 := by
        rcases hcode with ⟨_, _, _, h, _⟩ | ⟨⟨h, _⟩ | ⟨h, _⟩, _⟩
        · exact h
        · cases h
        · omega
      have HAH := Lib.hid (hah.2 rfl)
      obtain ⟨n, hn⟩ : ∃ n, l.length = n := ⟨_, rfl⟩
      have HLN := Lib.hid hn
      rw [hn] at cA nA
      clear hcode hA hah hn hc2
      go_enter Tryd.func9, Tryd.ntmps9
      go_wp2_with fail
      refine (cA _ he).mono ?_
      rintro e w1 ⟨p1, c1, rfl, n1, s1, u1, v1⟩
      have t1 : New w (w1.alloc (.cells #[I 0, I 0] 25)) := n1.alloc _
      have m1 : New w1 (w1.alloc (.cells #[I 0, I 0] 25)) := (New.refl _).alloc _
      have HS := Lib.hid (s1.new m1)
      clear s1 n1 m1
      go_wp2_with fail
      go_loopw [7] (fun x wr => ∃ i : Nat, i ≤ n ∧ x = .int .i64 i ∧ New (w1.alloc (.cells #[I 0, I 0] 25)) wr) (fun x _ => n - (intOf x).toNat)
      case atStart => exact ⟨0, by omega, rfl, New.refl _⟩
      case round =>
        obtain ⟨i, hi, rfl, hN⟩ := hrel
        by_cases hi1 : i < n ∧ i < 40
        · obtain ⟨hi1, hi40⟩ := hi1
          have hil : i < l.length := by rw [HLN.out]; exact hi1
          obtain ⟨b1, o1, e1, q0, q1, q2, q3⟩ := toks_at (HS.out.new hN) hil
          obtain ⟨hle, hpre⟩ := HAH.out i hil
          obtain ⟨at_, hat⟩ : ∃ at_, l[i].at_ = at_ := ⟨_, rfl⟩
          rw [hat] at q3 hle hpre
          subst e1
          have hb1 : b1 < wr.heap.size := World.block_lt_of_cell? wr _ q3
          obtain ⟨Y, hY⟩ : ∃ Y, a0.extract 0 at_ = Y := ⟨_, rfl⟩
          have hYl : Y.data.toList = a0.data.toList.take at_ := by
            rw [← hY, extract_list]; simp
          have hYs : Y.size ≤ 9223372036854775807 := by rw [← toList_len, hYl, List.length_take]; omega
          have cY := fun W e => callC W Y e hYs _ 0 0 (by rw [hYl]; exact hpre) (i + 1) (by rw [List.length_append, List.length_take, HLN.out, List.length_singleton]; omega)
          have hiI : (i : Int) < (n : Int) := by omega
          have hi4 : (i : Int) < 40 := by omega
          have hw : IntKind.i64.wrap ((i : Int) + 1) = (i : Int) + 1 := IntWalk.i64_in _ (by omega)
          have HY := Lib.hid hY
          have HSi : Hid (SlAt wr (some ⟨b1, o1, none⟩) ((l.take i).flatMap tokCells)) := Lib.hid (by rw [flat_take]; exact (HS.out.new hN).take _)
          clear q0 q1 q2 hat hpre hYl hY
          go_wp2_with fail
          rw [HY.out]
          refine (cY _ (he.new (t1.trans hN))).mono ?_
          rintro e w3 ⟨p3, c3, rfl, n3, s3, u3, v3⟩
          have hs3 : SlAt w3 p3 ((l.take i).flatMap tokCells) := by
            have h := s3.take (i * 4)
            rw [← flat_take, List.take_append_of_le_length (by rw [List.length_take, HLN.out]; omega), List.take_of_length_le (by rw [List.length_take]; omega)] at h
            exact h
          have m3 : New w3 (w3.alloc (.cells #[I 0, I 0] 25)) := (New.refl _).alloc _
          have HS3 := Lib.hid (hs3.new m3)
          have HS4 := Lib.hid ((HSi.out.new n3).new m3)
          have hsm := fun z => same_q ((w3.alloc (.cells #[I 0, I 0] 25)).drewN z) p3 (some ⟨b1, o1, none⟩) c3 c1 (l.take i) (HS3.out.drewN z) (HS4.out.drewN z) i (by rw [List.length_take, HLN.out]; omega) (by omega)
          have HN3 := Lib.hid ((hN.trans n3).trans m3)
          clear s3 hs3 n3 m3 hN
          go_wp2_with fail
          go_quiet ((go_at_call 13; exact Calls.quiet_of (hsm _)))
          go_wp2_with fail
          go_roundw
          case rel => exact ⟨i + 1, by omega, by go_num, by first | exact HN3.out.drewN _ | exact HN3.out⟩
          case measure => simp [intOf]; omega
        · have hd : ¬ ((i : Int) < (n : Int)) ∨ ((i : Int) < (n : Int) ∧ ¬ ((i : Int) < 40)) := by omega
          have hlI : (a0.size : Int) ≤ 1048576 := by omega
          rcases hd with hd | ⟨hd, hd2⟩
          all_goals
            (go_wp2_with fail
             refine (awake_any _ (he.new (t1.trans hN))).mono ?_
             rintro e w2 ⟨rfl, n2⟩
             have HN := Lib.hid ((t1.trans hN).trans n2)
             clear n2 t1 hN
             go_wp2_with fail
             go_ret
             exact ⟨rfl, HN.out⟩)
    · have hc0b : (c == 0) = false := by simpa using hc0
      obtain ⟨hk, m, hm⟩ := hah.1 hc0
      have hl0 : l = [] := by
        rcases hcode with ⟨h, _⟩ | ⟨_, h⟩
        · exact absurd h hc0
        · exact h
      subst hl0
      have cA : ∀ W (e : Env W), Calls Tryd.prog 11 #[.string a0] W fun e w' => ∃ a cc, e = .returned (.tuple #[.slice a 0 cc, .agg #[I c, I k]]) ∧ New W w' ∧ SlAt w' a [] ∧ 0 ≤ cc ∧ (cc : Int) ≤ 9223372036854775807 := cA
      obtain ⟨Y, hY⟩ : ∃ Y, a0.extract 0 k = Y := ⟨_, rfl⟩
      have hYl : Y.data.toList = a0.data.toList.take k := by
        rw [← hY, extract_list]; simp
      have hYs : Y.size ≤ 9223372036854775807 := by rw [← toList_len, hYl, List.length_take]; omega
      have cY := fun W e => callC W Y e hYs m 0 0 (by rw [hYl]; exact hm) m.length rfl
      obtain ⟨nm, hnm⟩ : ∃ nm, m.length = nm := ⟨_, rfl⟩
      rw [hnm] at cY
      have hkI : (k : Int) < (a0.size : Int) := by omega
      have HY := Lib.hid hY
      clear hcode hA hah hc2 hc0 hm hnm hY hYl hYs
      go_enter Tryd.func9, Tryd.ntmps9
      go_wp2_with fail
      refine (cA _ he).mono ?_
      rintro e w1 ⟨p1, c1, rfl, n1, -, -, -⟩
      have t1 : New w (w1.alloc (.cells #[I c, I k] 25)) := n1.alloc _
      go_wp2_with fail
      rw [HY.out]
      refine (cY _ (he.new t1)).mono ?_
      rintro e w2 ⟨p2, c2, rfl, n2, -, -, -⟩
      have t2 : New w (w2.alloc (.cells #[I 0, I 0] 25)) := (t1.trans n2).alloc _
      go_wp2_with fail
      refine (awake_any _ (he.new t2)).mono ?_
      rintro e w3 ⟨rfl, n3⟩
      have f0 : w3.cell? ⟨w2.heap.size, 0, none⟩ = some (I 0) := New.cell n3 (by rw [cell_of_block (heap_alloc_new w2 _) 0]; simp)
      have f1 : w3.cell? ⟨w2.heap.size, 1, none⟩ = some (I 0) := New.cell n3 (by rw [cell_of_block (heap_alloc_new w2 _) 1]; simp)
      have HN := Lib.hid (t2.trans n3)
      clear n1 n2 t1 t2 n3
      go_wp2_with fail
      go_ret
      exact ⟨rfl, HN.out⟩

set_option maxRecDepth 100000 in
theorem contract (H : Type) (enc : TypeId × Value → H) (W : World) (base : Nat) (args : Array Value) (ds gs : List (DataW H)) (before : List MemPlace)
    (hval0 : ∀ (j : Nat) t v, Tryd.f9.params[j]? = some t → args[j]? = some v → Value.okWide Tryd.prog W .any base t v)
    (hW : DataW.Whole enc Tryd.prog Tryd.f9.params.toList Rows.lexAheadSpec.vars false W args.toList ds gs before)
    (hsz0 : (DataW.weightsEach Tryd.prog (Tryd.f9.params.toList ++ Rows.lexAheadSpec.plain.varTypes Tryd.prog) (ds ++ gs)).all (· ≤ reachBytes) = true) (hL : laidMetH Tryd.prog Rows.lexAheadRow.laid W) :
    Calls Tryd.prog 9 args W fun e W' => ∃ v, e = .returned v ∧ Rows.lexAheadSpec.post enc Tryd.prog Tryd.f9 false true false false W args v W' := by
  have hval := hval0
  have hsz := hsz0
  clear hsz0
  have hW' := hW
  have he : Env W := env_of (by exact hL)
  obtain ⟨p, q, hA0, hV, rfl, hfz, hnd⟩ := hW
  have hA : DataW.TrodAll enc Tryd.prog W 0 (fun _ => true) true Tryd.f9.params.toList args.toList ds p := hA0
  rw [Tryd.params9] at hA hval hsz
  obtain ⟨v0, vs0, d0, ds0, p0, q0, hargs, rfl, rfl, h0, r0'⟩ := trodAll_cons hA
  obtain ⟨rfl, rfl, rfl⟩ := trodAll_nil r0'
  obtain rfl : args = #[v0] := by cases args; simp_all
  obtain ⟨rfl, rfl⟩ := trodVars_none hV
  have k0 := h0
  have lt0 : ∀ x ∈ p0, x.block < W.heap.size := by obtain ⟨m, hm⟩ := k0; exact DataW.trod_lt m _ _ _ hm
  obtain ⟨a0, rfl, e0, _, w0⟩ := open_string Tryd.underlying9 (hval 0 9 v0 rfl rfl) h0
  have s0 : a0.size ≤ 140737488351232 := by
    have hh := sized_string hsz (j := 0) (t := 9) (bytes := a0.data.toList) rfl (by rw [e0]; rfl)
    have hr : reachBytes = 140737488351232 := rfl
    rw [hr, Array.length_toList] at hh
    exact hh
  clear hA0 hval0
  refine (walk W he a0 s0).mono fun e W' ⟨he, hnew⟩ => ?_
  have bel := hnew.below
  subst he
  exact ⟨_, rfl, _, _, _, [], _, [], hW', trodAll_mk1 (shut_bool Tryd.underlying4 _), (trodAll_cons_mk (Below.trod laidOut (by kernel_rfl) (of_decide_eq_true (by kernel_rfl)) k0 bel lt0) trodAll_mk0), rfl, bel.frame _, fun h => by cases h⟩

theorem reads (os : Os) {H : Type} (enc : TypeId × Value → H) : ∃ places, DataW.whole enc Tryd.prog ((laidWorld os).forCall (fun _ _ => 0) ⟨#[], #[.string ByteArray.empty], []⟩).memory Tryd.f9.params.toList Rows.lexAheadSpec.vars false #[.string ByteArray.empty].toList 8 = some ([.lit (.string [])], [], places) :=
  ⟨[], by kernel_rfl⟩

set_option maxRecDepth 100000 in
theorem lifted (os : Os) (started : os.Started) (H : Type) (enc : TypeId × Value → H) (F : Stop.Interp) :
    ReturnsInHanded {} Tryd.checked os 9 .any ((OpenSpec.ofChange Rows.lexAheadSpec).preRow enc Tryd.prog Tryd.f9 Rows.lexAheadRow.domain false Rows.lexAheadRow.laid) (((OpenSpec.ofChange Rows.lexAheadSpec).at F).post enc Tryd.prog Tryd.f9 false true false false) := by
  obtain ⟨places, hx⟩ := reads os enc
  refine returnsInHanded_of_row (C := Tryd.checked) (s := OpenSpec.ofChange Rows.lexAheadSpec) own started (by kernel_rfl) Tryd.func9
    (witness_row_at (enc := enc) (C := Tryd.checked) false (laidWorld os) #[.string ByteArray.empty] rfl (by kernel_rfl) (by kernel_rfl) (by kernel_rfl)
      (OpenSpec.preRow_of_cond 8 hx (by kernel_rfl) (fun k hk => by cases hk) (by kernel_rfl) (laid_met os _))) ?_
  intro W base args ds gs before hval hW _ _ hsz hL _ _
  exact contract H enc W base args ds gs before hval hW hsz hL

theorem said : Rows.LexAheadSaid :=
  OpenClaim.holds_of_cond 9 Tryd.f9 rfl rfl rfl rfl rfl rfl rfl ⟨rfl, rfl, rfl, rfl, rfl⟩ rfl rfl rfl rfl rfl (by kernel_rfl) Tryd.func9 (by kernel_rfl)
    (of_decide_eq_true (by kernel_rfl)) (by unfold Func.isWrapper; first | (rw [if_pos (by decide +kernel)]; kernel_rfl) | (rw [if_neg (by decide +kernel)]; exact ⟨rfl, rfl⟩))
    (fun os started H enc _ F => by rw [OpenClaim.pre_eq_preRow]; exact lifted os started H enc F)

theorem plain (f : FuncId) (fn : Func) (hf : Tryd.pinned.checked.prog.funcNamed "pianola/pianolalaw04.LexAhead" = some f) (hfn : Tryd.pinned.checked.prog.funcs[f]? = some fn) :
    true = Tryd.pinned.checked.prog.looks [] ∧ ∀ (j : Nat) t, fn.params[j]? = some t → Tryd.pinned.checked.prog.wantsStandIn t = false := by
  obtain rfl : f = 9 := Option.some.inj ((show Tryd.prog.funcNamed "pianola/pianolalaw04.LexAhead" = some 9 by kernel_rfl).symm.trans hf) |>.symm
  obtain rfl : fn = Tryd.f9 := (Option.some.inj (Tryd.func9.symm.trans hfn)).symm
  refine ⟨by kernel_rfl, fun j t ht => ?_⟩
  rw [Tryd.params9] at ht
  have hm := Array.mem_of_getElem? ht
  have : t = 9 := by
    simpa [or_assoc] using hm
  rcases this with rfl
  · exact (show Tryd.prog.wantsStandIn 9 = false by kernel_rfl)

/-- THE CARD. -/
theorem proved : Rows.LexAheadCardSaid :=
  Claim7.holds_tied_plain_at .later [] _ _ _ _ said (fun _ h => by cases h) (by kernel_rfl) (fun _ h => by cases h) lexAhead_row_tie rfl ⟨rfl, rfl⟩ (by kernel_rfl) rfl plain (by kernel_rfl)
end Go.Proofs.YtmmoocbnmjmfeaaDoor.lexAhead
