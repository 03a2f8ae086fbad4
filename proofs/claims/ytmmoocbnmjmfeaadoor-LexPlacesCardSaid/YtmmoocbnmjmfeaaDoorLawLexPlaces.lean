/-
  'LexPlaces': the law returns true at every input; what it is handed reads afterwards as before; the variables of the library that it reads hold what the program's text lays.
-/
import Derived.Test.YtmmoocbnmjmfeaaDoorLexT
import Derived.Test.YtmmoocbnmjmfeaaDoorLexJ
namespace Go.Proofs.YtmmoocbnmjmfeaaDoor.lexPlaces
open Go Go.RowKit Go.Joins Go.ChangeShapes Go.WideShapes Go.ChangeAt
open Go.ChangeMaps (open_string shut_string)
set_option linter.all false

set_option maxRecDepth 100000 in
set_option maxHeartbeats 4000000 in
theorem walk (w : World) (he : Env w) (a0 : ByteArray) (h0 : a0.size ≤ 140737488351232) :
    Calls Tryd.prog 7 #[.string a0] w fun e w' => e = .returned (.bool true) ∧ New w w' := by
  have hs : a0.size ≤ 9223372036854775807 := by omega
  obtain ⟨⟨l, c, k⟩, hA⟩ : ∃ r, lexA a0.data.toList = r := ⟨_, rfl⟩
  have cA := fun W e => callC W a0 e hs l c k hA l.length rfl
  have hcode := lexA_code hA
  have nA := (lexA_count (l := a0.data.toList)).1
  have pA := lexA_place (l := a0.data.toList)
  rw [hA] at nA pA
  simp only at nA pA
  rw [toList_len] at hcode
  by_cases hc0 : c = 0
  · subst hc0
    have hk0 : k = 0 := by
      rcases hcode with ⟨_, h, _⟩ | ⟨⟨h, _⟩ | ⟨h, _⟩, _⟩
      · exact h
      · cases h
      · omega
    subst hk0
    have hlen : a0.size ≤ 1048576 := by
      rcases hcode with ⟨_, _, _, h, _⟩ | ⟨⟨h, _⟩ | ⟨h, _⟩, _⟩
      · exact h
      · cases h
      · omega
    have hpl := places_plain hA
    rw [toList_len] at hpl
    obtain ⟨hpl, hend, hpos⟩ := hpl
    have HPL := Lib.hid hpl
    obtain ⟨n, hn⟩ : ∃ n, l.length = n := ⟨_, rfl⟩
    rw [hn] at cA nA hend hpos
    have HEND := Lib.hid hend
    have HLN := Lib.hid hn
    clear hcode hA hpl hn hend
    go_enter Tryd.func7, Tryd.ntmps7
    go_wp2_with fail
    refine (cA _ he).mono ?_
    rintro e w1 ⟨p1, c1, rfl, n1, s1, u1, v1⟩
    have t1 : New w (w1.alloc (.cells #[I 0, I 0] 25)) := n1.alloc _
    have m1 : New w1 (w1.alloc (.cells #[I 0, I 0] 25)) := (New.refl _).alloc _
    have HS := Lib.hid (s1.new m1)
    clear s1 n1 m1
    go_wp2_with fail
    go_loopw [5, 6] (fun y x wr => ∃ i a : Nat, i ≤ n ∧ x = .int .i64 i ∧ y = .int .i64 a ∧ Hid (posL l i = a) ∧ New (w1.alloc (.cells #[I 0, I 0] 25)) wr) (fun _ x _ => n - (intOf x).toNat)
    case atStart => exact ⟨0, 0, by omega, rfl, rfl, Lib.hid rfl, New.refl _⟩
    case round =>
      obtain ⟨i, a, hi, rfl, rfl, HP, hN⟩ := hrel
      by_cases hi1 : i < n
      · have hil : i < l.length := by rw [HLN.out]; exact hi1
        obtain ⟨b1, o1, e1, q0, q1, q2, q3⟩ := toks_at (HS.out.new hN) hil
        obtain ⟨g1, g2, g3, g4, g5, g6⟩ := HPL.out i hil
        have hnx : Hid (posL l (i + 1) = l[i].at_ + l[i].spelt.length) := Lib.hid (by
          show (match l[i]? with | some t => t.at_ + t.spelt.length | none => 0) = _
          rw [List.getElem?_eq_getElem hil])
        subst e1
        have hb1 : b1 < wr.heap.size := World.block_lt_of_cell? wr _ q0
        rw [HP.out] at g1
        rw [HLN.out] at g4
        generalize l[i] = t at q0 q1 q2 q3 g1 g2 g3 g4 g5 g6 hnx
        have hsp := fun W => spelt_any W t g5.1 g5.2
        have hri := fun W => right_any W t (by omega)
        obtain ⟨S, hS⟩ : ∃ S, speltS t = S := ⟨_, rfl⟩
        have hSl : S.data.toList = t.spelt := by rw [← hS]; unfold speltS; simp
        have hSz : t.spelt.length = S.size := by rw [← toList_len, hSl]
        have hex : a0.extract t.at_ (t.at_ + S.size) = S := by
          apply ByteArray.ext
          apply Array.toList_inj.1
          rw [extract_take, ← hSz, g3, hSl]
        rw [hS] at hsp
        rw [hSz] at g2 hnx
        clear hS hSl hSz g3 g5
        obtain ⟨so, tx, nu, at_⟩ := t
        simp only at q0 q1 q2 q3 g1 g2 g4 g6 hnx hsp hri hex
        obtain ⟨T, hT⟩ : ∃ T : ByteArray, (⟨tx.toArray⟩ : ByteArray) = T := ⟨_, rfl⟩
        rw [hT] at q1 hsp hri
        obtain ⟨r, hr⟩ : ∃ r, (LTok.mk so tx nu at_).right = r := ⟨_, rfl⟩
        rw [hr] at hri g4
        have HEX := Lib.hid hex
        have ey := lx_yes S
        have hiI : (i : Int) < (n : Int) := by omega
        have d1 : decide (at_ < a) = false := decide_eq_false (by omega)
        have d2 : decide (a0.size < at_) = false := decide_eq_false (by omega)
        have w1' : IntKind.i64.wrap ((a0.size : Int) - (at_ : Int)) = (a0.size : Int) - (at_ : Int) := IntWalk.i64_in _ (by omega)
        have d3 : decide ((a0.size : Int) - (at_ : Int) < (S.size : Int)) = false := decide_eq_false (by omega)
        obtain ⟨z, hz⟩ : ∃ z : Nat, at_ + S.size = z := ⟨_, rfl⟩
        have w2' : IntKind.i64.wrap ((at_ : Int) + (S.size : Int)) = (z : Int) := by rw [IntWalk.i64_in _ (by omega)]; omega
        have d4 : (at_ : Int) ≤ (z : Int) := by omega
        have d5 : (z : Int) ≤ (a0.size : Int) := by omega
        have w3' : IntKind.i64.wrap ((n : Int) - 1) = (n : Int) - 1 := IntWalk.i64_in _ (by omega)
        rw [hz] at hnx HEX
        clear hT hr hex g1 g2 g6 hz
        rcases g4 with ⟨hin, hso⟩ | ⟨hin, hso, hr⟩
        · have hd1 : (so == 0) = true := by rw [hso]; rfl
          have hd2 : ((i : Int) == (n : Int) - 1) = true := by simpa using (by omega : (i : Int) = (n : Int) - 1)
          clear hri
          subst hso
          clear hin
          go_wp2_with fail
          refine (hsp _).mono ?_
          rintro e w3 ⟨rfl, n3⟩
          replace q0 := New.cell n3 q0
          replace q1 := New.cell n3 q1
          replace q2 := New.cell n3 q2
          replace q3 := New.cell n3 q3
          replace hb1 := Nat.lt_of_lt_of_le hb1 n3.size
          have hN3 := hN.trans n3
          clear hN n3 hsp
          have hxx := HEX.out
          go_wp2_with fail
          go_quiet (fail)
          go_wp2_with fail
          go_roundw
          case rel => exact ⟨i + 1, z, by omega, by go_num, by rfl, hnx, by first | exact hN3.drewN _ | exact hN3⟩
          case measure => simp [intOf]; omega
        · have hd1 : (so == 0) = false := by simpa using hso
          have hd2 : ((i : Int) == (n : Int) - 1) = false := by simpa using fun h : (i : Int) = (n : Int) - 1 => hin (by omega)
          subst hr
          have hd3 : ¬ (i : Int) = (n : Int) - 1 := by omega
          clear hin
          go_wp2_with fail
          refine (hsp _).mono ?_
          rintro e w3 ⟨rfl, n3⟩
          replace q0 := New.cell n3 q0
          replace q1 := New.cell n3 q1
          replace q2 := New.cell n3 q2
          replace q3 := New.cell n3 q3
          replace hb1 := Nat.lt_of_lt_of_le hb1 n3.size
          have hN3 := hN.trans n3
          clear hN n3 hsp
          have hxx := HEX.out
          go_wp2_with fail
          go_quiet (fail)
          go_wp2_with fail
          refine (hri _).mono ?_
          rintro e w4 ⟨rfl, n4⟩
          replace q3 := New.cell (((New.refl w3).drewN _).trans n4) q3
          have hb4 : b1 < w4.heap.size := World.block_lt_of_cell? w4 _ q3
          have hN4 := (hN3.drewN _).trans n4
          clear hN3 n4 hri
          go_wp2_with fail
          go_roundw
          case rel => exact ⟨i + 1, z, by omega, by go_num, by rfl, hnx, by first | exact hN4 | exact hN4.drewN _⟩
          case measure => simp [intOf]; omega
      · have hie : i = n := by omega
        have hae : a = a0.size := by rw [← HP.out, hie, HEND.out]
        have hdi : ¬ ((i : Int) < (n : Int)) := by omega
        have hpI : (0 : Int) < (n : Int) := by omega
        have hea : ((a : Int) == (a0.size : Int)) = true := by rw [hae]; simp
        clear hie hae HP
        go_wp2_with fail
        refine (awake_any _ (he.new (t1.trans hN))).mono ?_
        rintro e w2 ⟨rfl, n2⟩
        have HN := Lib.hid ((t1.trans hN).trans n2)
        clear n2 t1 hN
        go_wp2_with fail
        go_ret
        exact ⟨rfl, HN.out⟩
  · have hc0b : (c == 0) = false := by simpa using hc0
    have hkl : k < a0.size ∧ l = [] := by
      rcases hcode with ⟨h, _⟩ | ⟨⟨_, h, rfl⟩ | ⟨_, h1, ts, h2⟩, h3⟩
      · exact absurd h hc0
      · exact ⟨h, h3⟩
      · have := (lexL_ge _ 0 _ (Nat.le_refl _)).2 c k (by rw [h2])
        rw [toList_len] at this
        exact ⟨by omega, h3⟩
    obtain ⟨hk, rfl⟩ := hkl
    have cA : ∀ W (e : Env W), Calls Tryd.prog 11 #[.string a0] W fun e w' => ∃ a cc, e = .returned (.tuple #[.slice a 0 cc, .agg #[I c, I k]]) ∧ New W w' ∧ SlAt w' a [] ∧ 0 ≤ cc ∧ (cc : Int) ≤ 9223372036854775807 := cA
    have hkI : (k : Int) < (a0.size : Int) := by omega
    clear hcode hA hk
    go_enter Tryd.func7, Tryd.ntmps7
    go_wp2_with fail
    refine (cA _ he).mono ?_
    rintro e w1 ⟨p1, c1, rfl, n1, -, -, -⟩
    have t1 : New w (w1.alloc (.cells #[I c, I k] 25)) := n1.alloc _
    go_wp2_with fail
    refine (awake_any _ (he.new t1)).mono ?_
    rintro e w2 ⟨rfl, n2⟩
    have f0 : w2.cell? ⟨w1.heap.size, 0, none⟩ = some (I c) := New.cell n2 (by rw [cell_of_block (heap_alloc_new w1 _) 0]; simp)
    have f1 : w2.cell? ⟨w1.heap.size, 1, none⟩ = some (I k) := New.cell n2 (by rw [cell_of_block (heap_alloc_new w1 _) 1]; simp)
    have HN := Lib.hid (t1.trans n2)
    clear n1 n2 t1
    go_wp2_with fail
    go_ret
    exact ⟨by show Ending.returned (.bool (c != 0)) = _; simp [hc0], HN.out⟩

set_option maxRecDepth 100000 in
theorem contract (H : Type) (enc : TypeId × Value → H) (W : World) (base : Nat) (args : Array Value) (ds gs : List (DataW H)) (before : List MemPlace)
    (hval0 : ∀ (j : Nat) t v, Tryd.f7.params[j]? = some t → args[j]? = some v → Value.okWide Tryd.prog W .any base t v)
    (hW : DataW.Whole enc Tryd.prog Tryd.f7.params.toList Rows.lexPlacesSpec.vars false W args.toList ds gs before)
    (hsz0 : (DataW.weightsEach Tryd.prog (Tryd.f7.params.toList ++ Rows.lexPlacesSpec.plain.varTypes Tryd.prog) (ds ++ gs)).all (· ≤ reachBytes) = true) (hL : laidMetH Tryd.prog Rows.lexPlacesRow.laid W) :
    Calls Tryd.prog 7 args W fun e W' => ∃ v, e = .returned v ∧ Rows.lexPlacesSpec.post enc Tryd.prog Tryd.f7 false true false false W args v W' := by
  have hval := hval0
  have hsz := hsz0
  clear hsz0
  have hW' := hW
  have he : Env W := env_of (by exact hL)
  obtain ⟨p, q, hA0, hV, rfl, hfz, hnd⟩ := hW
  have hA : DataW.TrodAll enc Tryd.prog W 0 (fun _ => true) true Tryd.f7.params.toList args.toList ds p := hA0
  rw [Tryd.params7] at hA hval hsz
  obtain ⟨v0, vs0, d0, ds0, p0, q0, hargs, rfl, rfl, h0, r0'⟩ := trodAll_cons hA
  obtain ⟨rfl, rfl, rfl⟩ := trodAll_nil r0'
  obtain rfl : args = #[v0] := by cases args; simp_all
  obtain ⟨rfl, rfl⟩ := trodVars_none hV
  have k0 := h0
  have lt0 : ∀ x ∈ p0, x.block < W.heap.size := by obtain ⟨m, hm⟩ := k0; exact DataW.trod_lt m _ _ _ hm
  obtain ⟨a0, rfl, e0, _, w0⟩ := open_string Tryd.underlying9 (hval 0 9 v0 rfl rfl) h0
  have s0 : a0.size ≤ 140737488351232 := by
    have hh := sized_string hsz (j := 0) (t := 9) (bytes := a0.data.toList) rfl (by rw [e0]; rfl)
    have hr : reachBytes = 140737488351232 := rfl
    rw [hr, Array.length_toList] at hh
    exact hh
  clear hA0 hval0
  refine (walk W he a0 s0).mono fun e W' ⟨he, hnew⟩ => ?_
  have bel := hnew.below
  subst he
  exact ⟨_, rfl, _, _, _, [], _, [], hW', trodAll_mk1 (shut_bool Tryd.underlying4 _), (trodAll_cons_mk (Below.trod laidOut (by kernel_rfl) (of_decide_eq_true (by kernel_rfl)) k0 bel lt0) trodAll_mk0), rfl, bel.frame _, fun h => by cases h⟩

theorem reads (os : Os) {H : Type} (enc : TypeId × Value → H) : ∃ places, DataW.whole enc Tryd.prog ((laidWorld os).forCall (fun _ _ => 0) ⟨#[], #[.string ByteArray.empty], []⟩).memory Tryd.f7.params.toList Rows.lexPlacesSpec.vars false #[.string ByteArray.empty].toList 8 = some ([.lit (.string [])], [], places) :=
  ⟨[], by kernel_rfl⟩

set_option maxRecDepth 100000 in
theorem lifted (os : Os) (started : os.Started) (H : Type) (enc : TypeId × Value → H) (F : Stop.Interp) :
    ReturnsInHanded {} Tryd.checked os 7 .any ((OpenSpec.ofChange Rows.lexPlacesSpec).preRow enc Tryd.prog Tryd.f7 Rows.lexPlacesRow.domain false Rows.lexPlacesRow.laid) (((OpenSpec.ofChange Rows.lexPlacesSpec).at F).post enc Tryd.prog Tryd.f7 false true false false) := by
  obtain ⟨places, hx⟩ := reads os enc
  refine returnsInHanded_of_row (C := Tryd.checked) (s := OpenSpec.ofChange Rows.lexPlacesSpec) own started (by kernel_rfl) Tryd.func7
    (witness_row_at (enc := enc) (C := Tryd.checked) false (laidWorld os) #[.string ByteArray.empty] rfl (by kernel_rfl) (by kernel_rfl) (by kernel_rfl)
      (OpenSpec.preRow_of_cond 8 hx (by kernel_rfl) (fun k hk => by cases hk) (by kernel_rfl) (laid_met os _))) ?_
  intro W base args ds gs before hval hW _ _ hsz hL _ _
  exact contract H enc W base args ds gs before hval hW hsz hL

theorem said : Rows.LexPlacesSaid :=
  OpenClaim.holds_of_cond 7 Tryd.f7 rfl rfl rfl rfl rfl rfl rfl ⟨rfl, rfl, rfl, rfl, rfl⟩ rfl rfl rfl rfl rfl (by kernel_rfl) Tryd.func7 (by kernel_rfl)
    (of_decide_eq_true (by kernel_rfl)) (by unfold Func.isWrapper; first | (rw [if_pos (by decide +kernel)]; kernel_rfl) | (rw [if_neg (by decide +kernel)]; exact ⟨rfl, rfl⟩))
    (fun os started H enc _ F => by rw [OpenClaim.pre_eq_preRow]; exact lifted os started H enc F)

theorem plain (f : FuncId) (fn : Func) (hf : Tryd.pinned.checked.prog.funcNamed "pianola/pianolalaw04.LexPlaces" = some f) (hfn : Tryd.pinned.checked.prog.funcs[f]? = some fn) :
    true = Tryd.pinned.checked.prog.looks [] ∧ ∀ (j : Nat) t, fn.params[j]? = some t → Tryd.pinned.checked.prog.wantsStandIn t = false := by
  obtain rfl : f = 7 := Option.some.inj ((show Tryd.prog.funcNamed "pianola/pianolalaw04.LexPlaces" = some 7 by kernel_rfl).symm.trans hf) |>.symm
  obtain rfl : fn = Tryd.f7 := (Option.some.inj (Tryd.func7.symm.trans hfn)).symm
  refine ⟨by kernel_rfl, fun j t ht => ?_⟩
  rw [Tryd.params7] at ht
  have hm := Array.mem_of_getElem? ht
  have : t = 9 := by
    simpa [or_assoc] using hm
  rcases this with rfl
  · exact (show Tryd.prog.wantsStandIn 9 = false by kernel_rfl)

/-- THE CARD. -/
theorem proved : Rows.LexPlacesCardSaid :=
  Claim7.holds_tied_plain_at .later [] _ _ _ _ said (fun _ h => by cases h) (by kernel_rfl) (fun _ h => by cases h) lexPlaces_row_tie rfl ⟨rfl, rfl⟩ (by kernel_rfl) rfl plain (by kernel_rfl)
end Go.Proofs.YtmmoocbnmjmfeaaDoor.lexPlaces
