/-
  'SketchPlaces': the law returns true at every input; what it is handed reads afterwards as before; the variables of the library that it reads hold what the program's text lays.
-/
import Derived.Test.YtohalcbhckahmaaDoorSkT
import Derived.Test.YtohalcbhckahmaaDoorSkU
namespace Go.Proofs.YtohalcbhckahmaaDoor.sketchPlaces
open Go Go.RowKit Go.Joins Go.ChangeShapes Go.WideShapes Go.ChangeAt
open Go.ChangeMaps (open_string shut_string)
set_option linter.all false

set_option maxRecDepth 100000 in
set_option maxHeartbeats 4000000 in
theorem walk (w : World) (he : Env w) (a0 : ByteArray) (h0 : a0.size ≤ 140737488351232) :
    Calls Tryd.prog 7 #[.string a0] w fun e w' => e = .returned (.bool true) ∧ New w w' := by
  have hs : a0.size ≤ 9223372036854775807 := by omega
  obtain ⟨res, hA⟩ : ∃ r, parseA a0.data.toList = r := ⟨_, rfl⟩
  cases res with
  | error ck =>
    obtain ⟨c, k⟩ := ck
    obtain ⟨hc, hk⟩ := parse_fault hA
    rw [toList_len] at hk
    have hno := skparse_no w a0 he hs c k hA
    have hc0 : (c == 0) = false := by simpa using hc
    have hc1 : (c != 0) = true := by simpa using hc
    have d1 : decide ((0 : Int) ≤ (k : Int)) = true := decide_eq_true (by omega)
    have d2 : decide ((k : Int) ≤ (a0.size : Int)) = true := decide_eq_true (by omega)
    have i1 : (k : Int) ≤ (a0.size : Int) := by omega
    clear hA hc
    go_enter Tryd.func7, Tryd.ntmps7
    go_wp2_with fail
    refine (hno).mono ?_
    rintro e w1 ⟨rfl, kw1⟩
    have mw1 : New w1 ((w1.alloc (.cells #[.string ⟨#[]⟩, .slice none 0 0] 24)).alloc (.cells #[I c, I (k : Int)] 27)) := ((New.refl _).alloc _).alloc _
    have hFw1 : ((w1.alloc (.cells #[.string ⟨#[]⟩, .slice none 0 0] 24)).alloc (.cells #[I c, I (k : Int)] 27)).heap[w1.heap.size + 1]? = some (.cells #[I c, I (k : Int)] 27 (0, 0)) := by
      have := heap_alloc_new (w1.alloc (.cells #[.string ⟨#[]⟩, .slice none 0 0] 24)) (.cells #[I c, I (k : Int)] 27)
      simpa using this
    obtain ⟨w1f0, w1f1, -, -, w1fl⟩ := sk_get hFw1
    have N1 := Lib.hid (kw1.trans mw1)
    clear hFw1 kw1 mw1
    have haw := awake_sk _ (he.new N1.out)
    clear hno
    go_wp2_with fail
    refine haw.mono ?_
    rintro e w2 ⟨rfl, n2⟩
    have g0 := New.cell n2 w1f0
    have g1 := New.cell n2 w1f1
    have N2 := Lib.hid (N1.out.trans n2)
    clear haw w1f0 w1f1 w1fl n2
    go_wp2_with fail
    go_ret
    exact ⟨rfl, N2.out⟩
  | ok x =>
    have hpl := parse_places hA
    have hok := skparse_ok w a0 he hs x hA
    have hlen := parse_len hA
    rw [toList_len] at hlen
    have HA := Lib.hid hA
    clear hA
    go_enter Tryd.func7, Tryd.ntmps7
    go_wp2_with fail
    refine hok.mono ?_
    rintro e w1 ⟨t, ht, rfl, hown, n1⟩
    obtain ⟨e1, e2⟩ := bare_len' ht
    obtain ⟨name, ia, ic, items⟩ := t
    have hil : items.length ≤ 9223372036854775807 := by have := own_len' hown.io; exact this
    simp only at e1 e2
    have m1 : New w1 ((w1.alloc (.cells #[.string name, .slice ia items.length ic] 24)).alloc (.cells #[I 0, I 0] 27)) := ((New.refl _).alloc _).alloc _
    have hS : ((w1.alloc (.cells #[.string name, .slice ia items.length ic] 24)).alloc (.cells #[I 0, I 0] 27)).heap[w1.heap.size]? = some (.cells #[.string name, .slice ia items.length ic] 24 (0, 0)) := Keeps.heap (Keeps.alloc (S := fun _ => False) _ _) (heap_alloc_new w1 _) (fun h => h)
    have hF : ((w1.alloc (.cells #[.string name, .slice ia items.length ic] 24)).alloc (.cells #[I 0, I 0] 27)).heap[w1.heap.size + 1]? = some (.cells #[I 0, I 0] 27 (0, 0)) := by
      have := heap_alloc_new (w1.alloc (.cells #[.string name, .slice ia items.length ic] 24)) (.cells #[I 0, I 0] 27)
      simpa using this
    have HSB := Lib.hid hS
    obtain ⟨f0, f1, -, -, hFl⟩ := sk_get hF
    have HO := Lib.hid (hown.at.new m1)
    have N1 := Lib.hid (n1.trans m1)
    have HT := Lib.hid ht
    have HE := Lib.hid e2
    have HPL := Lib.hid hpl
    obtain ⟨W, hW⟩ : ∃ W, W = ((w1.alloc (.cells #[.string name, .slice ia items.length ic] 24)).alloc (.cells #[I 0, I 0] 27)) := ⟨_, rfl⟩
    have hv : Sk.v ⟨name, ia, ic, items⟩ = .agg #[.string name, .slice ia items.length ic] := rfl
    rw [hv]
    clear hS hF hown n1 m1 ht e1 e2 hpl hok hv
    go_wp2_with fail
    rw [← hW] at HSB HO N1 f0 f1 hFl ⊢
    obtain ⟨S3, hS3⟩ : ∃ S, w1.heap.size = S := ⟨_, rfl⟩
    rw [hS3] at HSB f0 f1 hFl ⊢
    clear hW hS3 f0 f1 hFl
    go_loopw [5, 6] (fun p i wr => ∃ k prev : Nat, k ≤ items.length ∧ p = .int .i64 prev ∧ i = .int .i64 k ∧ Hid (New W wr) ∧ Hid (PlsOk a0.data.toList prev (x.items.drop k)) ∧ Hid (prev ≤ 2000000)) (fun _ i _ => items.length - (intOf i).toNat)
    case atStart => exact ⟨0, 0, by omega, rfl, rfl, Lib.hid (New.refl _), Lib.hid (by rw [List.drop_zero]; exact HPL.out), Lib.hid (by omega)⟩
    case round =>
      obtain ⟨k, prev, hk, rfl, rfl, HN, HP, HB⟩ := hrel
      have hbs := Keeps.heap HN.out HSB.out (fun h => h)
      obtain ⟨s0, s1, -, -, hSl⟩ := sk_get hbs
      have HBS := Lib.hid hbs
      clear hbs
      by_cases hk1 : k < items.length
      · have hkI : (k : Int) < (items.length : Int) := by omega
        have hkd : decide (k < items.length) = true := decide_eq_true hk1
        obtain ⟨bb, off, hab, q0, q1, q2, q3, q4, q5, q6, q7, q8, q9, q10⟩ := items_row (HO.out.new HN.out).sl hk1
        have hkx : k < x.items.length := by have := HE.out; omega
        have hit := bare_item HT.out k hk1 hkx
        simp only at hit hab
        have hpp := HP.out
        rw [List.drop_eq_getElem_cons hkx] at hpp
        obtain ⟨hp1, hp2⟩ := hpp
        have HP2 := Lib.hid hp2
        have HAB := Lib.hid hab
        simp only at q0 q1 q2 q3 q4 q5 q6 q7 q8 q9 q10
        generalize items[k] = y at q0 q1 q2 q3 q4 q5 q6 q7 q8 q9 q10 hit
        obtain ⟨z, hz⟩ : ∃ z, x.items[k] = z := ⟨_, rfl⟩
        rw [hz] at hit hp1
        have HZ := Lib.hid hz
        rw [hit] at q0 q1 q2 q3 q4 q5 q6 q7 q8 q9 q10
        generalize y.a = ya at q0 q1 q2 q3 q4 q5 q6 q7 q8 q9 q10
        generalize y.c = yc at q0 q1 q2 q3 q4 q5 q6 q7 q8 q9 q10
        clear hit hz hp2 hab
        have hbw := World.block_lt_of_cell? wr _ q0
        obtain ⟨kd, nm, tg, xs, ⟨fn, fp, fa⟩, ⟨tn, tp, ta⟩, aa⟩ := z
        simp only [LIt.mem] at q0 q1 q2 q3 q4 q5 q6 q7 q8 q9 q10
        obtain ⟨p1, p2, p3, p4⟩ := hp1
        simp only at p1 p2 p3 p4
        obtain ⟨NM, hNM⟩ : ∃ S : ByteArray, (⟨nm.toArray⟩ : ByteArray) = S := ⟨_, rfl⟩
        obtain ⟨TG, hTG⟩ : ∃ S : ByteArray, (⟨tg.toArray⟩ : ByteArray) = S := ⟨_, rfl⟩
        obtain ⟨FN, hFN⟩ : ∃ S : ByteArray, (⟨fn.toArray⟩ : ByteArray) = S := ⟨_, rfl⟩
        obtain ⟨TN, hTN⟩ : ∃ S : ByteArray, (⟨tn.toArray⟩ : ByteArray) = S := ⟨_, rfl⟩
        rw [hNM] at q1
        rw [hTG] at q2
        rw [hFN] at q4
        rw [hTN] at q7
        have lFN : FN.data.toList = fn := by rw [← hFN]
        have lTN : TN.data.toList = tn := by rw [← hTN]
        have HLF := Lib.hid lFN
        have HLT := Lib.hid lTN
        obtain ⟨n, hn⟩ : ∃ n, xs.length = n := ⟨_, rfl⟩
        rw [hn] at q3
        clear hNM hTG hFN hTN lFN lTN hn
        have nX : New wr (wr.alloc (.cells #[.int .u8 kd, .string NM, .string TG, .slice ya n yc, .string FN, I fp, I (fa : Int), .string TN, I tp, I (ta : Int), I (aa : Int)] 42)) := (New.refl _).alloc _
        obtain ⟨⟨x0, x1, x2, x3, x4, x5, x6, x7, x8, x9, x10⟩, -, hXX⟩ := it_get (heap_alloc_new wr (.cells #[.int .u8 kd, .string NM, .string TG, .slice ya n yc, .string FN, I fp, I (fa : Int), .string TN, I tp, I (ta : Int), I (aa : Int)] 42))
        have NX := Lib.hid nX
        have hsz := fun wd : ByteArray => fun q : Nat => stands_yes (wr.alloc (.cells #[.int .u8 kd, .string NM, .string TG, .slice ya n yc, .string FN, I fp, I (fa : Int), .string TN, I tp, I (ta : Int), I (aa : Int)] 42)) a0 wd q
        have HSZ := Lib.hid hsz
        have d1 : decide ((aa : Int) ≤ (prev : Int)) = false := decide_eq_false (by omega)
        have i1 : ¬ (aa : Int) ≤ (prev : Int) := by omega
        clear nX hsz
        rw [HAB.out] at s1 ⊢
        rcases p4 with ⟨rfl, w1', rfl, rfl⟩ | ⟨rfl, w1', w2', w3', g1, g2⟩ | ⟨rfl, w1', rfl, w2', g1⟩ | ⟨rfl, w1', w2', g1, rfl⟩
        · have st1 := HSZ.out ⟨#[97, 99, 116, 111, 114]⟩ aa w1' (by omega)
          have HBD : Hid (aa ≤ 2000000) := Lib.hid (by have hh := (w1').1; rw [toList_len] at hh; omega)
          have p9 : aa < 2000000 ∧ aa < 2000000 := by have hh := (w1').1; have hi := (w1').1; rw [toList_len] at hh hi; omega
          have HP9 := Lib.hid (And.intro p1 (And.intro p2 (And.intro p3 p9)))
          clear p1 p2 p3 p9 w1'
          go_wp2_with fail
          refine st1.mono ?_
          rintro e w2 ⟨rfl, rfl⟩
          go_wp2_with fail
          refine ⟨⟨k + 1, aa, by omega, rfl, by go_num, Lib.hid (HN.out.trans NX.out), Lib.hid ?_, HBD⟩, by simp [intOf]; omega⟩
          have hq := HP2.out
          have h9 := HP9.out
          rw [HZ.out] at hq
          unfold lastPl at hq
          simp only at hq
          rw [show max (max aa 0) 0 = aa by omega] at hq
          exact hq
        · have st1 := HSZ.out ⟨#[101, 100, 103, 101]⟩ aa w1' (by omega)
          have HBD : Hid (ta ≤ 2000000) := Lib.hid (by have hh := (w3').1; rw [toList_len] at hh; omega)
          have p9 : aa < 2000000 ∧ ta < 2000000 := by have hh := (w1').1; have hi := (w3').1; rw [toList_len] at hh hi; omega
          have st2 := HSZ.out FN fa (by rw [HLF.out]; exact w2') (by omega)
          have e1 : ((fa : Int) != 0) = true := by simp; omega
          have e2 : decide ((fa : Int) ≤ (aa : Int)) = false := decide_eq_false (by omega)
          have e3 : ¬ (fa : Int) ≤ (aa : Int) := by omega
          have e4 : decide ((aa : Int) < (fa : Int)) = true := decide_eq_true (by omega)
          have e5 : (aa : Int) < (fa : Int) := by omega
          have e6 : (0 : Int) < (fa : Int) := by omega
          have st3 := HSZ.out TN ta (by rw [HLT.out]; exact w3') (by omega)
          have e7 : ((ta : Int) != 0) = true := by simp; omega
          have e8 : decide ((ta : Int) ≤ ((fa : Int))) = false := decide_eq_false (by omega)
          have e9 : ¬ (ta : Int) ≤ ((fa : Int)) := by omega
          have ea : decide ((aa : Int) < (ta : Int)) = true := decide_eq_true (by omega)
          have eb : (aa : Int) < (ta : Int) := by omega
          have ec : (0 : Int) < (ta : Int) := by omega
          have HP9 := Lib.hid (And.intro p1 (And.intro p2 (And.intro p3 p9)))
          clear p1 p2 p3 p9 w1' w2' w3'
          go_wp2_with fail
          refine st1.mono ?_
          rintro e w2 ⟨rfl, rfl⟩
          go_wp2_with fail
          refine st2.mono ?_
          rintro e w3 ⟨rfl, rfl⟩
          go_wp2_with fail
          refine st3.mono ?_
          rintro e w4 ⟨rfl, rfl⟩
          go_wp2_with fail
          refine ⟨⟨k + 1, ta, by omega, rfl, by go_num, Lib.hid (HN.out.trans NX.out), Lib.hid ?_, HBD⟩, by simp [intOf]; omega⟩
          have hq := HP2.out
          have h9 := HP9.out
          rw [HZ.out] at hq
          unfold lastPl at hq
          simp only at hq
          rw [show max (max aa fa) ta = ta by omega] at hq
          exact hq
        · have st1 := HSZ.out ⟨#[105, 110]⟩ aa w1' (by omega)
          have HBD : Hid (ta ≤ 2000000) := Lib.hid (by have hh := (w2').1; rw [toList_len] at hh; omega)
          have p9 : aa < 2000000 ∧ ta < 2000000 := by have hh := (w1').1; have hi := (w2').1; rw [toList_len] at hh hi; omega
          have st3 := HSZ.out TN ta (by rw [HLT.out]; exact w2') (by omega)
          have e7 : ((ta : Int) != 0) = true := by simp; omega
          have e8 : decide ((ta : Int) ≤ (0)) = false := decide_eq_false (by omega)
          have e9 : ¬ (ta : Int) ≤ (0) := by omega
          have ea : decide ((aa : Int) < (ta : Int)) = true := decide_eq_true (by omega)
          have eb : (aa : Int) < (ta : Int) := by omega
          have ec : (0 : Int) < (ta : Int) := by omega
          have HP9 := Lib.hid (And.intro p1 (And.intro p2 (And.intro p3 p9)))
          clear p1 p2 p3 p9 w1' w2'
          go_wp2_with fail
          refine st1.mono ?_
          rintro e w2 ⟨rfl, rfl⟩
          go_wp2_with fail
          refine st3.mono ?_
          rintro e w4 ⟨rfl, rfl⟩
          go_wp2_with fail
          refine ⟨⟨k + 1, ta, by omega, rfl, by go_num, Lib.hid (HN.out.trans NX.out), Lib.hid ?_, HBD⟩, by simp [intOf]; omega⟩
          have hq := HP2.out
          have h9 := HP9.out
          rw [HZ.out] at hq
          unfold lastPl at hq
          simp only at hq
          rw [show max (max aa 0) ta = ta by omega] at hq
          exact hq
        · have st1 := HSZ.out ⟨#[111, 117, 116]⟩ aa w1' (by omega)
          have HBD : Hid (fa ≤ 2000000) := Lib.hid (by have hh := (w2').1; rw [toList_len] at hh; omega)
          have p9 : aa < 2000000 ∧ fa < 2000000 := by have hh := (w1').1; have hi := (w2').1; rw [toList_len] at hh hi; omega
          have st2 := HSZ.out FN fa (by rw [HLF.out]; exact w2') (by omega)
          have e1 : ((fa : Int) != 0) = true := by simp; omega
          have e2 : decide ((fa : Int) ≤ (aa : Int)) = false := decide_eq_false (by omega)
          have e3 : ¬ (fa : Int) ≤ (aa : Int) := by omega
          have e4 : decide ((aa : Int) < (fa : Int)) = true := decide_eq_true (by omega)
          have e5 : (aa : Int) < (fa : Int) := by omega
          have e6 : (0 : Int) < (fa : Int) := by omega
          have HP9 := Lib.hid (And.intro p1 (And.intro p2 (And.intro p3 p9)))
          clear p1 p2 p3 p9 w1' w2'
          go_wp2_with fail
          refine st1.mono ?_
          rintro e w2 ⟨rfl, rfl⟩
          go_wp2_with fail
          refine st2.mono ?_
          rintro e w3 ⟨rfl, rfl⟩
          go_wp2_with fail
          refine ⟨⟨k + 1, fa, by omega, rfl, by go_num, Lib.hid (HN.out.trans NX.out), Lib.hid ?_, HBD⟩, by simp [intOf]; omega⟩
          have hq := HP2.out
          have h9 := HP9.out
          rw [HZ.out] at hq
          unfold lastPl at hq
          simp only at hq
          rw [show max (max aa fa) 0 = fa by omega] at hq
          exact hq
      · have hkd : decide (k < items.length) = false := decide_eq_false hk1
        have hk9 : ¬ (k : Int) < (items.length : Int) := by omega
        have haw := awake_sk wr (he.new (N1.out.trans HN.out))
        go_wp2_with fail
        refine haw.mono ?_
        rintro e w2 ⟨rfl, n2⟩
        go_wp2_with fail
        (try go_ret)
        exact ⟨rfl, (N1.out.trans HN.out).trans n2⟩

set_option maxRecDepth 100000 in
theorem contract (H : Type) (enc : TypeId × Value → H) (W : World) (base : Nat) (args : Array Value) (ds gs : List (DataW H)) (before : List MemPlace)
    (hval0 : ∀ (j : Nat) t v, Tryd.f7.params[j]? = some t → args[j]? = some v → Value.okWide Tryd.prog W .any base t v)
    (hW : DataW.Whole enc Tryd.prog Tryd.f7.params.toList Rows.sketchPlacesSpec.vars false W args.toList ds gs before)
    (hsz0 : (DataW.weightsEach Tryd.prog (Tryd.f7.params.toList ++ Rows.sketchPlacesSpec.plain.varTypes Tryd.prog) (ds ++ gs)).all (· ≤ reachBytes) = true) (hL : laidMetH Tryd.prog Rows.sketchPlacesRow.laid W) :
    Calls Tryd.prog 7 args W fun e W' => ∃ v, e = .returned v ∧ Rows.sketchPlacesSpec.post enc Tryd.prog Tryd.f7 false true false false W args v W' := by
  have hval := hval0
  have hsz := hsz0
  clear hsz0
  have hW' := hW
  have he : Env W := env_of (by exact hL)
  obtain ⟨p, q, hA0, hV, rfl, hfz, hnd⟩ := hW
  have hA : DataW.TrodAll enc Tryd.prog W 0 (fun _ => true) true Tryd.f7.params.toList args.toList ds p := hA0
  rw [Tryd.params7] at hA hval hsz
  obtain ⟨v0, vs0, d0, ds0, p0, q0, hargs, rfl, rfl, h0, r0'⟩ := trodAll_cons hA
  obtain ⟨rfl, rfl, rfl⟩ := trodAll_nil r0'
  obtain rfl : args = #[v0] := by cases args; simp_all
  obtain ⟨rfl, rfl⟩ := trodVars_none hV
  have k0 := h0
  have lt0 : ∀ x ∈ p0, x.block < W.heap.size := by obtain ⟨m, hm⟩ := k0; exact DataW.trod_lt m _ _ _ hm
  obtain ⟨a0, rfl, e0, _, w0⟩ := open_string Tryd.underlying9 (hval 0 9 v0 rfl rfl) h0
  have s0 : a0.size ≤ 140737488351232 := by
    have hh := sized_string hsz (j := 0) (t := 9) (bytes := a0.data.toList) rfl (by rw [e0]; rfl)
    have hr : reachBytes = 140737488351232 := rfl
    rw [hr, Array.length_toList] at hh
    exact hh
  clear hA0 hval0
  refine (walk W he a0 s0).mono fun e W' ⟨he, hnew⟩ => ?_
  have bel := hnew.below
  subst he
  exact ⟨_, rfl, _, _, _, [], _, [], hW', trodAll_mk1 (shut_bool Tryd.underlying4 _), (trodAll_cons_mk (Below.trod laidOut (by kernel_rfl) (of_decide_eq_true (by kernel_rfl)) k0 bel lt0) trodAll_mk0), rfl, bel.frame _, fun h => by cases h⟩

theorem reads (os : Os) {H : Type} (enc : TypeId × Value → H) : ∃ places, DataW.whole enc Tryd.prog ((laidWorld os).forCall (fun _ _ => 0) ⟨#[], #[.string ByteArray.empty], []⟩).memory Tryd.f7.params.toList Rows.sketchPlacesSpec.vars false #[.string ByteArray.empty].toList 8 = some ([.lit (.string [])], [], places) :=
  ⟨[], by kernel_rfl⟩

set_option maxRecDepth 100000 in
theorem lifted (os : Os) (started : os.Started) (H : Type) (enc : TypeId × Value → H) (F : Stop.Interp) :
    ReturnsInHanded {} Tryd.checked os 7 .any ((OpenSpec.ofChange Rows.sketchPlacesSpec).preRow enc Tryd.prog Tryd.f7 Rows.sketchPlacesRow.domain false Rows.sketchPlacesRow.laid) (((OpenSpec.ofChange Rows.sketchPlacesSpec).at F).post enc Tryd.prog Tryd.f7 false true false false) := by
  obtain ⟨places, hx⟩ := reads os enc
  refine returnsInHanded_of_row (C := Tryd.checked) (s := OpenSpec.ofChange Rows.sketchPlacesSpec) own started (by kernel_rfl) Tryd.func7
    (witness_row_at (enc := enc) (C := Tryd.checked) false (laidWorld os) #[.string ByteArray.empty] rfl (by kernel_rfl) (by kernel_rfl) (by kernel_rfl)
      (OpenSpec.preRow_of_cond 8 hx (by kernel_rfl) (fun k hk => by cases hk) (by kernel_rfl) (laid_met os _))) ?_
  intro W base args ds gs before hval hW _ _ hsz hL _ _
  exact contract H enc W base args ds gs before hval hW hsz hL

theorem said : Rows.SketchPlacesSaid :=
  OpenClaim.holds_of_cond 7 Tryd.f7 rfl rfl rfl rfl rfl rfl rfl ⟨rfl, rfl, rfl, rfl, rfl⟩ rfl rfl rfl rfl rfl (by kernel_rfl) Tryd.func7 (by kernel_rfl)
    (of_decide_eq_true (by kernel_rfl)) (by unfold Func.isWrapper; first | (rw [if_pos (by decide +kernel)]; kernel_rfl) | (rw [if_neg (by decide +kernel)]; exact ⟨rfl, rfl⟩))
    (fun os started H enc _ F => by rw [OpenClaim.pre_eq_preRow]; exact lifted os started H enc F)

theorem plain (f : FuncId) (fn : Func) (hf : Tryd.pinned.checked.prog.funcNamed "pianola/pianolalaw05.SketchPlaces" = some f) (hfn : Tryd.pinned.checked.prog.funcs[f]? = some fn) :
    true = Tryd.pinned.checked.prog.looks [] ∧ ∀ (j : Nat) t, fn.params[j]? = some t → Tryd.pinned.checked.prog.wantsStandIn t = false := by
  obtain rfl : f = 7 := Option.some.inj ((show Tryd.prog.funcNamed "pianola/pianolalaw05.SketchPlaces" = some 7 by kernel_rfl).symm.trans hf) |>.symm
  obtain rfl : fn = Tryd.f7 := (Option.some.inj (Tryd.func7.symm.trans hfn)).symm
  refine ⟨by kernel_rfl, fun j t ht => ?_⟩
  rw [Tryd.params7] at ht
  have hm := Array.mem_of_getElem? ht
  have : t = 9 := by
    simpa [or_assoc] using hm
  rcases this with rfl
  · exact (show Tryd.prog.wantsStandIn 9 = false by kernel_rfl)

/-- THE CARD. -/
theorem proved : Rows.SketchPlacesCardSaid :=
  Claim7.holds_tied_plain_at .later [] _ _ _ _ said (fun _ h => by cases h) (by kernel_rfl) (fun _ h => by cases h) sketchPlaces_row_tie rfl ⟨rfl, rfl⟩ (by kernel_rfl) rfl plain (by kernel_rfl)
end Go.Proofs.YtohalcbhckahmaaDoor.sketchPlaces
