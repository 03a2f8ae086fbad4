/-
  'SketchAhead': the law returns true at every input; what it is handed reads afterwards as before; the variables of the library that it reads hold what the program's text lays.
-/
import Derived.Test.YtohalcbhckahmaaDoorSkT
import Derived.Test.YtohalcbhckahmaaDoorSkU
import Derived.Test.YtohalcbhckahmaaDoorSkY
namespace Go.Proofs.YtohalcbhckahmaaDoor.sketchAhead
open Go Go.RowKit Go.Joins Go.ChangeShapes Go.WideShapes Go.ChangeAt
open Go.ChangeMaps (open_string shut_string)
set_option linter.all false

set_option maxRecDepth 100000 in
set_option maxHeartbeats 4000000 in
theorem walk (w : World) (he : Env w) (a0 : ByteArray) (h0 : a0.size ≤ 140737488351232) (a1 : ByteArray) (h1 : a1.size ≤ 140737488351232) :
    Calls Tryd.prog 9 #[.string a0, .string a1] w fun e w' => e = .returned (.bool true) ∧ New w w' := by
  have hs : a0.size ≤ 9223372036854775807 := by omega
  obtain ⟨⟨c, k⟩, hf⟩ : ∃ r, faultOf (parseA a0.data.toList) = r := ⟨_, rfl⟩
  have hp1 := skparse_f w a0 he hs c k hf
  by_cases hc : c = 50
  · subst hc
    have hk : parseA a0.data.toList = .error (50, k) := by
      cases hr : parseA a0.data.toList with
      | ok x => rw [hr] at hf; cases hf
      | error e => rw [hr] at hf; exact congrArg _ hf
    obtain ⟨l, j, t, hA, hpl, htj, rfl⟩ := parse_err hk
    obtain ⟨hle, hcut⟩ := ahead_cut hA hpl htj
    rw [toList_len] at hle
    have hwith := fun (hs0 : t.sort ≠ 0) (hl : a0.data.toList.length + a1.data.toList.length ≤ 1000000) (m : List LTok) (c : Int) (k : Nat) hw => ahead_with (m := m) (c := c) (k := k) hA hpl htj hs0 hl hw
    have hup := fun (hs0 : t.sort ≠ 0) => (lexA_upto hA htj hs0).1
    have hone := fun (i : Nat) (u : LTok) (hu : l[i]? = some u) (e : u.at_ = t.at_) => tok_one hA hu htj e
    have hend := fun (h0 : t.sort = 0) => tok_end hA htj h0
    have hnum := (lexA_ends hA).2 j t htj
    obtain ⟨⟨c2, k2⟩, hf2⟩ : ∃ r, faultOf (parseA (a0.extract 0 t.at_).data.toList) = r := ⟨_, rfl⟩
    have hYl : (a0.extract 0 t.at_).data.toList = a0.data.toList.take t.at_ := by rw [extract_list]; simp
    have hcc : (c2 = 0 ∧ k2 = 0) ∨ (c2 = 50 ∧ t.at_ = k2) := by
      rw [← hYl] at hcut
      rcases hcut with ⟨x, hx⟩ | hx
      · rw [hx] at hf2; cases hf2; exact .inl ⟨rfl, rfl⟩
      · rw [hx] at hf2; cases hf2; exact .inr ⟨rfl, rfl⟩
    have hYs : (a0.extract 0 t.at_).size ≤ a0.size := by rw [← toList_len, hYl, List.length_take, toList_len]; omega
    have hp2 := fun W e => skparse_f W (a0.extract 0 t.at_) e (by omega) c2 k2 hf2
    have hall := fun W e => callA W a0 e hs l 0 0 hA l.length rfl
    have hln := (lexA_count (l := a0.data.toList)).1
    rw [hA] at hln
    simp only at hln
    have HWI := Lib.hid hwith
    have HON := Lib.hid hone
    have HUP := Lib.hid hup
    have HEN := Lib.hid hend
    have HNU := Lib.hid hnum
    have HTJ := Lib.hid htj
    have HYL := Lib.hid hYl
    obtain ⟨so, tx, nu, at_⟩ := t
    simp only at hle hp1 hp2 hcc
    have d1 : decide ((at_ : Int) < 0) = false := decide_eq_false (by omega)
    have d2 : decide ((a0.size : Int) < (at_ : Int)) = false := decide_eq_false (by omega)
    have i1 : ¬ (at_ : Int) < 0 := by omega
    have i2 : ¬ (a0.size : Int) < (at_ : Int) := by omega
    have i3 : (at_ : Int) ≤ (a0.size : Int) := by omega
    have i4 : (0 : Int) ≤ (at_ : Int) := by omega
    have y1 : ((at_ : Int) == (at_ : Int)) = true := by simp
    clear hf hk hA hpl hcut hwith hone hup hend hnum hYl hf2 hYs htj
    go_enter Tryd.func9, Tryd.ntmps9
    go_wp2_with fail
    refine (hp1).mono ?_
    rintro e w1 ⟨w1nm, w1ia, w1n, w1ic, rfl, kw1⟩
    have mw1 : New w1 ((w1.alloc (.cells #[.string w1nm, .slice w1ia w1n w1ic] 24)).alloc (.cells #[I 50, I (at_ : Int)] 27)) := ((New.refl _).alloc _).alloc _
    have hFw1 : ((w1.alloc (.cells #[.string w1nm, .slice w1ia w1n w1ic] 24)).alloc (.cells #[I 50, I (at_ : Int)] 27)).heap[w1.heap.size + 1]? = some (.cells #[I 50, I (at_ : Int)] 27 (0, 0)) := by
      have := heap_alloc_new (w1.alloc (.cells #[.string w1nm, .slice w1ia w1n w1ic] 24)) (.cells #[I 50, I (at_ : Int)] 27)
      simpa using this
    obtain ⟨w1f0, w1f1, -, -, w1fl⟩ := sk_get hFw1
    have N1 := Lib.hid ((kw1.trans mw1))
    have Dw1 := Lib.hid (kw1.trans mw1)
    clear hFw1 kw1 mw1
    have hh2 := hp2 _ (he.new N1.out)
    clear hp1 hp2
    go_wp2_with fail
    refine (hh2).mono ?_
    rintro e w2 ⟨w2nm, w2ia, w2n, w2ic, rfl, kw2⟩
    have mw2 : New w2 ((w2.alloc (.cells #[.string w2nm, .slice w2ia w2n w2ic] 24)).alloc (.cells #[I c2, I (k2 : Int)] 27)) := ((New.refl _).alloc _).alloc _
    have hFw2 : ((w2.alloc (.cells #[.string w2nm, .slice w2ia w2n w2ic] 24)).alloc (.cells #[I c2, I (k2 : Int)] 27)).heap[w2.heap.size + 1]? = some (.cells #[I c2, I (k2 : Int)] 27 (0, 0)) := by
      have := heap_alloc_new (w2.alloc (.cells #[.string w2nm, .slice w2ia w2n w2ic] 24)) (.cells #[I c2, I (k2 : Int)] 27)
      simpa using this
    obtain ⟨w2f0, w2f1, -, -, w2fl⟩ := sk_get hFw2
    have N2 := Lib.hid (N1.out.trans (kw2.trans mw2))
    have Dw2 := Lib.hid (kw2.trans mw2)
    clear hFw2 kw2 mw2
    have u0 := New.cell Dw2.out w1f0
    have u1 := New.cell Dw2.out w1f1
    have hh3 := hall _ (he.new N2.out)
    clear hh2 hall w1f0 w1f1
    have hub := World.block_lt_of_cell? _ _ u0
    have hcc2 : (c2 = 0 ∧ k2 = 0) ∨ (c2 = 50 ∧ k2 = at_) := by rcases hcc with h | ⟨h, e⟩; exact .inl h; exact .inr ⟨h, e.symm⟩
    clear hcc
    obtain ⟨N, hN⟩ : ∃ N, l.length = N := ⟨_, rfl⟩
    rw [hN] at hh3 hln
    have HLN := Lib.hid hN
    clear hN
    rcases hcc2 with ⟨rfl, rfl⟩ | ⟨rfl, hk2⟩
    · skip
      go_wp2_with fail
      refine hh3.mono ?_
      rintro e w3 ⟨ao, co, rfl, n3, hsl⟩
      have m3 : New w3 (w3.alloc (.cells #[I 0, I 0] 27)) := (New.refl _).alloc _
      have HSL := Lib.hid (hsl.new m3)
      have v0 := New.cell (n3.trans m3) u0
      have v1 := New.cell (n3.trans m3) u1
      have hvb := World.block_lt_of_cell? _ _ v0
      have N3 := Lib.hid ((N2.out.trans n3).trans m3)
      clear hh3 u0 u1 hub n3 hsl
      go_wp2_with fail
      obtain ⟨W3, hW3⟩ : ∃ W, W = w3.alloc (.cells #[I 0, I 0] 27) := ⟨_, rfl⟩
      rw [← hW3] at HSL N3 v0 v1 hvb ⊢
      clear hW3 m3
      have HV := Lib.hid (And.intro v0 v1)
      clear v0 v1 hvb
      go_loopw [11] (fun i wr => ∃ q : Nat, q ≤ N ∧ i = .int .i64 q ∧ Hid (New W3 wr) ∧ Hid (∀ u i', i' < q → l[i']? = some u → u.at_ = at_ → u.sort = 0)) (fun i _ => N - (intOf i).toNat)
      case atStart => exact ⟨0, by omega, rfl, Lib.hid (New.refl _), Lib.hid (fun u i' h => absurd h (by omega))⟩
      case round =>
        obtain ⟨q, hq, rfl, HN, HQ⟩ := hrel
        have v0 := New.cell HN.out HV.out.1
        have v1 := New.cell HN.out HV.out.2
        have hvb := World.block_lt_of_cell? _ _ v0
        by_cases hq1 : q < N
        · have hql : q < l.length := by have := HLN.out; omega
          obtain ⟨bb, off, hab, q0, q1, q2, q3⟩ := toks_at (HSL.out.new HN.out) hql
          have hqN : (q : Int) < (N : Int) := by omega
          have hqd : decide (q < N) = true := decide_eq_true hq1
          obtain ⟨u, hu⟩ : ∃ u, l[q] = u := ⟨_, rfl⟩
          have hgu := List.getElem?_eq_getElem hql
          rw [hu] at q0 q1 q2 q3 hgu
          clear hu
          have hbw := World.block_lt_of_cell? wr _ q0
          have HAB := Lib.hid hab
          have HGU := Lib.hid hgu
          obtain ⟨uso, utx, unu, uat⟩ := u
          obtain ⟨UT, hUT⟩ : ∃ T : ByteArray, (⟨utx.toArray⟩ : ByteArray) = T := ⟨_, rfl⟩
          simp only [hUT] at q0 q1 q2 q3
          have HUT := Lib.hid hUT
          clear hUT hgu hab
          by_cases hat : uat = at_
          · by_cases hso : uso = 0
            · subst hat hso
              have e2 : ((0 : Int) != 0) = false := by decide
              have HNX : Hid (∀ u i', i' < q + 1 → l[i']? = some u → u.at_ = uat → u.sort = 0) := Lib.hid (fun u i' h1 h2 h3 => by
                rcases Nat.lt_or_ge i' q with h | h
                · exact HQ.out u i' h h2 h3
                · obtain rfl : i' = q := by omega
                  rw [HGU.out] at h2; cases h2; rfl)
              rw [HAB.out]
              go_wp2_with fail
              go_quiet (fail)
              go_wp2_with fail
              go_roundw
              case rel => exact ⟨q + 1, by omega, by go_num, by first | exact HN | exact Lib.hid (HN.out.trans ((New.refl _).drewN _)), HNX⟩
              case measure => simp [intOf]; omega
            · subst hat
              obtain rfl : q = j := HON.out q _ HGU.out rfl
              have hsame := HGU.out.symm.trans HTJ.out
              obtain ⟨rfl, rfl, rfl⟩ : uso = so ∧ utx = tx ∧ unu = nu := by cases hsame; exact ⟨rfl, rfl, rfl⟩
              clear hsame
              have e2 : (uso != 0) = true := by simpa using hso
              have HSO := Lib.hid hso
              clear hso
              have w5 : IntKind.i64.wrap (1000000 - (a0.size : Int)) = 1000000 - (a0.size : Int) := IntWalk.i64_in _ (by omega)
              by_cases hbig : (1000000 : Int) - (a0.size : Int) < (a1.size : Int)
              · have hbd : decide ((1000000 : Int) - (a0.size : Int) < (a1.size : Int)) = true := decide_eq_true hbig
                rw [HAB.out]
                go_wp2_with fail
                go_quiet (fail)
                go_wp2_with fail
                (try go_ret)
                exact ⟨rfl, by first | exact (N3.out.trans HN.out) | exact (N3.out.trans HN.out).trans ((New.refl _).drewN _)⟩
              · have hbd : decide ((1000000 : Int) - (a0.size : Int) < (a1.size : Int)) = false := decide_eq_false hbig
                rw [HAB.out]
                go_wp2_with fail
                go_quiet (fail)
                go_wp2_with fail
                obtain ⟨Wd, hWd⟩ : ∃ W, W = wr.drewN nq := ⟨_, rfl⟩
                have nd : New wr Wd := by rw [hWd]; exact (New.refl _).drewN _
                rw [← hWd]
                clear hWd
                have hupl := HUP.out HSO.out
                obtain ⟨Sp, hSp⟩ : ∃ S, speltS ⟨uso, utx, unu, uat⟩ = S := ⟨_, rfl⟩
                have hSl : Sp.data.toList = (LTok.mk uso utx unu uat).spelt := by rw [← hSp]; rfl
                have hSz : uat + Sp.size ≤ a0.size := by rw [← toList_len Sp, hSl, ← toList_len a0]; exact hupl
                have hspl := fun W => spelt_any W ⟨uso, utx, unu, uat⟩ (uat : Int) HNU.out.2.1 HNU.out.2.2.1
                simp only [HUT.out, hSp] at hspl
                obtain ⟨Y, hY⟩ : ∃ Y, a0.extract 0 uat = Y := ⟨_, rfl⟩
                have hYl : Y.data.toList = a0.data.toList.take uat := by rw [← hY]; exact HYL.out
                have hYz : Y.size = uat := by rw [← toList_len, hYl, List.length_take, toList_len]; omega
                obtain ⟨X1, hX1⟩ : ∃ X, Y ++ Sp = X := ⟨_, rfl⟩
                obtain ⟨X2, hX2⟩ : ∃ X, X1 ++ (⟨#[10]⟩ : ByteArray) = X := ⟨_, rfl⟩
                obtain ⟨X3, hX3⟩ : ∃ X, X2 ++ a1 = X := ⟨_, rfl⟩
                have z1 : X1.size = uat + Sp.size := by rw [← hX1, ByteArray.size_append, hYz]
                have z2 : X2.size = uat + Sp.size + 1 := by rw [← hX2, ByteArray.size_append, z1]; rfl
                have z3 : X3.size = uat + Sp.size + 1 + a1.size := by rw [← hX3, ByteArray.size_append, z2]
                have l3 : X3.data.toList = a0.data.toList.take uat ++ (LTok.mk uso utx unu uat).spelt ++ 10 :: a1.data.toList := by
                  rw [← hX3, ← hX2, ← hX1, ByteArray.data_append, ByteArray.data_append, ByteArray.data_append, Array.toList_append, Array.toList_append, Array.toList_append, hYl, hSl]; simp
                have add1 : ∀ w : World, (Op.stringOp .add Y Sp).run Tryd.prog w = .ok (.string X1) w := fun w => by rw [← hX1]; exact run_string_add_sum w _ _ (by omega)
                have add2 : ∀ w : World, (Op.stringOp .add X1 (⟨#[10]⟩ : ByteArray)).run Tryd.prog w = .ok (.string X2) w := fun w => by rw [← hX2]; exact run_string_add_sum w _ _ (by show X1.size + 1 ≤ _; omega)
                have add3 : ∀ w : World, (Op.stringOp .add X2 a1).run Tryd.prog w = .ok (.string X3) w := fun w => by rw [← hX3]; exact run_string_add_sum w _ _ (by omega)
                obtain ⟨⟨ml, c3, k3⟩, hw3⟩ : ∃ r, lexA X3.data.toList = r := ⟨_, rfl⟩
                have hall3 := fun W e => callA W X3 e (by omega) ml c3 k3 hw3 ml.length rfl
                have hww := HWI.out HSO.out (by rw [toList_len, toList_len]; omega) ml c3 k3 (by rw [← l3]; exact hw3)
                rw [← l3] at hww
                -- next: wp_region_X
                have hS0 : (fun w' : World => w'.cell? ⟨w1.heap.size + 1, 1, none⟩ = some (I (uat : Int)) ∧ w'.cell? ⟨bb, off + q * 4, none⟩ = some (.int .u8 uso) ∧ w'.cell? ⟨bb, off + q * 4 + 1, none⟩ = some (.string UT) ∧ w'.cell? ⟨bb, off + q * 4 + 2, none⟩ = some (I unu) ∧ w'.cell? ⟨bb, off + q * 4 + 3, none⟩ = some (I (uat : Int))) Wd.drew := ⟨New.cell nd.drew v1, New.cell nd.drew q0, New.cell nd.drew q1, New.cell nd.drew q2, New.cell nd.drew q3⟩
                refine wp_region_X (fun w' : World => w'.cell? ⟨w1.heap.size + 1, 1, none⟩ = some (I (uat : Int)) ∧ w'.cell? ⟨bb, off + q * 4, none⟩ = some (.int .u8 uso) ∧ w'.cell? ⟨bb, off + q * 4 + 1, none⟩ = some (.string UT) ∧ w'.cell? ⟨bb, off + q * 4 + 2, none⟩ = some (I unu) ∧ w'.cell? ⟨bb, off + q * 4 + 3, none⟩ = some (I (uat : Int))) [] (by kernel_rfl) hS0 ?_
                refine anyX_take 0 (by kernel_rfl) (by kernel_rfl) (by kernel_rfl) (by kernel_rfl) (by kernel_rfl) hS0 ?_
                intro oi ho; simp only [List.getElem?_toArray, List.getElem?_cons_succ, List.getElem?_cons_zero, Option.some.injEq] at ho; subst ho
                refine ⟨?_, fun _ _ _ h => h, Or.inl ⟨by rfl, ?_⟩, ?_⟩; rotate_left 1
                · (intro wS hSw; (try dsimp only at hSw); go_simp; try with_reducible rfl)
                simp only [Act.put, List.setIfInBounds_toArray, List.set_cons_zero, List.set_cons_succ]
                refine anyX_take 1 (by kernel_rfl) (by kernel_rfl) (by kernel_rfl) (by kernel_rfl) (by kernel_rfl) hS0 ?_
                intro oi ho; simp only [List.getElem?_toArray, List.getElem?_cons_succ, List.getElem?_cons_zero, Option.some.injEq] at ho; subst ho
                refine ⟨?_, fun _ _ _ h => h, Or.inl ⟨by rfl, ?_⟩, ?_⟩; rotate_left 1
                · (intro wS hSw; (try dsimp only at hSw); go_simp; try with_reducible rfl)
                simp only [Act.put, List.setIfInBounds_toArray, List.set_cons_zero, List.set_cons_succ]
                refine anyX_take 2 (by kernel_rfl) (by kernel_rfl) (by kernel_rfl) (by kernel_rfl) (by kernel_rfl) hS0 ?_
                intro oi ho; simp only [List.getElem?_toArray, List.getElem?_cons_succ, List.getElem?_cons_zero, Option.some.injEq] at ho; subst ho
                refine ⟨?_, fun _ _ _ h => h, Or.inl ⟨by rfl, ?_⟩, ?_⟩; rotate_left 1
                · (intro wS hSw; (try dsimp only at hSw); go_simp; try with_reducible rfl)
                simp only [Act.put, List.setIfInBounds_toArray, List.set_cons_zero, List.set_cons_succ]
                refine anyX_take 3 (by kernel_rfl) (by kernel_rfl) (by kernel_rfl) (by kernel_rfl) (by kernel_rfl) hS0 ?_
                intro oi ho; simp only [List.getElem?_toArray, List.getElem?_cons_succ, List.getElem?_cons_zero, Option.some.injEq] at ho; subst ho
                refine ⟨?_, fun _ _ _ h => h, Or.inl ⟨by rfl, ?_⟩, ?_⟩; rotate_left 1
                · (intro wS hSw; (try dsimp only at hSw); go_simp; try with_reducible rfl)
                simp only [Act.put, List.setIfInBounds_toArray, List.set_cons_zero, List.set_cons_succ]
                refine anyX_take 4 (by kernel_rfl) (by kernel_rfl) (by kernel_rfl) (by kernel_rfl) (by kernel_rfl) hS0 ?_
                intro oi ho; simp only [List.getElem?_toArray, List.getElem?_cons_succ, List.getElem?_cons_zero, Option.some.injEq] at ho; subst ho
                refine ⟨?_, fun _ _ _ h => h, Or.inl ⟨by rfl, ?_⟩, ?_⟩; rotate_left 1
                · (intro wS hSw; (try dsimp only at hSw); go_simp; try with_reducible rfl)
                simp only [Act.put, List.setIfInBounds_toArray, List.set_cons_zero, List.set_cons_succ]
                refine anyX_take 5 (by kernel_rfl) (by kernel_rfl) (by kernel_rfl) (by kernel_rfl) (by kernel_rfl) hS0 ?_
                intro oi ho; simp only [List.getElem?_toArray, List.getElem?_cons_succ, List.getElem?_cons_zero, Option.some.injEq] at ho; subst ho
                refine ⟨?_, fun _ _ _ h => h, Or.inl ⟨by rfl, ?_⟩, ?_⟩; rotate_left 1
                · (intro wS hSw; (try dsimp only at hSw); go_simp; try with_reducible rfl)
                simp only [Act.put, List.setIfInBounds_toArray, List.set_cons_zero, List.set_cons_succ]
                refine anyX_take 6 (by kernel_rfl) (by kernel_rfl) (by kernel_rfl) (by kernel_rfl) (by kernel_rfl) hS0 ?_
                intro oi ho; simp only [List.getElem?_toArray, List.getElem?_cons_succ, List.getElem?_cons_zero, Option.some.injEq] at ho; subst ho
                refine ⟨?_, fun _ _ _ h => h, Or.inl ⟨by rfl, ?_⟩, ?_⟩; rotate_left 1
                · (intro wS hSw; (try dsimp only at hSw); go_simp; try with_reducible rfl)
                simp only [Act.put, List.setIfInBounds_toArray, List.set_cons_zero, List.set_cons_succ]
                refine anyX_take 7 (by kernel_rfl) (by kernel_rfl) (by kernel_rfl) (by kernel_rfl) (by kernel_rfl) hS0 ?_
                intro oi ho; simp only [List.getElem?_toArray, List.getElem?_cons_succ, List.getElem?_cons_zero, Option.some.injEq] at ho; subst ho
                refine ⟨?_, fun _ _ _ h => h, Or.inl ⟨by rfl, ?_⟩, ?_⟩; rotate_left 1
                · (intro wS hSw; (try dsimp only at hSw); go_simp; try with_reducible rfl)
                simp only [Act.put, List.setIfInBounds_toArray, List.set_cons_zero, List.set_cons_succ]
                refine anyX_take 11 (by kernel_rfl) (by kernel_rfl) (by kernel_rfl) (by kernel_rfl) (by kernel_rfl) hS0 ?_
                intro oi ho; simp only [List.getElem?_toArray, List.getElem?_cons_succ, List.getElem?_cons_zero, Option.some.injEq] at ho; subst ho
                refine ⟨?_, fun _ _ _ h => h, Or.inl ⟨by rfl, ?_⟩, ?_⟩; rotate_left 1
                · (intro wS hSw; (try dsimp only at hSw); go_simp; try with_reducible rfl)
                simp only [Act.put, List.setIfInBounds_toArray, List.set_cons_zero, List.set_cons_succ]
                refine anyX_one 8 (by kernel_rfl) ?_
                intro oi ho; simp only [List.getElem?_toArray, List.getElem?_cons_succ, List.getElem?_cons_zero, Option.some.injEq] at ho; subst ho; intro K hK
                (try simp only [Act.put, List.setIfInBounds_toArray, List.set_cons_zero, List.set_cons_succ])
                go_simp
                refine (hspl _).mono ?_
                rintro e w4 ⟨rfl, n4⟩
                have nd4 : New wr w4 := nd.drew.trans n4
                have hS4 : (fun w' : World => w'.cell? ⟨w1.heap.size + 1, 1, none⟩ = some (I (uat : Int)) ∧ w'.cell? ⟨bb, off + q * 4, none⟩ = some (.int .u8 uso) ∧ w'.cell? ⟨bb, off + q * 4 + 1, none⟩ = some (.string UT) ∧ w'.cell? ⟨bb, off + q * 4 + 2, none⟩ = some (I unu) ∧ w'.cell? ⟨bb, off + q * 4 + 3, none⟩ = some (I (uat : Int))) w4 := ⟨New.cell nd4 v1, New.cell nd4 q0, New.cell nd4 q1, New.cell nd4 q2, New.cell nd4 q3⟩
                refine hK _ _ (fun _ => hS4) ?_
                clear hK K hS0
                (try rw [hY])
                refine anyX_take 9 (by kernel_rfl) (by kernel_rfl) (by kernel_rfl) (by kernel_rfl) (by kernel_rfl) hS4 ?_
                intro oi ho; simp only [List.getElem?_toArray, List.getElem?_cons_succ, List.getElem?_cons_zero, Option.some.injEq] at ho; subst ho
                refine ⟨?_, fun _ _ _ h => h, Or.inl ⟨by rfl, ?_⟩, ?_⟩; rotate_left 1
                · (intro wS hSw; (try dsimp only at hSw); go_simp; try with_reducible rfl)
                simp only [Act.put, List.setIfInBounds_toArray, List.set_cons_zero, List.set_cons_succ]
                refine anyX_take 10 (by kernel_rfl) (by kernel_rfl) (by kernel_rfl) (by kernel_rfl) (by kernel_rfl) hS4 ?_
                intro oi ho; simp only [List.getElem?_toArray, List.getElem?_cons_succ, List.getElem?_cons_zero, Option.some.injEq] at ho; subst ho
                refine ⟨?_, fun _ _ _ h => h, Or.inl ⟨by rfl, ?_⟩, ?_⟩; rotate_left 1
                · (intro wS hSw; (try dsimp only at hSw); go_simp; try with_reducible rfl)
                simp only [Act.put, List.setIfInBounds_toArray, List.set_cons_zero, List.set_cons_succ]
                refine anyX_take 12 (by kernel_rfl) (by kernel_rfl) (by kernel_rfl) (by kernel_rfl) (by kernel_rfl) hS4 ?_
                intro oi ho; simp only [List.getElem?_toArray, List.getElem?_cons_succ, List.getElem?_cons_zero, Option.some.injEq] at ho; subst ho
                refine ⟨?_, fun _ _ _ h => h, Or.inl ⟨by rfl, ?_⟩, ?_⟩; rotate_left 1
                · (intro wS hSw; (try dsimp only at hSw); go_simp; try with_reducible rfl)
                simp only [Act.put, List.setIfInBounds_toArray, List.set_cons_zero, List.set_cons_succ]
                refine anyX_take 13 (by kernel_rfl) (by kernel_rfl) (by kernel_rfl) (by kernel_rfl) (by kernel_rfl) hS4 ?_
                intro oi ho; simp only [List.getElem?_toArray, List.getElem?_cons_succ, List.getElem?_cons_zero, Option.some.injEq] at ho; subst ho
                refine ⟨?_, fun _ _ _ h => h, Or.inl ⟨by rfl, ?_⟩, ?_⟩; rotate_left 1
                · (intro wS hSw; (try dsimp only at hSw); go_simp; try with_reducible rfl)
                simp only [Act.put, List.setIfInBounds_toArray, List.set_cons_zero, List.set_cons_succ]
                refine anyX_done (by kernel_rfl) ?_
                (try simp only [Act.put, List.setIfInBounds_toArray, List.set_cons_zero, List.set_cons_succ])
                simp only [Exit.then]
                have HVV := Lib.hid (And.intro (New.cell nd4 v0) (New.cell nd4 v1))
                have NN := Lib.hid ((N3.out.trans HN.out).trans nd4)
                have hh6 := hall3 w4 (he.new NN.out)
                clear hS4 hspl v0 v1 q0 q1 q2 q3 hvb hbw add1 add2 add3 nd nd4 n4
                go_wp2_with fail
                refine hh6.mono ?_
                rintro e w6 ⟨ao6, co6, rfl, n6, hsl6⟩
                clear hsl6 hh6
                have m6 : New w6 (w6.alloc (.cells #[I c3, I (k3 : Int)] 27)) := (New.refl _).alloc _
                obtain ⟨g0, g1, -, -, gl⟩ := sk_get (heap_alloc_new w6 (.cells #[I c3, I (k3 : Int)] 27))
                have u0 := New.cell (n6.trans m6) HVV.out.1
                have u1 := New.cell (n6.trans m6) HVV.out.2
                have hub := World.block_lt_of_cell? _ _ u0
                have hub9 : w1.heap.size + 1 < w6.heap.size := Nat.lt_of_lt_of_le (World.block_lt_of_cell? _ _ HVV.out.1) n6.size
                have N6 := Lib.hid ((NN.out.trans n6).trans m6)
                have hzz : X3.size ≤ 9223372036854775807 := by omega
                clear n6 m6 HVV
                by_cases hc3 : c3 = 0
                · skip
                  obtain ⟨hk3, hpz⟩ := hww.2 hc3
                  subst hc3 hk3
                  have hp7 := skparse_f _ X3 (he.new N6.out) hzz 50 uat (by rw [hpz]; rfl)
                  clear hww hpz hzz
                  go_wp2_with fail
                  refine (hp7).mono ?_
                  rintro e w7 ⟨w7nm, w7ia, w7n, w7ic, rfl, kw7⟩
                  have mw7 : New w7 ((w7.alloc (.cells #[.string w7nm, .slice w7ia w7n w7ic] 24)).alloc (.cells #[I 50, I (uat : Int)] 27)) := ((New.refl _).alloc _).alloc _
                  have hFw7 : ((w7.alloc (.cells #[.string w7nm, .slice w7ia w7n w7ic] 24)).alloc (.cells #[I 50, I (uat : Int)] 27)).heap[w7.heap.size + 1]? = some (.cells #[I 50, I (uat : Int)] 27 (0, 0)) := by
                    have := heap_alloc_new (w7.alloc (.cells #[.string w7nm, .slice w7ia w7n w7ic] 24)) (.cells #[I 50, I (uat : Int)] 27)
                    simpa using this
                  obtain ⟨w7f0, w7f1, -, -, w7fl⟩ := sk_get hFw7
                  have N7 := Lib.hid (N6.out.trans (kw7.trans mw7))
                  have Dw7 := Lib.hid (kw7.trans mw7)
                  clear hFw7 kw7 mw7
                  have g0' := New.cell Dw7.out g0
                  have g1' := New.cell Dw7.out g1
                  have u0' := New.cell Dw7.out u0
                  have u1' := New.cell Dw7.out u1
                  have hb1 := World.block_lt_of_cell? _ _ g0'
                  have hb2 := World.block_lt_of_cell? _ _ u0'
                  have haw := awake_sk _ (he.new N7.out)
                  clear hp7 g0 g1 u0 u1 hub gl Dw7
                  go_wp2_with fail
                  refine haw.mono ?_
                  rintro e w8 ⟨rfl, n8⟩
                  have G0 := New.cell n8 g0'
                  have G1 := New.cell n8 g1'
                  have U0 := New.cell n8 u0'
                  have U1 := New.cell n8 u1'
                  have F0 := New.cell n8 w7f0
                  have F1 := New.cell n8 w7f1
                  have hB1 := World.block_lt_of_cell? _ _ G0
                  have hB2 := World.block_lt_of_cell? _ _ U0
                  have hB3 := World.block_lt_of_cell? _ _ F0
                  clear haw g0' g1' u0' u1' w7f0 w7f1 w7fl
                  go_wp2_with fail
                  (try go_ret)
                  exact ⟨rfl, N7.out.trans n8⟩
                · skip
                  have hpz := hww.1 hc3
                  have e3 : (c3 == 0) = false := by simpa using hc3
                  have e4 : (c3 != 0) = true := by simpa using hc3
                  clear hc3
                  have hp7 := skparse_f _ X3 (he.new N6.out) hzz c3 k3 (by rw [hpz]; rfl)
                  clear hww hpz hzz
                  go_wp2_with fail
                  refine (hp7).mono ?_
                  rintro e w7 ⟨w7nm, w7ia, w7n, w7ic, rfl, kw7⟩
                  have mw7 : New w7 ((w7.alloc (.cells #[.string w7nm, .slice w7ia w7n w7ic] 24)).alloc (.cells #[I c3, I (k3 : Int)] 27)) := ((New.refl _).alloc _).alloc _
                  have hFw7 : ((w7.alloc (.cells #[.string w7nm, .slice w7ia w7n w7ic] 24)).alloc (.cells #[I c3, I (k3 : Int)] 27)).heap[w7.heap.size + 1]? = some (.cells #[I c3, I (k3 : Int)] 27 (0, 0)) := by
                    have := heap_alloc_new (w7.alloc (.cells #[.string w7nm, .slice w7ia w7n w7ic] 24)) (.cells #[I c3, I (k3 : Int)] 27)
                    simpa using this
                  obtain ⟨w7f0, w7f1, -, -, w7fl⟩ := sk_get hFw7
                  have N7 := Lib.hid (N6.out.trans (kw7.trans mw7))
                  have Dw7 := Lib.hid (kw7.trans mw7)
                  clear hFw7 kw7 mw7
                  have g0' := New.cell Dw7.out g0
                  have g1' := New.cell Dw7.out g1
                  have u0' := New.cell Dw7.out u0
                  have u1' := New.cell Dw7.out u1
                  have hb1 := World.block_lt_of_cell? _ _ g0'
                  have hb2 := World.block_lt_of_cell? _ _ u0'
                  have haw := awake_sk _ (he.new N7.out)
                  clear hp7 g0 g1 u0 u1 hub gl Dw7
                  go_wp2_with fail
                  refine haw.mono ?_
                  rintro e w8 ⟨rfl, n8⟩
                  have G0 := New.cell n8 g0'
                  have G1 := New.cell n8 g1'
                  have U0 := New.cell n8 u0'
                  have U1 := New.cell n8 u1'
                  have F0 := New.cell n8 w7f0
                  have F1 := New.cell n8 w7f1
                  have hB1 := World.block_lt_of_cell? _ _ G0
                  have hB2 := World.block_lt_of_cell? _ _ U0
                  have hB3 := World.block_lt_of_cell? _ _ F0
                  clear haw g0' g1' u0' u1' w7f0 w7f1 w7fl
                  go_wp2_with fail
                  (try go_ret)
                  exact ⟨rfl, N7.out.trans n8⟩
          · have e1 : ((uat : Int) == (at_ : Int)) = false := by simpa using fun h : (uat : Int) = (at_ : Int) => hat (by omega)
            have HNX : Hid (∀ u i', i' < q + 1 → l[i']? = some u → u.at_ = at_ → u.sort = 0) := Lib.hid (fun u i' h1 h2 h3 => by
              rcases Nat.lt_or_ge i' q with h | h
              · exact HQ.out u i' h h2 h3
              · obtain rfl : i' = q := by omega
                rw [HGU.out] at h2; cases h2; exact absurd h3 hat)
            clear hat
            rw [HAB.out]
            go_wp2_with fail
            go_quiet (fail)
            go_wp2_with fail
            go_roundw
            case rel => exact ⟨q + 1, by omega, by go_num, by first | exact HN | exact Lib.hid (HN.out.trans ((New.refl _).drewN _)), HNX⟩
            case measure => simp [intOf]; omega
        · have hqd : decide (q < N) = false := decide_eq_false hq1
          have hq9 : ¬ (q : Int) < (N : Int) := by omega
          have hjl : j < l.length := (List.getElem?_eq_some_iff.1 HTJ.out).1
          have hat : at_ = a0.size := by
            have h1 := HEN.out (HQ.out _ j (by have := HLN.out; omega) HTJ.out rfl)
            rw [toList_len] at h1; exact h1
          have e9 : ((at_ : Int) == (a0.size : Int)) = true := by rw [hat]; simp
          have haw := awake_sk wr (he.new (N3.out.trans HN.out))
          have HV2 := Lib.hid (And.intro v0 v1)
          clear hat v0 v1 hvb hjl
          go_wp2_with fail
          refine haw.mono ?_
          rintro e w6 ⟨rfl, n6⟩
          have v0 := New.cell n6 HV2.out.1
          have v1 := New.cell n6 HV2.out.2
          have hvb := World.block_lt_of_cell? _ _ v0
          go_wp2_with fail
          (try go_ret)
          exact ⟨rfl, (N3.out.trans HN.out).trans n6⟩

    · rw [hk2] at hh3 u0 u1 hub N2 ⊢
      clear hk2
      go_wp2_with fail
      refine hh3.mono ?_
      rintro e w3 ⟨ao, co, rfl, n3, hsl⟩
      have m3 : New w3 (w3.alloc (.cells #[I 0, I 0] 27)) := (New.refl _).alloc _
      have HSL := Lib.hid (hsl.new m3)
      have v0 := New.cell (n3.trans m3) u0
      have v1 := New.cell (n3.trans m3) u1
      have hvb := World.block_lt_of_cell? _ _ v0
      have N3 := Lib.hid ((N2.out.trans n3).trans m3)
      clear hh3 u0 u1 hub n3 hsl
      go_wp2_with fail
      obtain ⟨W3, hW3⟩ : ∃ W, W = w3.alloc (.cells #[I 0, I 0] 27) := ⟨_, rfl⟩
      rw [← hW3] at HSL N3 v0 v1 hvb ⊢
      clear hW3 m3
      have HV := Lib.hid (And.intro v0 v1)
      clear v0 v1 hvb
      go_loopw [11] (fun i wr => ∃ q : Nat, q ≤ N ∧ i = .int .i64 q ∧ Hid (New W3 wr) ∧ Hid (∀ u i', i' < q → l[i']? = some u → u.at_ = at_ → u.sort = 0)) (fun i _ => N - (intOf i).toNat)
      case atStart => exact ⟨0, by omega, rfl, Lib.hid (New.refl _), Lib.hid (fun u i' h => absurd h (by omega))⟩
      case round =>
        obtain ⟨q, hq, rfl, HN, HQ⟩ := hrel
        have v0 := New.cell HN.out HV.out.1
        have v1 := New.cell HN.out HV.out.2
        have hvb := World.block_lt_of_cell? _ _ v0
        by_cases hq1 : q < N
        · have hql : q < l.length := by have := HLN.out; omega
          obtain ⟨bb, off, hab, q0, q1, q2, q3⟩ := toks_at (HSL.out.new HN.out) hql
          have hqN : (q : Int) < (N : Int) := by omega
          have hqd : decide (q < N) = true := decide_eq_true hq1
          obtain ⟨u, hu⟩ : ∃ u, l[q] = u := ⟨_, rfl⟩
          have hgu := List.getElem?_eq_getElem hql
          rw [hu] at q0 q1 q2 q3 hgu
          clear hu
          have hbw := World.block_lt_of_cell? wr _ q0
          have HAB := Lib.hid hab
          have HGU := Lib.hid hgu
          obtain ⟨uso, utx, unu, uat⟩ := u
          obtain ⟨UT, hUT⟩ : ∃ T : ByteArray, (⟨utx.toArray⟩ : ByteArray) = T := ⟨_, rfl⟩
          simp only [hUT] at q0 q1 q2 q3
          have HUT := Lib.hid hUT
          clear hUT hgu hab
          by_cases hat : uat = at_
          · by_cases hso : uso = 0
            · subst hat hso
              have e2 : ((0 : Int) != 0) = false := by decide
              have HNX : Hid (∀ u i', i' < q + 1 → l[i']? = some u → u.at_ = uat → u.sort = 0) := Lib.hid (fun u i' h1 h2 h3 => by
                rcases Nat.lt_or_ge i' q with h | h
                · exact HQ.out u i' h h2 h3
                · obtain rfl : i' = q := by omega
                  rw [HGU.out] at h2; cases h2; rfl)
              rw [HAB.out]
              go_wp2_with fail
              go_quiet (fail)
              go_wp2_with fail
              go_roundw
              case rel => exact ⟨q + 1, by omega, by go_num, by first | exact HN | exact Lib.hid (HN.out.trans ((New.refl _).drewN _)), HNX⟩
              case measure => simp [intOf]; omega
            · subst hat
              obtain rfl : q = j := HON.out q _ HGU.out rfl
              have hsame := HGU.out.symm.trans HTJ.out
              obtain ⟨rfl, rfl, rfl⟩ : uso = so ∧ utx = tx ∧ unu = nu := by cases hsame; exact ⟨rfl, rfl, rfl⟩
              clear hsame
              have e2 : (uso != 0) = true := by simpa using hso
              have HSO := Lib.hid hso
              clear hso
              have w5 : IntKind.i64.wrap (1000000 - (a0.size : Int)) = 1000000 - (a0.size : Int) := IntWalk.i64_in _ (by omega)
              by_cases hbig : (1000000 : Int) - (a0.size : Int) < (a1.size : Int)
              · have hbd : decide ((1000000 : Int) - (a0.size : Int) < (a1.size : Int)) = true := decide_eq_true hbig
                rw [HAB.out]
                go_wp2_with fail
                go_quiet (fail)
                go_wp2_with fail
                (try go_ret)
                exact ⟨rfl, by first | exact (N3.out.trans HN.out) | exact (N3.out.trans HN.out).trans ((New.refl _).drewN _)⟩
              · have hbd : decide ((1000000 : Int) - (a0.size : Int) < (a1.size : Int)) = false := decide_eq_false hbig
                rw [HAB.out]
                go_wp2_with fail
                go_quiet (fail)
                go_wp2_with fail
                obtain ⟨Wd, hWd⟩ : ∃ W, W = wr.drewN nq := ⟨_, rfl⟩
                have nd : New wr Wd := by rw [hWd]; exact (New.refl _).drewN _
                rw [← hWd]
                clear hWd
                have hupl := HUP.out HSO.out
                obtain ⟨Sp, hSp⟩ : ∃ S, speltS ⟨uso, utx, unu, uat⟩ = S := ⟨_, rfl⟩
                have hSl : Sp.data.toList = (LTok.mk uso utx unu uat).spelt := by rw [← hSp]; rfl
                have hSz : uat + Sp.size ≤ a0.size := by rw [← toList_len Sp, hSl, ← toList_len a0]; exact hupl
                have hspl := fun W => spelt_any W ⟨uso, utx, unu, uat⟩ (uat : Int) HNU.out.2.1 HNU.out.2.2.1
                simp only [HUT.out, hSp] at hspl
                obtain ⟨Y, hY⟩ : ∃ Y, a0.extract 0 uat = Y := ⟨_, rfl⟩
                have hYl : Y.data.toList = a0.data.toList.take uat := by rw [← hY]; exact HYL.out
                have hYz : Y.size = uat := by rw [← toList_len, hYl, List.length_take, toList_len]; omega
                obtain ⟨X1, hX1⟩ : ∃ X, Y ++ Sp = X := ⟨_, rfl⟩
                obtain ⟨X2, hX2⟩ : ∃ X, X1 ++ (⟨#[10]⟩ : ByteArray) = X := ⟨_, rfl⟩
                obtain ⟨X3, hX3⟩ : ∃ X, X2 ++ a1 = X := ⟨_, rfl⟩
                have z1 : X1.size = uat + Sp.size := by rw [← hX1, ByteArray.size_append, hYz]
                have z2 : X2.size = uat + Sp.size + 1 := by rw [← hX2, ByteArray.size_append, z1]; rfl
                have z3 : X3.size = uat + Sp.size + 1 + a1.size := by rw [← hX3, ByteArray.size_append, z2]
                have l3 : X3.data.toList = a0.data.toList.take uat ++ (LTok.mk uso utx unu uat).spelt ++ 10 :: a1.data.toList := by
                  rw [← hX3, ← hX2, ← hX1, ByteArray.data_append, ByteArray.data_append, ByteArray.data_append, Array.toList_append, Array.toList_append, Array.toList_append, hYl, hSl]; simp
                have add1 : ∀ w : World, (Op.stringOp .add Y Sp).run Tryd.prog w = .ok (.string X1) w := fun w => by rw [← hX1]; exact run_string_add_sum w _ _ (by omega)
                have add2 : ∀ w : World, (Op.stringOp .add X1 (⟨#[10]⟩ : ByteArray)).run Tryd.prog w = .ok (.string X2) w := fun w => by rw [← hX2]; exact run_string_add_sum w _ _ (by show X1.size + 1 ≤ _; omega)
                have add3 : ∀ w : World, (Op.stringOp .add X2 a1).run Tryd.prog w = .ok (.string X3) w := fun w => by rw [← hX3]; exact run_string_add_sum w _ _ (by omega)
                obtain ⟨⟨ml, c3, k3⟩, hw3⟩ : ∃ r, lexA X3.data.toList = r := ⟨_, rfl⟩
                have hall3 := fun W e => callA W X3 e (by omega) ml c3 k3 hw3 ml.length rfl
                have hww := HWI.out HSO.out (by rw [toList_len, toList_len]; omega) ml c3 k3 (by rw [← l3]; exact hw3)
                rw [← l3] at hww
                -- next: wp_region_X
                have hS0 : (fun w' : World => w'.cell? ⟨w1.heap.size + 1, 1, none⟩ = some (I (uat : Int)) ∧ w'.cell? ⟨bb, off + q * 4, none⟩ = some (.int .u8 uso) ∧ w'.cell? ⟨bb, off + q * 4 + 1, none⟩ = some (.string UT) ∧ w'.cell? ⟨bb, off + q * 4 + 2, none⟩ = some (I unu) ∧ w'.cell? ⟨bb, off + q * 4 + 3, none⟩ = some (I (uat : Int))) Wd.drew := ⟨New.cell nd.drew v1, New.cell nd.drew q0, New.cell nd.drew q1, New.cell nd.drew q2, New.cell nd.drew q3⟩
                refine wp_region_X (fun w' : World => w'.cell? ⟨w1.heap.size + 1, 1, none⟩ = some (I (uat : Int)) ∧ w'.cell? ⟨bb, off + q * 4, none⟩ = some (.int .u8 uso) ∧ w'.cell? ⟨bb, off + q * 4 + 1, none⟩ = some (.string UT) ∧ w'.cell? ⟨bb, off + q * 4 + 2, none⟩ = some (I unu) ∧ w'.cell? ⟨bb, off + q * 4 + 3, none⟩ = some (I (uat : Int))) [] (by kernel_rfl) hS0 ?_
                refine anyX_take 0 (by kernel_rfl) (by kernel_rfl) (by kernel_rfl) (by kernel_rfl) (by kernel_rfl) hS0 ?_
                intro oi ho; simp only [List.getElem?_toArray, List.getElem?_cons_succ, List.getElem?_cons_zero, Option.some.injEq] at ho; subst ho
                refine ⟨?_, fun _ _ _ h => h, Or.inl ⟨by rfl, ?_⟩, ?_⟩; rotate_left 1
                · (intro wS hSw; (try dsimp only at hSw); go_simp; try with_reducible rfl)
                simp only [Act.put, List.setIfInBounds_toArray, List.set_cons_zero, List.set_cons_succ]
                refine anyX_take 1 (by kernel_rfl) (by kernel_rfl) (by kernel_rfl) (by kernel_rfl) (by kernel_rfl) hS0 ?_
                intro oi ho; simp only [List.getElem?_toArray, List.getElem?_cons_succ, List.getElem?_cons_zero, Option.some.injEq] at ho; subst ho
                refine ⟨?_, fun _ _ _ h => h, Or.inl ⟨by rfl, ?_⟩, ?_⟩; rotate_left 1
                · (intro wS hSw; (try dsimp only at hSw); go_simp; try with_reducible rfl)
                simp only [Act.put, List.setIfInBounds_toArray, List.set_cons_zero, List.set_cons_succ]
                refine anyX_take 2 (by kernel_rfl) (by kernel_rfl) (by kernel_rfl) (by kernel_rfl) (by kernel_rfl) hS0 ?_
                intro oi ho; simp only [List.getElem?_toArray, List.getElem?_cons_succ, List.getElem?_cons_zero, Option.some.injEq] at ho; subst ho
                refine ⟨?_, fun _ _ _ h => h, Or.inl ⟨by rfl, ?_⟩, ?_⟩; rotate_left 1
                · (intro wS hSw; (try dsimp only at hSw); go_simp; try with_reducible rfl)
                simp only [Act.put, List.setIfInBounds_toArray, List.set_cons_zero, List.set_cons_succ]
                refine anyX_take 3 (by kernel_rfl) (by kernel_rfl) (by kernel_rfl) (by kernel_rfl) (by kernel_rfl) hS0 ?_
                intro oi ho; simp only [List.getElem?_toArray, List.getElem?_cons_succ, List.getElem?_cons_zero, Option.some.injEq] at ho; subst ho
                refine ⟨?_, fun _ _ _ h => h, Or.inl ⟨by rfl, ?_⟩, ?_⟩; rotate_left 1
                · (intro wS hSw; (try dsimp only at hSw); go_simp; try with_reducible rfl)
                simp only [Act.put, List.setIfInBounds_toArray, List.set_cons_zero, List.set_cons_succ]
                refine anyX_take 4 (by kernel_rfl) (by kernel_rfl) (by kernel_rfl) (by kernel_rfl) (by kernel_rfl) hS0 ?_
                intro oi ho; simp only [List.getElem?_toArray, List.getElem?_cons_succ, List.getElem?_cons_zero, Option.some.injEq] at ho; subst ho
                refine ⟨?_, fun _ _ _ h => h, Or.inl ⟨by rfl, ?_⟩, ?_⟩; rotate_left 1
                · (intro wS hSw; (try dsimp only at hSw); go_simp; try with_reducible rfl)
                simp only [Act.put, List.setIfInBounds_toArray, List.set_cons_zero, List.set_cons_succ]
                refine anyX_take 5 (by kernel_rfl) (by kernel_rfl) (by kernel_rfl) (by kernel_rfl) (by kernel_rfl) hS0 ?_
                intro oi ho; simp only [List.getElem?_toArray, List.getElem?_cons_succ, List.getElem?_cons_zero, Option.some.injEq] at ho; subst ho
                refine ⟨?_, fun _ _ _ h => h, Or.inl ⟨by rfl, ?_⟩, ?_⟩; rotate_left 1
                · (intro wS hSw; (try dsimp only at hSw); go_simp; try with_reducible rfl)
                simp only [Act.put, List.setIfInBounds_toArray, List.set_cons_zero, List.set_cons_succ]
                refine anyX_take 6 (by kernel_rfl) (by kernel_rfl) (by kernel_rfl) (by kernel_rfl) (by kernel_rfl) hS0 ?_
                intro oi ho; simp only [List.getElem?_toArray, List.getElem?_cons_succ, List.getElem?_cons_zero, Option.some.injEq] at ho; subst ho
                refine ⟨?_, fun _ _ _ h => h, Or.inl ⟨by rfl, ?_⟩, ?_⟩; rotate_left 1
                · (intro wS hSw; (try dsimp only at hSw); go_simp; try with_reducible rfl)
                simp only [Act.put, List.setIfInBounds_toArray, List.set_cons_zero, List.set_cons_succ]
                refine anyX_take 7 (by kernel_rfl) (by kernel_rfl) (by kernel_rfl) (by kernel_rfl) (by kernel_rfl) hS0 ?_
                intro oi ho; simp only [List.getElem?_toArray, List.getElem?_cons_succ, List.getElem?_cons_zero, Option.some.injEq] at ho; subst ho
                refine ⟨?_, fun _ _ _ h => h, Or.inl ⟨by rfl, ?_⟩, ?_⟩; rotate_left 1
                · (intro wS hSw; (try dsimp only at hSw); go_simp; try with_reducible rfl)
                simp only [Act.put, List.setIfInBounds_toArray, List.set_cons_zero, List.set_cons_succ]
                refine anyX_take 11 (by kernel_rfl) (by kernel_rfl) (by kernel_rfl) (by kernel_rfl) (by kernel_rfl) hS0 ?_
                intro oi ho; simp only [List.getElem?_toArray, List.getElem?_cons_succ, List.getElem?_cons_zero, Option.some.injEq] at ho; subst ho
                refine ⟨?_, fun _ _ _ h => h, Or.inl ⟨by rfl, ?_⟩, ?_⟩; rotate_left 1
                · (intro wS hSw; (try dsimp only at hSw); go_simp; try with_reducible rfl)
                simp only [Act.put, List.setIfInBounds_toArray, List.set_cons_zero, List.set_cons_succ]
                refine anyX_one 8 (by kernel_rfl) ?_
                intro oi ho; simp only [List.getElem?_toArray, List.getElem?_cons_succ, List.getElem?_cons_zero, Option.some.injEq] at ho; subst ho; intro K hK
                (try simp only [Act.put, List.setIfInBounds_toArray, List.set_cons_zero, List.set_cons_succ])
                go_simp
                refine (hspl _).mono ?_
                rintro e w4 ⟨rfl, n4⟩
                have nd4 : New wr w4 := nd.drew.trans n4
                have hS4 : (fun w' : World => w'.cell? ⟨w1.heap.size + 1, 1, none⟩ = some (I (uat : Int)) ∧ w'.cell? ⟨bb, off + q * 4, none⟩ = some (.int .u8 uso) ∧ w'.cell? ⟨bb, off + q * 4 + 1, none⟩ = some (.string UT) ∧ w'.cell? ⟨bb, off + q * 4 + 2, none⟩ = some (I unu) ∧ w'.cell? ⟨bb, off + q * 4 + 3, none⟩ = some (I (uat : Int))) w4 := ⟨New.cell nd4 v1, New.cell nd4 q0, New.cell nd4 q1, New.cell nd4 q2, New.cell nd4 q3⟩
                refine hK _ _ (fun _ => hS4) ?_
                clear hK K hS0
                (try rw [hY])
                refine anyX_take 9 (by kernel_rfl) (by kernel_rfl) (by kernel_rfl) (by kernel_rfl) (by kernel_rfl) hS4 ?_
                intro oi ho; simp only [List.getElem?_toArray, List.getElem?_cons_succ, List.getElem?_cons_zero, Option.some.injEq] at ho; subst ho
                refine ⟨?_, fun _ _ _ h => h, Or.inl ⟨by rfl, ?_⟩, ?_⟩; rotate_left 1
                · (intro wS hSw; (try dsimp only at hSw); go_simp; try with_reducible rfl)
                simp only [Act.put, List.setIfInBounds_toArray, List.set_cons_zero, List.set_cons_succ]
                refine anyX_take 10 (by kernel_rfl) (by kernel_rfl) (by kernel_rfl) (by kernel_rfl) (by kernel_rfl) hS4 ?_
                intro oi ho; simp only [List.getElem?_toArray, List.getElem?_cons_succ, List.getElem?_cons_zero, Option.some.injEq] at ho; subst ho
                refine ⟨?_, fun _ _ _ h => h, Or.inl ⟨by rfl, ?_⟩, ?_⟩; rotate_left 1
                · (intro wS hSw; (try dsimp only at hSw); go_simp; try with_reducible rfl)
                simp only [Act.put, List.setIfInBounds_toArray, List.set_cons_zero, List.set_cons_succ]
                refine anyX_take 12 (by kernel_rfl) (by kernel_rfl) (by kernel_rfl) (by kernel_rfl) (by kernel_rfl) hS4 ?_
                intro oi ho; simp only [List.getElem?_toArray, List.getElem?_cons_succ, List.getElem?_cons_zero, Option.some.injEq] at ho; subst ho
                refine ⟨?_, fun _ _ _ h => h, Or.inl ⟨by rfl, ?_⟩, ?_⟩; rotate_left 1
                · (intro wS hSw; (try dsimp only at hSw); go_simp; try with_reducible rfl)
                simp only [Act.put, List.setIfInBounds_toArray, List.set_cons_zero, List.set_cons_succ]
                refine anyX_take 13 (by kernel_rfl) (by kernel_rfl) (by kernel_rfl) (by kernel_rfl) (by kernel_rfl) hS4 ?_
                intro oi ho; simp only [List.getElem?_toArray, List.getElem?_cons_succ, List.getElem?_cons_zero, Option.some.injEq] at ho; subst ho
                refine ⟨?_, fun _ _ _ h => h, Or.inl ⟨by rfl, ?_⟩, ?_⟩; rotate_left 1
                · (intro wS hSw; (try dsimp only at hSw); go_simp; try with_reducible rfl)
                simp only [Act.put, List.setIfInBounds_toArray, List.set_cons_zero, List.set_cons_succ]
                refine anyX_done (by kernel_rfl) ?_
                (try simp only [Act.put, List.setIfInBounds_toArray, List.set_cons_zero, List.set_cons_succ])
                simp only [Exit.then]
                have HVV := Lib.hid (And.intro (New.cell nd4 v0) (New.cell nd4 v1))
                have NN := Lib.hid ((N3.out.trans HN.out).trans nd4)
                have hh6 := hall3 w4 (he.new NN.out)
                clear hS4 hspl v0 v1 q0 q1 q2 q3 hvb hbw add1 add2 add3 nd nd4 n4
                go_wp2_with fail
                refine hh6.mono ?_
                rintro e w6 ⟨ao6, co6, rfl, n6, hsl6⟩
                clear hsl6 hh6
                have m6 : New w6 (w6.alloc (.cells #[I c3, I (k3 : Int)] 27)) := (New.refl _).alloc _
                obtain ⟨g0, g1, -, -, gl⟩ := sk_get (heap_alloc_new w6 (.cells #[I c3, I (k3 : Int)] 27))
                have u0 := New.cell (n6.trans m6) HVV.out.1
                have u1 := New.cell (n6.trans m6) HVV.out.2
                have hub := World.block_lt_of_cell? _ _ u0
                have hub9 : w1.heap.size + 1 < w6.heap.size := Nat.lt_of_lt_of_le (World.block_lt_of_cell? _ _ HVV.out.1) n6.size
                have N6 := Lib.hid ((NN.out.trans n6).trans m6)
                have hzz : X3.size ≤ 9223372036854775807 := by omega
                clear n6 m6 HVV
                by_cases hc3 : c3 = 0
                · skip
                  obtain ⟨hk3, hpz⟩ := hww.2 hc3
                  subst hc3 hk3
                  have hp7 := skparse_f _ X3 (he.new N6.out) hzz 50 uat (by rw [hpz]; rfl)
                  clear hww hpz hzz
                  go_wp2_with fail
                  refine (hp7).mono ?_
                  rintro e w7 ⟨w7nm, w7ia, w7n, w7ic, rfl, kw7⟩
                  have mw7 : New w7 ((w7.alloc (.cells #[.string w7nm, .slice w7ia w7n w7ic] 24)).alloc (.cells #[I 50, I (uat : Int)] 27)) := ((New.refl _).alloc _).alloc _
                  have hFw7 : ((w7.alloc (.cells #[.string w7nm, .slice w7ia w7n w7ic] 24)).alloc (.cells #[I 50, I (uat : Int)] 27)).heap[w7.heap.size + 1]? = some (.cells #[I 50, I (uat : Int)] 27 (0, 0)) := by
                    have := heap_alloc_new (w7.alloc (.cells #[.string w7nm, .slice w7ia w7n w7ic] 24)) (.cells #[I 50, I (uat : Int)] 27)
                    simpa using this
                  obtain ⟨w7f0, w7f1, -, -, w7fl⟩ := sk_get hFw7
                  have N7 := Lib.hid (N6.out.trans (kw7.trans mw7))
                  have Dw7 := Lib.hid (kw7.trans mw7)
                  clear hFw7 kw7 mw7
                  have g0' := New.cell Dw7.out g0
                  have g1' := New.cell Dw7.out g1
                  have u0' := New.cell Dw7.out u0
                  have u1' := New.cell Dw7.out u1
                  have hb1 := World.block_lt_of_cell? _ _ g0'
                  have hb2 := World.block_lt_of_cell? _ _ u0'
                  have haw := awake_sk _ (he.new N7.out)
                  clear hp7 g0 g1 u0 u1 hub gl Dw7
                  go_wp2_with fail
                  refine haw.mono ?_
                  rintro e w8 ⟨rfl, n8⟩
                  have G0 := New.cell n8 g0'
                  have G1 := New.cell n8 g1'
                  have U0 := New.cell n8 u0'
                  have U1 := New.cell n8 u1'
                  have F0 := New.cell n8 w7f0
                  have F1 := New.cell n8 w7f1
                  have hB1 := World.block_lt_of_cell? _ _ G0
                  have hB2 := World.block_lt_of_cell? _ _ U0
                  have hB3 := World.block_lt_of_cell? _ _ F0
                  clear haw g0' g1' u0' u1' w7f0 w7f1 w7fl
                  go_wp2_with fail
                  (try go_ret)
                  exact ⟨rfl, N7.out.trans n8⟩
                · skip
                  have hpz := hww.1 hc3
                  have e3 : (c3 == 0) = false := by simpa using hc3
                  have e4 : (c3 != 0) = true := by simpa using hc3
                  clear hc3
                  have hp7 := skparse_f _ X3 (he.new N6.out) hzz c3 k3 (by rw [hpz]; rfl)
                  clear hww hpz hzz
                  go_wp2_with fail
                  refine (hp7).mono ?_
                  rintro e w7 ⟨w7nm, w7ia, w7n, w7ic, rfl, kw7⟩
                  have mw7 : New w7 ((w7.alloc (.cells #[.string w7nm, .slice w7ia w7n w7ic] 24)).alloc (.cells #[I c3, I (k3 : Int)] 27)) := ((New.refl _).alloc _).alloc _
                  have hFw7 : ((w7.alloc (.cells #[.string w7nm, .slice w7ia w7n w7ic] 24)).alloc (.cells #[I c3, I (k3 : Int)] 27)).heap[w7.heap.size + 1]? = some (.cells #[I c3, I (k3 : Int)] 27 (0, 0)) := by
                    have := heap_alloc_new (w7.alloc (.cells #[.string w7nm, .slice w7ia w7n w7ic] 24)) (.cells #[I c3, I (k3 : Int)] 27)
                    simpa using this
                  obtain ⟨w7f0, w7f1, -, -, w7fl⟩ := sk_get hFw7
                  have N7 := Lib.hid (N6.out.trans (kw7.trans mw7))
                  have Dw7 := Lib.hid (kw7.trans mw7)
                  clear hFw7 kw7 mw7
                  have g0' := New.cell Dw7.out g0
                  have g1' := New.cell Dw7.out g1
                  have u0' := New.cell Dw7.out u0
                  have u1' := New.cell Dw7.out u1
                  have hb1 := World.block_lt_of_cell? _ _ g0'
                  have hb2 := World.block_lt_of_cell? _ _ u0'
                  have haw := awake_sk _ (he.new N7.out)
                  clear hp7 g0 g1 u0 u1 hub gl Dw7
                  go_wp2_with fail
                  refine haw.mono ?_
                  rintro e w8 ⟨rfl, n8⟩
                  have G0 := New.cell n8 g0'
                  have G1 := New.cell n8 g1'
                  have U0 := New.cell n8 u0'
                  have U1 := New.cell n8 u1'
                  have F0 := New.cell n8 w7f0
                  have F1 := New.cell n8 w7f1
                  have hB1 := World.block_lt_of_cell? _ _ G0
                  have hB2 := World.block_lt_of_cell? _ _ U0
                  have hB3 := World.block_lt_of_cell? _ _ F0
                  clear haw g0' g1' u0' u1' w7f0 w7f1 w7fl
                  go_wp2_with fail
                  (try go_ret)
                  exact ⟨rfl, N7.out.trans n8⟩
          · have e1 : ((uat : Int) == (at_ : Int)) = false := by simpa using fun h : (uat : Int) = (at_ : Int) => hat (by omega)
            have HNX : Hid (∀ u i', i' < q + 1 → l[i']? = some u → u.at_ = at_ → u.sort = 0) := Lib.hid (fun u i' h1 h2 h3 => by
              rcases Nat.lt_or_ge i' q with h | h
              · exact HQ.out u i' h h2 h3
              · obtain rfl : i' = q := by omega
                rw [HGU.out] at h2; cases h2; exact absurd h3 hat)
            clear hat
            rw [HAB.out]
            go_wp2_with fail
            go_quiet (fail)
            go_wp2_with fail
            go_roundw
            case rel => exact ⟨q + 1, by omega, by go_num, by first | exact HN | exact Lib.hid (HN.out.trans ((New.refl _).drewN _)), HNX⟩
            case measure => simp [intOf]; omega
        · have hqd : decide (q < N) = false := decide_eq_false hq1
          have hq9 : ¬ (q : Int) < (N : Int) := by omega
          have hjl : j < l.length := (List.getElem?_eq_some_iff.1 HTJ.out).1
          have hat : at_ = a0.size := by
            have h1 := HEN.out (HQ.out _ j (by have := HLN.out; omega) HTJ.out rfl)
            rw [toList_len] at h1; exact h1
          have e9 : ((at_ : Int) == (a0.size : Int)) = true := by rw [hat]; simp
          have haw := awake_sk wr (he.new (N3.out.trans HN.out))
          have HV2 := Lib.hid (And.intro v0 v1)
          clear hat v0 v1 hvb hjl
          go_wp2_with fail
          refine haw.mono ?_
          rintro e w6 ⟨rfl, n6⟩
          have v0 := New.cell n6 HV2.out.1
          have v1 := New.cell n6 HV2.out.2
          have hvb := World.block_lt_of_cell? _ _ v0
          go_wp2_with fail
          (try go_ret)
          exact ⟨rfl, (N3.out.trans HN.out).trans n6⟩
  · have hc1 : (c != 50) = true := by simpa using hc
    have hc2 : (c == 50) = false := by simpa using hc
    clear hf hc
    go_enter Tryd.func9, Tryd.ntmps9
    go_wp2_with fail
    refine (hp1).mono ?_
    rintro e w1 ⟨w1nm, w1ia, w1n, w1ic, rfl, kw1⟩
    have mw1 : New w1 ((w1.alloc (.cells #[.string w1nm, .slice w1ia w1n w1ic] 24)).alloc (.cells #[I c, I (k : Int)] 27)) := ((New.refl _).alloc _).alloc _
    have hFw1 : ((w1.alloc (.cells #[.string w1nm, .slice w1ia w1n w1ic] 24)).alloc (.cells #[I c, I (k : Int)] 27)).heap[w1.heap.size + 1]? = some (.cells #[I c, I (k : Int)] 27 (0, 0)) := by
      have := heap_alloc_new (w1.alloc (.cells #[.string w1nm, .slice w1ia w1n w1ic] 24)) (.cells #[I c, I (k : Int)] 27)
      simpa using this
    obtain ⟨w1f0, w1f1, -, -, w1fl⟩ := sk_get hFw1
    have N1 := Lib.hid ((kw1.trans mw1))
    have Dw1 := Lib.hid (kw1.trans mw1)
    clear hFw1 kw1 mw1
    have haw := awake_sk _ (he.new N1.out)
    clear hp1
    go_wp2_with fail
    refine haw.mono ?_
    rintro e w2 ⟨rfl, n2⟩
    go_wp2_with fail
    (try go_ret)
    exact ⟨rfl, N1.out.trans n2⟩

set_option maxRecDepth 100000 in
theorem contract (H : Type) (enc : TypeId × Value → H) (W : World) (base : Nat) (args : Array Value) (ds gs : List (DataW H)) (before : List MemPlace)
    (hval0 : ∀ (j : Nat) t v, Tryd.f9.params[j]? = some t → args[j]? = some v → Value.okWide Tryd.prog W .any base t v)
    (hW : DataW.Whole enc Tryd.prog Tryd.f9.params.toList Rows.sketchAheadSpec.vars false W args.toList ds gs before)
    (hsz0 : (DataW.weightsEach Tryd.prog (Tryd.f9.params.toList ++ Rows.sketchAheadSpec.plain.varTypes Tryd.prog) (ds ++ gs)).all (· ≤ reachBytes) = true) (hL : laidMetH Tryd.prog Rows.sketchAheadRow.laid W) :
    Calls Tryd.prog 9 args W fun e W' => ∃ v, e = .returned v ∧ Rows.sketchAheadSpec.post enc Tryd.prog Tryd.f9 false true false false W args v W' := by
  have hval := hval0
  have hsz := hsz0
  clear hsz0
  have hW' := hW
  have he : Env W := env_of (by exact hL)
  obtain ⟨p, q, hA0, hV, rfl, hfz, hnd⟩ := hW
  have hA : DataW.TrodAll enc Tryd.prog W 0 (fun _ => true) true Tryd.f9.params.toList args.toList ds p := hA0
  rw [Tryd.params9] at hA hval hsz
  obtain ⟨v0, vs0, d0, ds0, p0, q0, hargs, rfl, rfl, h0, r0'⟩ := trodAll_cons hA
  obtain ⟨v1, vs1, d1, ds1, p1, q1, rfl, rfl, rfl, h1, r1'⟩ := trodAll_cons r0'
  obtain ⟨rfl, rfl, rfl⟩ := trodAll_nil r1'
  obtain rfl : args = #[v0, v1] := by cases args; simp_all
  obtain ⟨rfl, rfl⟩ := trodVars_none hV
  have k0 := h0
  have lt0 : ∀ x ∈ p0, x.block < W.heap.size := by obtain ⟨m, hm⟩ := k0; exact DataW.trod_lt m _ _ _ hm
  have k1 := h1
  have lt1 : ∀ x ∈ p1, x.block < W.heap.size := by obtain ⟨m, hm⟩ := k1; exact DataW.trod_lt m _ _ _ hm
  obtain ⟨a0, rfl, e0, _, w0⟩ := open_string Tryd.underlying9 (hval 0 9 v0 rfl rfl) h0
  have s0 : a0.size ≤ 140737488351232 := by
    have hh := sized_string hsz (j := 0) (t := 9) (bytes := a0.data.toList) rfl (by rw [e0]; rfl)
    have hr : reachBytes = 140737488351232 := rfl
    rw [hr, Array.length_toList] at hh
    exact hh
  obtain ⟨a1, rfl, e1, _, w1⟩ := open_string Tryd.underlying9 (hval 1 9 v1 rfl rfl) h1
  have s1 : a1.size ≤ 140737488351232 := by
    have hh := sized_string hsz (j := 1) (t := 9) (bytes := a1.data.toList) rfl (by rw [e1]; rfl)
    have hr : reachBytes = 140737488351232 := rfl
    rw [hr, Array.length_toList] at hh
    exact hh
  clear hA0 hval0
  refine (walk W he a0 s0 a1 s1).mono fun e W' ⟨he, hnew⟩ => ?_
  have bel := hnew.below
  subst he
  exact ⟨_, rfl, _, _, _, [], _, [], hW', trodAll_mk1 (shut_bool Tryd.underlying4 _), (trodAll_cons_mk (Below.trod laidOut (by kernel_rfl) (of_decide_eq_true (by kernel_rfl)) k0 bel lt0) (trodAll_cons_mk (Below.trod laidOut (by kernel_rfl) (of_decide_eq_true (by kernel_rfl)) k1 bel lt1) trodAll_mk0)), rfl, bel.frame _, fun h => by cases h⟩

theorem reads (os : Os) {H : Type} (enc : TypeId × Value → H) : ∃ places, DataW.whole enc Tryd.prog ((laidWorld os).forCall (fun _ _ => 0) ⟨#[], #[.string ByteArray.empty, .string ByteArray.empty], []⟩).memory Tryd.f9.params.toList Rows.sketchAheadSpec.vars false #[.string ByteArray.empty, .string ByteArray.empty].toList 8 = some ([.lit (.string []), .lit (.string [])], [], places) :=
  ⟨[], by kernel_rfl⟩

set_option maxRecDepth 100000 in
theorem lifted (os : Os) (started : os.Started) (H : Type) (enc : TypeId × Value → H) (F : Stop.Interp) :
    ReturnsInHanded {} Tryd.checked os 9 .any ((OpenSpec.ofChange Rows.sketchAheadSpec).preRow enc Tryd.prog Tryd.f9 Rows.sketchAheadRow.domain false Rows.sketchAheadRow.laid) (((OpenSpec.ofChange Rows.sketchAheadSpec).at F).post enc Tryd.prog Tryd.f9 false true false false) := by
  obtain ⟨places, hx⟩ := reads os enc
  refine returnsInHanded_of_row (C := Tryd.checked) (s := OpenSpec.ofChange Rows.sketchAheadSpec) own started (by kernel_rfl) Tryd.func9
    (witness_row_at (enc := enc) (C := Tryd.checked) false (laidWorld os) #[.string ByteArray.empty, .string ByteArray.empty] rfl (by kernel_rfl) (by kernel_rfl) (by kernel_rfl)
      (OpenSpec.preRow_of_cond 8 hx (by kernel_rfl) (fun k hk => by cases hk) (by kernel_rfl) (laid_met os _))) ?_
  intro W base args ds gs before hval hW _ _ hsz hL _ _
  exact contract H enc W base args ds gs before hval hW hsz hL

theorem said : Rows.SketchAheadSaid :=
  OpenClaim.holds_of_cond 9 Tryd.f9 rfl rfl rfl rfl rfl rfl rfl ⟨rfl, rfl, rfl, rfl, rfl⟩ rfl rfl rfl rfl rfl (by kernel_rfl) Tryd.func9 (by kernel_rfl)
    (of_decide_eq_true (by kernel_rfl)) (by unfold Func.isWrapper; first | (rw [if_pos (by decide +kernel)]; kernel_rfl) | (rw [if_neg (by decide +kernel)]; exact ⟨rfl, rfl⟩))
    (fun os started H enc _ F => by rw [OpenClaim.pre_eq_preRow]; exact lifted os started H enc F)

theorem plain (f : FuncId) (fn : Func) (hf : Tryd.pinned.checked.prog.funcNamed "pianola/pianolalaw05.SketchAhead" = some f) (hfn : Tryd.pinned.checked.prog.funcs[f]? = some fn) :
    true = Tryd.pinned.checked.prog.looks [] ∧ ∀ (j : Nat) t, fn.params[j]? = some t → Tryd.pinned.checked.prog.wantsStandIn t = false := by
  obtain rfl : f = 9 := Option.some.inj ((show Tryd.prog.funcNamed "pianola/pianolalaw05.SketchAhead" = some 9 by kernel_rfl).symm.trans hf) |>.symm
  obtain rfl : fn = Tryd.f9 := (Option.some.inj (Tryd.func9.symm.trans hfn)).symm
  refine ⟨by kernel_rfl, fun j t ht => ?_⟩
  rw [Tryd.params9] at ht
  have hm := Array.mem_of_getElem? ht
  have : t = 9 := by
    simpa [or_assoc] using hm
  rcases this with rfl
  · exact (show Tryd.prog.wantsStandIn 9 = false by kernel_rfl)

/-- THE CARD. -/
theorem proved : Rows.SketchAheadCardSaid :=
  Claim7.holds_tied_plain_at .later [] _ _ _ _ said (fun _ h => by cases h) (by kernel_rfl) (fun _ h => by cases h) sketchAhead_row_tie rfl ⟨rfl, rfl⟩ (by kernel_rfl) rfl plain (by kernel_rfl)
end Go.Proofs.YtohalcbhckahmaaDoor.sketchAhead
