/-
  SkRa, SkRb, SkRc, SkRd in one.
-/
import Derived.Test.YtohalcbhckahmaaDoorSkW
import Derived.Deep.DeepCutAuto
import Derived.Deep.CutBlock
namespace Go.Proofs.YtohalcbhckahmaaDoor
open Go Go.RowKit Go.Joins
set_option linter.all false

theorem step_appS {w : World} {ops : Array Oper} {o : Oper} {a : Act} {K : Act → World → Prop} {Q : Exit → Act → World → Prop} {E : Prop} {dec : Decidable (Region.wanted o (yielded ops a.tmps) = true)} (hgd : o.guard = none) (sl x : Operand)
    (ho : o.op = .call { callee := .builtin .append, args := #[sl, x], argTypes := #[47, 9] })
    (base : Nat) (ab : Option Addr) (cb : Nat) (Bs : List UInt8) (n : Nat) (hs : a.eval sl = .slice ab n cb) (hown : w.ownsRow base 5 1 (.slice ab n cb) n (bCells Bs)) (s : ByteArray) (hx : a.eval x = .string s)
    (hb : n + s.size ≤ 140737488355000) (hbase : base ≤ w.heap.size)
    (h : ∀ a' c' w', w'.ownsRow base 5 1 (.slice a' (n + s.size) c') (n + s.size) (bCells (Bs ++ s.data.toList)) → Keeps (blk ab) w w' → K (a.put o.dst (.slice a' (n + s.size) c')) w') :
    @ite Prop (Region.wanted o (yielded ops a.tmps) = true) dec (Oper.wp Tryd.prog o a w K Q) E := by
  obtain ⟨i0, hi, hz0, hz1, hz2⟩ := info_parts infoByte
  have hw : Region.wanted o (yielded ops a.tmps) = true := by simp [Region.wanted, hgd]
  rw [if_pos hw]
  obtain ⟨v', w', hr, h2, h3, h4⟩ := Lib.run_append_own_string (P := Tryd.prog) w base 47 9 o.type 5 i0 Tryd.underlying47 Tryd.underlying9 hi hz0 hz1 hz2 (.slice ab n cb) n (bCells Bs) hown s (by unfold maxLen; omega) (by omega) hbase
  unfold Oper.wp execOp
  simp only [ho, resolve, invoke, builtin, Sem.run_bind, Sem.run_pure, Result.andThen_ok, List.map_toArray, List.map_cons, List.map_nil, hs, hx, hr]
  obtain ⟨a', c', rfl⟩ := lx_slice h2
  refine h a' c' w' ?_ (Keeps.grown h3 (fun k h => blk_of_own h.symm))
  unfold bCells
  rw [List.map_append]
  exact h2
set_option maxRecDepth 100000 in
set_option maxHeartbeats 4000000 in
theorem rnone_any (w : World) (n : ByteArray) (p a : Int) : Calls Tryd.prog 73 #[.agg #[.string n, I p, I a]] w fun e w' => e = .returned (.bool (bareB n p)) ∧ New w w' := by
  have nb : New w (w.alloc (.cells #[.string n, I p, I a] 40)) := (New.refl w).alloc _
  obtain ⟨c0, c1, c2, -, hR⟩ := pl_get (pl_blk w (.string n) (I p) (I a))
  unfold bareB emptyB
  cases h1 : n.toList.isEmpty with
  | false =>
    go_enter Tryd.func73, Tryd.ntmps73
    go_wp2_with fail
    go_ret
    exact ⟨rfl, nb⟩
  | true =>
    cases h2 : (p == 0) with
    | false =>
      go_enter Tryd.func73, Tryd.ntmps73
      go_wp2_with fail
      go_ret
      exact ⟨rfl, nb⟩
    | true =>
      go_enter Tryd.func73, Tryd.ntmps73
      go_wp2_with fail
      go_ret
      exact ⟨rfl, nb⟩
theorem itoa_len21 (n : Int) (h : BndZ n) : (itoaS n).size ≤ 21 := by
  rw [← toList_len]
  exact (right_len1 (t := nT n) (by unfold LTok.right nT; simp) h).1
set_option maxRecDepth 100000 in
set_option maxHeartbeats 4000000 in
theorem rat_any (w : World) (n : ByteArray) (p a : Int) (hn : n.size ≤ 140737488352232) (hp : BndZ p) : Calls Tryd.prog 74 #[.agg #[.string n, I p, I a]] w fun e w' => e = .returned (.string ⟨(placeW n p).toArray⟩) ∧ New w w' := by
  have nb : New w (w.alloc (.cells #[.string n, I p, I a] 40)) := (New.refl w).alloc _
  obtain ⟨c0, c1, c2, -, hR⟩ := pl_get (pl_blk w (.string n) (I p) (I a))
  have hdg := fun W => digits_any W p hp.1 hp.2
  have hil := itoa_len21 p hp
  obtain ⟨D, hD⟩ : ∃ D, itoaS p = D := ⟨_, rfl⟩
  rw [hD] at hdg hil
  obtain ⟨X1, hX1⟩ : ∃ X, n ++ (⟨#[46]⟩ : ByteArray) = X := ⟨_, rfl⟩
  obtain ⟨X2, hX2⟩ : ∃ X, X1 ++ D = X := ⟨_, rfl⟩
  have hX : (⟨(placeW n p).toArray⟩ : ByteArray) = X2 := by
    apply ByteArray.ext
    apply Array.toList_inj.1
    rw [← hX2, ← hX1, ← hD]
    unfold placeW itoaS
    simp [ByteArray.data_append]
  rw [hX]
  have z1 : X1.size = n.size + 1 := by rw [← hX1, ByteArray.size_append]; rfl
  have add1 : ∀ w : World, (Op.stringOp .add n (⟨#[46]⟩ : ByteArray)).run Tryd.prog w = .ok (.string X1) w := fun w => by rw [← hX1]; exact run_string_add_sum w _ _ (by show n.size + 1 ≤ _; omega)
  have add2 : ∀ w : World, (Op.stringOp .add X1 D).run Tryd.prog w = .ok (.string X2) w := fun w => by rw [← hX2]; exact run_string_add_sum w _ _ (by omega)
  clear hD hX1 hX2 hX
  go_enter Tryd.func74, Tryd.ntmps74
  go_wp2_with fail
  generalize w.alloc (.cells #[.string n, I p, I a] 40) = W at *
  have hS0 : (fun w' : World => w'.cell? ⟨w.heap.size, 0, none⟩ = some (.string n) ∧ w'.cell? ⟨w.heap.size, 1, none⟩ = some (I p)) W.drew := ⟨New.cell (New.refl W).drew c0, New.cell (New.refl W).drew c1⟩
  refine wp_region_X (fun w' : World => w'.cell? ⟨w.heap.size, 0, none⟩ = some (.string n) ∧ w'.cell? ⟨w.heap.size, 1, none⟩ = some (I p)) [] (by kernel_rfl) hS0 ?_
  refine anyX_take 0 (by kernel_rfl) (by kernel_rfl) (by kernel_rfl) (by kernel_rfl) (by kernel_rfl) hS0 ?_
  intro oi ho; simp only [List.getElem?_toArray, List.getElem?_cons_succ, List.getElem?_cons_zero, Option.some.injEq] at ho; subst ho
  refine ⟨?_, fun _ _ _ h => h, Or.inl ⟨by rfl, ?_⟩, ?_⟩; rotate_left 1
  · (intro wS hSw; (try dsimp only at hSw); go_simp; try with_reducible rfl)
  simp only [Act.put, List.setIfInBounds_toArray, List.set_cons_zero, List.set_cons_succ]
  refine anyX_take 1 (by kernel_rfl) (by kernel_rfl) (by kernel_rfl) (by kernel_rfl) (by kernel_rfl) hS0 ?_
  intro oi ho; simp only [List.getElem?_toArray, List.getElem?_cons_succ, List.getElem?_cons_zero, Option.some.injEq] at ho; subst ho
  refine ⟨?_, fun _ _ _ h => h, Or.inl ⟨by rfl, ?_⟩, ?_⟩; rotate_left 1
  · (intro wS hSw; (try dsimp only at hSw); go_simp; try with_reducible rfl)
  simp only [Act.put, List.setIfInBounds_toArray, List.set_cons_zero, List.set_cons_succ]
  refine anyX_take 2 (by kernel_rfl) (by kernel_rfl) (by kernel_rfl) (by kernel_rfl) (by kernel_rfl) hS0 ?_
  intro oi ho; simp only [List.getElem?_toArray, List.getElem?_cons_succ, List.getElem?_cons_zero, Option.some.injEq] at ho; subst ho
  refine ⟨?_, fun _ _ _ h => h, Or.inl ⟨by rfl, ?_⟩, ?_⟩; rotate_left 1
  · (intro wS hSw; (try dsimp only at hSw); go_simp; try with_reducible rfl)
  simp only [Act.put, List.setIfInBounds_toArray, List.set_cons_zero, List.set_cons_succ]
  refine anyX_take 3 (by kernel_rfl) (by kernel_rfl) (by kernel_rfl) (by kernel_rfl) (by kernel_rfl) hS0 ?_
  intro oi ho; simp only [List.getElem?_toArray, List.getElem?_cons_succ, List.getElem?_cons_zero, Option.some.injEq] at ho; subst ho
  refine ⟨?_, fun _ _ _ h => h, Or.inl ⟨by rfl, ?_⟩, ?_⟩; rotate_left 1
  · (intro wS hSw; (try dsimp only at hSw); go_simp; try with_reducible rfl)
  simp only [Act.put, List.setIfInBounds_toArray, List.set_cons_zero, List.set_cons_succ]
  refine anyX_take 4 (by kernel_rfl) (by kernel_rfl) (by kernel_rfl) (by kernel_rfl) (by kernel_rfl) hS0 ?_
  intro oi ho; simp only [List.getElem?_toArray, List.getElem?_cons_succ, List.getElem?_cons_zero, Option.some.injEq] at ho; subst ho
  refine ⟨?_, fun _ _ _ h => h, Or.inl ⟨by rfl, ?_⟩, ?_⟩; rotate_left 1
  · (intro wS hSw; (try dsimp only at hSw); go_simp; try with_reducible rfl)
  simp only [Act.put, List.setIfInBounds_toArray, List.set_cons_zero, List.set_cons_succ]
  refine anyX_one 5 (by kernel_rfl) ?_
  intro oi ho; simp only [List.getElem?_toArray, List.getElem?_cons_succ, List.getElem?_cons_zero, Option.some.injEq] at ho; subst ho; intro K hK
  (try simp only [Act.put, List.setIfInBounds_toArray, List.set_cons_zero, List.set_cons_succ])
  go_simp
  refine (hdg _).mono ?_
  rintro e w4 ⟨rfl, n4⟩
  have hS4 : (fun w' : World => w'.cell? ⟨w.heap.size, 0, none⟩ = some (.string n) ∧ w'.cell? ⟨w.heap.size, 1, none⟩ = some (I p)) w4 := ⟨New.cell ((New.refl W).drew.trans n4) c0, New.cell ((New.refl W).drew.trans n4) c1⟩
  refine hK _ _ (fun _ => hS4) ?_
  clear hK K
  refine anyX_take 6 (by kernel_rfl) (by kernel_rfl) (by kernel_rfl) (by kernel_rfl) (by kernel_rfl) hS4 ?_
  intro oi ho; simp only [List.getElem?_toArray, List.getElem?_cons_succ, List.getElem?_cons_zero, Option.some.injEq] at ho; subst ho
  refine ⟨?_, fun _ _ _ h => h, Or.inl ⟨by rfl, ?_⟩, ?_⟩; rotate_left 1
  · (intro wS hSw; (try dsimp only at hSw); go_simp; try with_reducible rfl)
  simp only [Act.put, List.setIfInBounds_toArray, List.set_cons_zero, List.set_cons_succ]
  refine anyX_take 7 (by kernel_rfl) (by kernel_rfl) (by kernel_rfl) (by kernel_rfl) (by kernel_rfl) hS4 ?_
  intro oi ho; simp only [List.getElem?_toArray, List.getElem?_cons_succ, List.getElem?_cons_zero, Option.some.injEq] at ho; subst ho
  refine ⟨?_, fun _ _ _ h => h, Or.inl ⟨by rfl, ?_⟩, ?_⟩; rotate_left 1
  · (intro wS hSw; (try dsimp only at hSw); go_simp; try with_reducible rfl)
  simp only [Act.put, List.setIfInBounds_toArray, List.set_cons_zero, List.set_cons_succ]
  refine anyX_done (by kernel_rfl) ?_
  (try simp only [Act.put, List.setIfInBounds_toArray, List.set_cons_zero, List.set_cons_succ])
  simp only [Exit.then]
  go_wp2_with fail
  (try go_ret)
  exact ⟨rfl, nb.trans ((New.refl W).drew.trans n4)⟩
set_option maxRecDepth 100000 in
set_option maxHeartbeats 8000000 in
theorem rright_any (w : World) (x : SIt) (hz : ISz x) (hl : x.xs.length ≤ 9223372036854775807) : Calls Tryd.prog 46 #[.agg (itA x)] w fun e w' => e = .returned (.bool (rightB x)) ∧ New w w' := by
  obtain ⟨kind, name, tag, sa, sc, xs, fn, fp, fa, tn, tp, ta, at_⟩ := x
  have nb : New w (w.alloc (.cells #[.int .u8 kind, .string name, .string tag, .slice sa xs.length sc, .string fn, I fp, I fa, .string tn, I tp, I ta, I at_] ItT)) := (New.refl w).alloc _
  obtain ⟨⟨c0, c1, c2, c3, c4, c5, c6, c7, c8, c9, c10⟩, -, hX⟩ := it_get (heap_alloc_new w (.cells #[.int .u8 kind, .string name, .string tag, .slice sa xs.length sc, .string fn, I fp, I fa, .string tn, I tp, I ta, I at_] ItT))
  have hnm := fun W => rname_any W name hz.n
  have htg := fun W => rname_any W tag hz.t
  have hfn := fun W => rname_any W fn hz.f
  have htn := fun W => rname_any W tn hz.o
  have hbf := fun W => rnone_any W fn fp fa
  have hbt := fun W => rnone_any W tn tp ta
  unfold rightB
  simp only [itA]
  clear hz
  generalize nameB name = bn at hnm ⊢
  generalize nameB tag = bt at htg ⊢
  generalize nameB fn = bf at hfn ⊢
  generalize nameB tn = bo at htn ⊢
  generalize bareB fn fp = rf at hbf ⊢
  generalize bareB tn tp = rt at hbt ⊢
  obtain ⟨n, hn⟩ : ∃ n, xs.length = n := ⟨_, rfl⟩
  simp only [hn] at c0 c1 c2 c3 c4 c5 c6 c7 c8 c9 c10 nb hX hl ⊢
  clear hn
  obtain ⟨em, hem⟩ : ∃ b, emptyB name = b := ⟨_, rfl⟩
  obtain ⟨et, het⟩ : ∃ b, emptyB tag = b := ⟨_, rfl⟩
  rw [hem, het]
  unfold emptyB at hem het
  obtain ⟨ez, hez⟩ : ∃ b, ((n : Int) == 0) = b := ⟨_, rfl⟩
  have hez2 : (n == 0) = ez := by rw [← hez]; cases n <;> simp <;> omega
  rw [hez2]
  have HNB := Lib.hid nb
  have hcs := fun W (k : New (w.alloc (.cells #[.int .u8 kind, .string name, .string tag, .slice sa n sc, .string fn, I fp, I fa, .string tn, I tp, I ta, I at_] ItT)) W) => And.intro (New.cell k c0) (And.intro (New.cell k c1) (And.intro (New.cell k c2) (And.intro (New.cell k c3) (And.intro (New.cell k c4) (And.intro (New.cell k c5) (And.intro (New.cell k c6) (And.intro (New.cell k c7) (And.intro (New.cell k c8) (New.cell k c9)))))))))
  have HCS := Lib.hid hcs
  obtain ⟨PO, hPO⟩ : ∃ PO : Ending → World → Prop, PO = fun e w' => e = .returned (.bool (if kind = 1 then bn && bt && rf && rt else if kind = 2 then em && et && bf && bo else if kind = 3 then bn && et && ez && rf && bo else if kind = 4 then bn && et && ez && bf && rt else false)) ∧ New w w' := ⟨_, rfl⟩
  rw [← hPO]
  have HPO := Lib.hid hPO
  clear hPO nb hcs hez2
  go_enter Tryd.func46, Tryd.ntmps46
  go_upto_region 1 with (fail)
  have HNX : Hid (New (w.alloc (.cells #[.int .u8 kind, .string name, .string tag, .slice sa n sc, .string fn, I fp, I fa, .string tn, I tp, I ta, I at_] ItT)) (w.alloc (.cells #[.int .u8 kind, .string name, .string tag, .slice sa n sc, .string fn, I fp, I fa, .string tn, I tp, I ta, I at_] ItT))) := Lib.hid (New.refl _)
  by_cases h1 : kind = 1
  · subst h1
    cases bn with
    | false =>
      go_wp2_with fail
      refine (hnm _).mono ?_
      rintro e v1 ⟨rfl, m1⟩
      obtain ⟨a0, a1, a2, a3, a4, a5, a6, a7, a8, a9⟩ := HCS.out _ (HNX.out.trans m1)
      go_wp2_with fail
      (try go_ret)
      rw [HPO.out]
      exact ⟨by simp, HNB.out.trans (HNX.out.trans m1)⟩
    | true =>
      go_wp2_with fail
      refine (hnm _).mono ?_
      rintro e v1 ⟨rfl, m1⟩
      obtain ⟨a0, a1, a2, a3, a4, a5, a6, a7, a8, a9⟩ := HCS.out _ (HNX.out.trans m1)
      cases bt with
      | false =>
        go_wp2_with fail
        refine (htg _).mono ?_
        rintro e v2 ⟨rfl, m2⟩
        obtain ⟨a0, a1, a2, a3, a4, a5, a6, a7, a8, a9⟩ := HCS.out _ ((HNX.out.trans m1).trans m2)
        go_wp2_with fail
        (try go_ret)
        rw [HPO.out]
        exact ⟨by simp, HNB.out.trans ((HNX.out.trans m1).trans m2)⟩
      | true =>
        go_wp2_with fail
        refine (htg _).mono ?_
        rintro e v2 ⟨rfl, m2⟩
        obtain ⟨a0, a1, a2, a3, a4, a5, a6, a7, a8, a9⟩ := HCS.out _ ((HNX.out.trans m1).trans m2)
        cases rf with
        | false =>
          go_wp2_with fail
          refine (hbf _).mono ?_
          rintro e v3 ⟨rfl, m3⟩
          obtain ⟨a0, a1, a2, a3, a4, a5, a6, a7, a8, a9⟩ := HCS.out _ (((HNX.out.trans m1).trans m2).trans m3)
          go_wp2_with fail
          (try go_ret)
          rw [HPO.out]
          exact ⟨by simp, HNB.out.trans (((HNX.out.trans m1).trans m2).trans m3)⟩
        | true =>
          go_wp2_with fail
          refine (hbf _).mono ?_
          rintro e v3 ⟨rfl, m3⟩
          obtain ⟨a0, a1, a2, a3, a4, a5, a6, a7, a8, a9⟩ := HCS.out _ (((HNX.out.trans m1).trans m2).trans m3)
          cases rt with
          | false =>
            go_wp2_with fail
            refine (hbt _).mono ?_
            rintro e v4 ⟨rfl, m4⟩
            obtain ⟨a0, a1, a2, a3, a4, a5, a6, a7, a8, a9⟩ := HCS.out _ ((((HNX.out.trans m1).trans m2).trans m3).trans m4)
            go_wp2_with fail
            (try go_ret)
            rw [HPO.out]
            exact ⟨by simp, HNB.out.trans ((((HNX.out.trans m1).trans m2).trans m3).trans m4)⟩
          | true =>
            go_wp2_with fail
            refine (hbt _).mono ?_
            rintro e v4 ⟨rfl, m4⟩
            obtain ⟨a0, a1, a2, a3, a4, a5, a6, a7, a8, a9⟩ := HCS.out _ ((((HNX.out.trans m1).trans m2).trans m3).trans m4)
            go_wp2_with fail
            (try go_ret)
            rw [HPO.out]
            exact ⟨by simp, HNB.out.trans ((((HNX.out.trans m1).trans m2).trans m3).trans m4)⟩
  · have d1 : (kind == 1) = false := by simpa using h1
    by_cases h2 : kind = 2
    · subst h2
      cases em with
      | false =>
        go_wp2_with fail
        (try go_ret)
        rw [HPO.out]
        exact ⟨by simp, HNB.out.trans HNX.out⟩
      | true =>
        cases et with
        | false =>
          go_wp2_with fail
          (try go_ret)
          rw [HPO.out]
          exact ⟨by simp, HNB.out.trans HNX.out⟩
        | true =>
          cases bf with
          | false =>
            go_wp2_with fail
            refine (hfn _).mono ?_
            rintro e v1 ⟨rfl, m1⟩
            obtain ⟨a0, a1, a2, a3, a4, a5, a6, a7, a8, a9⟩ := HCS.out _ (HNX.out.trans m1)
            go_wp2_with fail
            (try go_ret)
            rw [HPO.out]
            exact ⟨by simp, HNB.out.trans (HNX.out.trans m1)⟩
          | true =>
            go_wp2_with fail
            refine (hfn _).mono ?_
            rintro e v1 ⟨rfl, m1⟩
            obtain ⟨a0, a1, a2, a3, a4, a5, a6, a7, a8, a9⟩ := HCS.out _ (HNX.out.trans m1)
            cases bo with
            | false =>
              go_wp2_with fail
              refine (htn _).mono ?_
              rintro e v2 ⟨rfl, m2⟩
              obtain ⟨a0, a1, a2, a3, a4, a5, a6, a7, a8, a9⟩ := HCS.out _ ((HNX.out.trans m1).trans m2)
              go_wp2_with fail
              (try go_ret)
              rw [HPO.out]
              exact ⟨by simp, HNB.out.trans ((HNX.out.trans m1).trans m2)⟩
            | true =>
              go_wp2_with fail
              refine (htn _).mono ?_
              rintro e v2 ⟨rfl, m2⟩
              obtain ⟨a0, a1, a2, a3, a4, a5, a6, a7, a8, a9⟩ := HCS.out _ ((HNX.out.trans m1).trans m2)
              go_wp2_with fail
              (try go_ret)
              rw [HPO.out]
              exact ⟨by simp, HNB.out.trans ((HNX.out.trans m1).trans m2)⟩
    · have d2 : (kind == 2) = false := by simpa using h2
      by_cases h3 : kind = 3
      · subst h3
        cases bn with
        | false =>
          go_wp2_with fail
          refine (hnm _).mono ?_
          rintro e v1 ⟨rfl, m1⟩
          obtain ⟨a0, a1, a2, a3, a4, a5, a6, a7, a8, a9⟩ := HCS.out _ (HNX.out.trans m1)
          go_wp2_with fail
          (try go_ret)
          rw [HPO.out]
          exact ⟨by simp, HNB.out.trans (HNX.out.trans m1)⟩
        | true =>
          go_wp2_with fail
          refine (hnm _).mono ?_
          rintro e v1 ⟨rfl, m1⟩
          obtain ⟨a0, a1, a2, a3, a4, a5, a6, a7, a8, a9⟩ := HCS.out _ (HNX.out.trans m1)
          cases et with
          | false =>
            go_wp2_with fail
            (try go_ret)
            rw [HPO.out]
            exact ⟨by simp, HNB.out.trans (HNX.out.trans m1)⟩
          | true =>
            cases ez with
            | false =>
              go_wp2_with fail
              (try go_ret)
              rw [HPO.out]
              exact ⟨by simp, HNB.out.trans (HNX.out.trans m1)⟩
            | true =>
              cases rf with
              | false =>
                go_wp2_with fail
                refine (hbf _).mono ?_
                rintro e v2 ⟨rfl, m2⟩
                obtain ⟨a0, a1, a2, a3, a4, a5, a6, a7, a8, a9⟩ := HCS.out _ ((HNX.out.trans m1).trans m2)
                go_wp2_with fail
                (try go_ret)
                rw [HPO.out]
                exact ⟨by simp, HNB.out.trans ((HNX.out.trans m1).trans m2)⟩
              | true =>
                go_wp2_with fail
                refine (hbf _).mono ?_
                rintro e v2 ⟨rfl, m2⟩
                obtain ⟨a0, a1, a2, a3, a4, a5, a6, a7, a8, a9⟩ := HCS.out _ ((HNX.out.trans m1).trans m2)
                cases bo with
                | false =>
                  go_wp2_with fail
                  refine (htn _).mono ?_
                  rintro e v3 ⟨rfl, m3⟩
                  obtain ⟨a0, a1, a2, a3, a4, a5, a6, a7, a8, a9⟩ := HCS.out _ (((HNX.out.trans m1).trans m2).trans m3)
                  go_wp2_with fail
                  (try go_ret)
                  rw [HPO.out]
                  exact ⟨by simp, HNB.out.trans (((HNX.out.trans m1).trans m2).trans m3)⟩
                | true =>
                  go_wp2_with fail
                  refine (htn _).mono ?_
                  rintro e v3 ⟨rfl, m3⟩
                  obtain ⟨a0, a1, a2, a3, a4, a5, a6, a7, a8, a9⟩ := HCS.out _ (((HNX.out.trans m1).trans m2).trans m3)
                  go_wp2_with fail
                  (try go_ret)
                  rw [HPO.out]
                  exact ⟨by simp, HNB.out.trans (((HNX.out.trans m1).trans m2).trans m3)⟩
      · have d3 : (kind == 3) = false := by simpa using h3
        by_cases h4 : kind = 4
        · subst h4
          cases bn with
          | false =>
            go_wp2_with fail
            refine (hnm _).mono ?_
            rintro e v1 ⟨rfl, m1⟩
            obtain ⟨a0, a1, a2, a3, a4, a5, a6, a7, a8, a9⟩ := HCS.out _ (HNX.out.trans m1)
            go_wp2_with fail
            (try go_ret)
            rw [HPO.out]
            exact ⟨by simp, HNB.out.trans (HNX.out.trans m1)⟩
          | true =>
            go_wp2_with fail
            refine (hnm _).mono ?_
            rintro e v1 ⟨rfl, m1⟩
            obtain ⟨a0, a1, a2, a3, a4, a5, a6, a7, a8, a9⟩ := HCS.out _ (HNX.out.trans m1)
            cases et with
            | false =>
              go_wp2_with fail
              (try go_ret)
              rw [HPO.out]
              exact ⟨by simp, HNB.out.trans (HNX.out.trans m1)⟩
            | true =>
              cases ez with
              | false =>
                go_wp2_with fail
                (try go_ret)
                rw [HPO.out]
                exact ⟨by simp, HNB.out.trans (HNX.out.trans m1)⟩
              | true =>
                cases rt with
                | false =>
                  go_wp2_with fail
                  refine (hbt _).mono ?_
                  rintro e v2 ⟨rfl, m2⟩
                  obtain ⟨a0, a1, a2, a3, a4, a5, a6, a7, a8, a9⟩ := HCS.out _ ((HNX.out.trans m1).trans m2)
                  go_wp2_with fail
                  (try go_ret)
                  rw [HPO.out]
                  exact ⟨by simp, HNB.out.trans ((HNX.out.trans m1).trans m2)⟩
                | true =>
                  go_wp2_with fail
                  refine (hbt _).mono ?_
                  rintro e v2 ⟨rfl, m2⟩
                  obtain ⟨a0, a1, a2, a3, a4, a5, a6, a7, a8, a9⟩ := HCS.out _ ((HNX.out.trans m1).trans m2)
                  cases bf with
                  | false =>
                    go_wp2_with fail
                    refine (hfn _).mono ?_
                    rintro e v3 ⟨rfl, m3⟩
                    obtain ⟨a0, a1, a2, a3, a4, a5, a6, a7, a8, a9⟩ := HCS.out _ (((HNX.out.trans m1).trans m2).trans m3)
                    go_wp2_with fail
                    (try go_ret)
                    rw [HPO.out]
                    exact ⟨by simp, HNB.out.trans (((HNX.out.trans m1).trans m2).trans m3)⟩
                  | true =>
                    go_wp2_with fail
                    refine (hfn _).mono ?_
                    rintro e v3 ⟨rfl, m3⟩
                    obtain ⟨a0, a1, a2, a3, a4, a5, a6, a7, a8, a9⟩ := HCS.out _ (((HNX.out.trans m1).trans m2).trans m3)
                    go_wp2_with fail
                    (try go_ret)
                    rw [HPO.out]
                    exact ⟨by simp, HNB.out.trans (((HNX.out.trans m1).trans m2).trans m3)⟩
        · have d4 : (kind == 4) = false := by simpa using h4
          have HH := Lib.hid (And.intro h1 (And.intro h2 (And.intro h3 h4)))
          clear h1 h2 h3 h4
          go_wp2_with fail
          (try go_ret)
          rw [HPO.out]
          obtain ⟨h1, h2, h3, h4⟩ := HH.out
          exact ⟨by simp [h1, h2, h3, h4], HNB.out.trans HNX.out⟩
end Go.Proofs.YtohalcbhckahmaaDoor
namespace Go.Proofs.YtohalcbhckahmaaDoor
open Go Go.RowKit Go.Joins
set_option linter.all false

/-- Bytes of a call's own. -/
abbrev OwnU (w : World) (B : Nat) (a : Option Addr) (n c : Nat) (L : List UInt8) : Prop := w.ownsRow B 5 1 (.slice a n c) n (bCells L)
/-- What line answers: the line, or a text that is too long as the line is. -/
def RLine (w : World) (x : SIt) (e : Ending) (w' : World) : Prop := ∃ (a : Option Addr) (c n : Nat) (L : List UInt8), e = .returned (.slice a n c) ∧ OwnU w' w.heap.size a n c L ∧ L.length = n ∧ (L = lineW x ∨ 1048576 < n ∧ 1048576 < (lineW x).length) ∧ n ≤ 1048900 ∧ New w w'
theorem rline_end {w w' : World} {x : SIt} {a : Option Addr} {c n m : Nat} {k : Nat} {L0 : List UInt8} (h0 : L0 = headW x) (hl : (L0 ++ numsW (x.xs.take k)).length = m) (hb : m ≤ 1048700) (hk : k = x.xs.length ∨ 1048576 < m)
    (hn : m + 2 = n) (ho : OwnU w' w.heap.size a n c (L0 ++ numsW (x.xs.take k) ++ [59, 10])) (hw : New w w') : RLine w x (.returned (.slice a n c)) w' := by
  subst h0
  refine ⟨a, c, n, _, rfl, ho, by rw [List.length_append, hl]; exact hn, ?_, by omega, hw⟩
  rcases hk with rfl | hk
  · left; unfold lineW; rw [List.take_length]
  · right
    refine ⟨by omega, ?_⟩
    obtain ⟨r, hr⟩ := numsW_pre x.xs k
    unfold lineW
    rw [← hr, ← List.append_assoc]
    simp only [List.length_append] at hl ⊢
    omega
theorem keep_box {w w' : World} {B : Nat} {a : Option Addr} {n c : Nat} {L : List UInt8} (ho : OwnU w B a n c L) (hk : Keeps (blk a) w w') {b : Nat} {cs : Array Value} (hb : w.heap[b]? = some (.cells cs 42 (0, 0))) : w'.heap[b]? = some (.cells cs 42 (0, 0)) :=
  hk.heap hb (fun hx => by
    obtain ⟨cur, hc⟩ := tab_tag ho (own_blk hx)
    rw [hb] at hc; simp at hc)
theorem keep_sk {w w' : World} {B : Nat} {a : Option Addr} {n c : Nat} {L : List UInt8} (ho : OwnU w B a n c L) (hk : Keeps (blk a) w w') {b : Nat} {cs : Array Value} (hb : w.heap[b]? = some (.cells cs 24 (0, 0))) : w'.heap[b]? = some (.cells cs 24 (0, 0)) :=
  hk.heap hb (fun hx => by
    obtain ⟨cur, hc⟩ := tab_tag ho (own_blk hx)
    rw [hb] at hc; simp at hc)
theorem own_nilU (w : World) (B : Nat) : OwnU w B none 0 0 [] := World.ownsRow_nil _ _ _ _
theorem le_cast (m : Nat) : decide ((m : Int) ≤ (1048576 : Int)) = decide (m ≤ 1048576) := by
  rw [Bool.eq_iff_iff]; simp; omega
set_option maxRecDepth 100000 in
set_option maxHeartbeats 8000000 in
theorem rline_actor (w : World) (name tag : ByteArray) (sa : Option Addr) (sc : Nat) (xs : List Int) (fn : ByteArray) (fp fa : Int) (tn : ByteArray) (tp ta at_ : Int) (hx : SlAt w sa (Is xs)) (hr : rightB (⟨1, name, tag, sa, sc, xs, fn, fp, fa, tn, tp, ta, at_⟩ : SIt) = true) (hd : IBnd (⟨1, name, tag, sa, sc, xs, fn, fp, fa, tn, tp, ta, at_⟩ : SIt)) :
    Calls Tryd.prog 47 #[.agg (itA (⟨1, name, tag, sa, sc, xs, fn, fp, fa, tn, tp, ta, at_⟩ : SIt))] w (RLine w (⟨1, name, tag, sa, sc, xs, fn, fp, fa, tn, tp, ta, at_⟩ : SIt)) := by
  have nb : New w (w.alloc (.cells #[.int .u8 1, .string name, .string tag, .slice sa xs.length sc, .string fn, I fp, I fa, .string tn, I tp, I ta, I at_] ItT)) := (New.refl w).alloc _
  have hbk : (w.alloc (.cells #[.int .u8 1, .string name, .string tag, .slice sa xs.length sc, .string fn, I fp, I fa, .string tn, I tp, I ta, I at_] ItT)).heap[w.heap.size]? = some (.cells #[.int .u8 1, .string name, .string tag, .slice sa xs.length sc, .string fn, I fp, I fa, .string tn, I tp, I ta, I at_] ItT (0, 0)) := heap_alloc_new w _
  obtain ⟨⟨c0, c1, c2, c3, c4, c5, c6, c7, c8, c9, c10⟩, -, hX⟩ := it_get hbk
  have HBK := Lib.hid hbk
  have HX := Lib.hid hx
  have HD := Lib.hid hd
  have HN := Lib.hid nb
  obtain ⟨fp0, fp1⟩ := hd.p0
  obtain ⟨tp0, tp1⟩ := hd.p1
  have hln := hd.ln
  simp only at fp0 fp1 tp0 tp1 hln
  obtain ⟨PO, hPO⟩ : ∃ PO : Ending → World → Prop, PO = RLine w (⟨1, name, tag, sa, sc, xs, fn, fp, fa, tn, tp, ta, at_⟩ : SIt) := ⟨_, rfl⟩
  rw [← hPO]
  have HPO := Lib.hid hPO
  replace hr : (nameB name && nameB tag && bareB fn fp && bareB tn tp) = true := hr
  simp only [Bool.and_eq_true] at hr
  have hhd : headW (⟨1, name, tag, sa, sc, xs, fn, fp, fa, tn, tp, ta, at_⟩ : SIt) = [32, 32, 97, 99, 116, 111, 114, 32] ++ name.data.toList ++ [32, 61, 32] ++ tag.data.toList := rfl
  clear hbk hx hd hPO
  obtain ⟨⟨⟨hn, ht⟩, -⟩, -⟩ := hr
  have n16 := nameB_size hn
  have t16 := nameB_size ht
  clear hn ht
  obtain ⟨S1, hS1⟩ : ∃ X, (⟨#[32, 32, 97, 99, 116, 111, 114, 32]⟩ : ByteArray) ++ name = X := ⟨_, rfl⟩
  have hzS1 : S1.size ≤ 24 := by
    have h1 : ((⟨#[32, 32, 97, 99, 116, 111, 114, 32]⟩ : ByteArray)).size ≤ 8 := (by decide)
    have h2 : (name).size ≤ 16 := n16
    rw [← hS1, ByteArray.size_append]; omega
  have lS1 : S1.data.toList = ((⟨#[32, 32, 97, 99, 116, 111, 114, 32]⟩ : ByteArray)).data.toList ++ (name).data.toList := by rw [← hS1, ByteArray.data_append, Array.toList_append]
  have addS1 : ∀ w : World, (Op.stringOp .add ((⟨#[32, 32, 97, 99, 116, 111, 114, 32]⟩ : ByteArray)) (name)).run Tryd.prog w = .ok (.string S1) w := fun w => by
    have h1 : ((⟨#[32, 32, 97, 99, 116, 111, 114, 32]⟩ : ByteArray)).size ≤ 8 := (by decide)
    have h2 : (name).size ≤ 16 := n16
    rw [← hS1]; exact run_string_add_sum w _ _ (by omega)
  clear hS1
  obtain ⟨S2, hS2⟩ : ∃ X, S1 ++ (⟨#[32, 61, 32]⟩ : ByteArray) = X := ⟨_, rfl⟩
  have hzS2 : S2.size ≤ 27 := by
    have h1 : (S1).size ≤ 24 := hzS1
    have h2 : ((⟨#[32, 61, 32]⟩ : ByteArray)).size ≤ 3 := (by decide)
    rw [← hS2, ByteArray.size_append]; omega
  have lS2 : S2.data.toList = (S1).data.toList ++ ((⟨#[32, 61, 32]⟩ : ByteArray)).data.toList := by rw [← hS2, ByteArray.data_append, Array.toList_append]
  have addS2 : ∀ w : World, (Op.stringOp .add (S1) ((⟨#[32, 61, 32]⟩ : ByteArray))).run Tryd.prog w = .ok (.string S2) w := fun w => by
    have h1 : (S1).size ≤ 24 := hzS1
    have h2 : ((⟨#[32, 61, 32]⟩ : ByteArray)).size ≤ 3 := (by decide)
    rw [← hS2]; exact run_string_add_sum w _ _ (by omega)
  clear hS2
  obtain ⟨S3, hS3⟩ : ∃ X, S2 ++ tag = X := ⟨_, rfl⟩
  have hzS3 : S3.size ≤ 43 := by
    have h1 : (S2).size ≤ 27 := hzS2
    have h2 : (tag).size ≤ 16 := t16
    rw [← hS3, ByteArray.size_append]; omega
  have lS3 : S3.data.toList = (S2).data.toList ++ (tag).data.toList := by rw [← hS3, ByteArray.data_append, Array.toList_append]
  have addS3 : ∀ w : World, (Op.stringOp .add (S2) (tag)).run Tryd.prog w = .ok (.string S3) w := fun w => by
    have h1 : (S2).size ≤ 27 := hzS2
    have h2 : (tag).size ≤ 16 := t16
    rw [← hS3]; exact run_string_add_sum w _ _ (by omega)
  clear hS3
  have hls : S3.data.toList = headW (⟨1, name, tag, sa, sc, xs, fn, fp, fa, tn, tp, ta, at_⟩ : SIt) := by rw [hhd]; rw [lS3, lS2, lS1]
  have HLS := Lib.hid hls
  clear hls hhd
  clear lS1 lS2 lS3
  go_enter Tryd.func47, Tryd.ntmps47
  have hsz := nb.size
  go_wp2_with (at_builtin; refine wpList_appL rfl _ _ rfl w.heap.size none 0 [] 0 rfl (own_nilU (w.alloc (.cells #[.int .u8 1, .string name, .string tag, .slice sa xs.length sc, .string fn, I fp, I fa, .string tn, I tp, I ta, I at_] ItT)) _) S3 rfl (by omega) hsz ?_)
  intro a1 c1' w1 hown hk
  have N1 := Lib.hid (New.keeps nb hk (fun k hk hx => by obtain ⟨y, hy, _⟩ := hx; cases hy))
  have HB1 := Lib.hid (keep_box (own_nilU (w.alloc (.cells #[.int .u8 1, .string name, .string tag, .slice sa xs.length sc, .string fn, I fp, I fa, .string tn, I tp, I ta, I at_] ItT)) w.heap.size) hk HBK.out)
  clear hk c0 c1 c2 c3 c4 c5 c6 c7 c8 c9 c10 hX
  obtain ⟨⟨c0, c1, c2, c3, c4, c5, c6, c7, c8, c9, c10⟩, -, hX⟩ := it_get HB1.out
  obtain ⟨n0, hn0⟩ : ∃ n, S3.size = n := ⟨_, rfl⟩
  (try simp only [Nat.zero_add, List.nil_append] at hown)
  (try simp only [Nat.zero_add])
  rw [hn0] at hown ⊢
  obtain ⟨L0, hL0⟩ : ∃ L, S3.data.toList = L := ⟨_, rfl⟩
  rw [hL0] at hown
  have hl0 : L0.length = n0 := by rw [← hL0, toList_len]; exact hn0
  have hb0 : n0 ≤ 43 := by omega
  have hLe : L0 = headW (⟨1, name, tag, sa, sc, xs, fn, fp, fa, tn, tp, ta, at_⟩ : SIt) := by rw [← hL0]; exact HLS.out
  have HOWN := Lib.hid hown
  clear hown hn0 hL0
  have HLE := Lib.hid hLe
  have hnum0 : (L0 ++ numsW (xs.take 0)).length = n0 := by simpa [numsW] using hl0
  have hown0 : OwnU w1 w.heap.size a1 n0 c1' (L0 ++ numsW (xs.take 0)) := by simpa [numsW] using HOWN.out
  have HA := Lib.hid (And.intro hown0 hnum0)
  have HNB := Lib.hid (And.intro N1.out HB1.out)
  clear hown0 hnum0 hLe hl0 HOWN
  go_wp2_with fail
  clear c0 c1 c2 c3 c4 c5 c6 c7 c8 c9 c10 hX
  go_loopw [3, 4] (fun b i wr => ∃ (k m : Nat) (ab : Option Addr) (cb : Nat), k ≤ xs.length ∧ i = .int .i64 k ∧ b = .slice ab m cb ∧ m ≤ 1048700 ∧ Hid (New w wr ∧ wr.heap[w.heap.size]? = some (.cells #[.int .u8 1, .string name, .string tag, .slice sa xs.length sc, .string fn, I fp, I fa, .string tn, I tp, I ta, I at_] ItT (0, 0))) ∧ Hid (OwnU wr w.heap.size ab m cb (L0 ++ numsW (xs.take k)) ∧ (L0 ++ numsW (xs.take k)).length = m)) (fun _ i _ => xs.length - (intOf i).toNat)
  case atStart => exact ⟨0, n0, a1, c1', by omega, rfl, rfl, by omega, HNB, HA⟩
  case round =>
    clear HA hb0
    obtain ⟨k, m, ab, cb, hk, rfl, rfl, hm, HNW, HO⟩ := hrel
    obtain ⟨⟨-, -, -, c3, -, -, -, -, -, -, -⟩, -, hXB⟩ := it_get HNW.out.2
    have hszr : w.heap.size ≤ wr.heap.size := HNW.out.1.size
    by_cases hc : k < xs.length ∧ m ≤ 1048576
    · obtain ⟨hk1, hm2⟩ := hc
      have hkI : (k : Int) < (xs.length : Int) := by omega
      have hkd : decide (k < xs.length) = true := decide_eq_true hk1
      have hmI : (m : Int) ≤ (1048576 : Int) := by omega
      have hmd : decide (m ≤ 1048576) = true := decide_eq_true hm2
      obtain ⟨bb, off, hab, q0⟩ := (HX.out.new HNW.out.1) k (by simpa [Is] using hk1)
      have hv : (Is xs).getD k undef = I xs[k] := by simp [Is, hk1]
      rw [hv] at q0
      have hbw := World.block_lt_of_cell? wr _ q0
      have v01 := HD.out.xs _ (List.getElem_mem hk1)
      have hsucc := numsW_succ xs k hk1
      subst hab
      generalize xs[k] = v at q0 v01 hsucc hv
      have HSU := Lib.hid hsucc
      have hdg := fun W => digits_any W v v01.1 v01.2
      have hSz := itoa_len21 v v01
      obtain ⟨Sv, hSv⟩ : ∃ S, itoaS v = S := ⟨_, rfl⟩
      rw [hSv] at hdg hSz
      have hSl : Sv.data.toList = Lib.itoa v := by rw [← hSv]; rfl
      obtain ⟨Sw, hSw⟩ : ∃ S, (⟨#[32]⟩ : ByteArray) ++ Sv = S := ⟨_, rfl⟩
      have hSwz : Sw.size = 1 + Sv.size := by rw [← hSw, ByteArray.size_append]; rfl
      have hSwl : Sw.data.toList = 32 :: Lib.itoa v := by rw [← hSw, ByteArray.data_append, Array.toList_append, hSl]; rfl
      have hadd : ∀ w : World, (Op.stringOp .add (⟨#[32]⟩ : ByteArray) Sv).run Tryd.prog w = .ok (.string Sw) w := fun w => by rw [← hSw]; exact run_string_add_sum w _ _ (by show 1 + Sv.size ≤ _; omega)
      have HSW := Lib.hid hSwl
      have hsw22 : Sw.size ≤ 22 := by omega
      clear hv hsucc hSv hSl hSw hSwl hSwz hSz
      go_wp2_with fail
      refine (hdg _).mono ?_
      rintro e w2 ⟨rfl, n2⟩
      have HO2 := Lib.hid (n2.owns HO.out.1)
      have hsz2 := Nat.le_trans hszr n2.size
      have HN2 := Lib.hid (And.intro (HNW.out.1.trans n2) (Keeps.heap n2 HNW.out.2 (fun h => h)))
      clear hdg n2 q0 hbw c3 hXB
      go_wp2_with (at_builtin; refine wpList_appL rfl _ _ rfl w.heap.size ab cb (L0 ++ numsW (xs.take k)) m rfl HO2.out Sw rfl ?d1 hsz2 ?_)
      case d1 => omega
      intro a5 c5 w5 hown5 hk5
      have HN5 := Lib.hid (And.intro (New.keeps HN2.out.1 hk5 (fun i hi hx => by have := (own_of_blk HO2.out hx).1; omega)) (keep_box HO2.out hk5 HN2.out.2))
      have hmm : (L0 ++ numsW (xs.take (k + 1))).length = m + Sw.size := by rw [HSU.out, ← List.append_assoc, ← HSW.out, List.length_append, HO.out.2, toList_len]
      have HO5 : Hid (OwnU w5 w.heap.size a5 (m + Sw.size) c5 (L0 ++ numsW (xs.take (k + 1))) ∧ (L0 ++ numsW (xs.take (k + 1))).length = m + Sw.size) := Lib.hid ⟨by rw [HSU.out, ← HSW.out]; (try simp only [List.append_assoc] at hown5 ⊢); exact hown5, hmm⟩
      clear hown5 hk5 hmm
      go_wp2_with fail
      go_roundw
      case rel => exact ⟨k + 1, m + Sw.size, a5, c5, by omega, by go_num, by first | rfl | (congr 1), by omega, HN5, HO5⟩
      case measure => simp [intOf]; omega
    · have HF : Hid (∀ (a : Option Addr) (c n : Nat) (w' : World), m + 2 = n → OwnU w' w.heap.size a n c (L0 ++ numsW (xs.take k) ++ [59, 10]) → New w w' → PO (.returned (.slice a n c)) w') := Lib.hid (fun a c n w' h1 h2 h3 => by
        rw [HPO.out]
        exact rline_end (x := (⟨1, name, tag, sa, sc, xs, fn, fp, fa, tn, tp, ta, at_⟩ : SIt)) HLE.out HO.out.2 hm (by show k = xs.length ∨ _; omega) h1 h2 h3)
      by_cases hk1 : k < xs.length
      case' pos =>
        have hkI : (k : Int) < (xs.length : Int) := by omega
        have hkd : decide (k < xs.length) = true := decide_eq_true hk1
        have hmI : ¬ (m : Int) ≤ (1048576 : Int) := by omega
        have hmd : decide (m ≤ 1048576) = false := decide_eq_false (by omega)
      case' neg =>
        have hkI : (xs.length : Int) ≤ (k : Int) := by omega
        have hkd : decide (k < xs.length) = false := decide_eq_false hk1
      all_goals
        (clear hc
         go_wp2_with (at_builtin; refine wpList_appL rfl _ _ rfl w.heap.size ab cb (L0 ++ numsW (xs.take k)) m rfl HO.out.1 (⟨#[59, 10]⟩ : ByteArray) rfl (by show m + 2 ≤ _; omega) hszr ?_)
         intro a5 c5 w5 hown5 hk5
         have HN5 := Lib.hid (New.keeps HNW.out.1 hk5 (fun i hi hx => by have := (own_of_blk HO.out.1 hx).1; omega))
         go_wp2_with fail
         (try go_ret)
         refine HF.out a5 c5 _ _ rfl ?_ HN5.out
         (try simp only [List.append_assoc] at hown5 ⊢)
         exact hown5)
set_option maxRecDepth 100000 in
set_option maxHeartbeats 8000000 in
theorem rline_edge0 (w : World) (name tag : ByteArray) (sa : Option Addr) (sc : Nat) (xs : List Int) (fn : ByteArray) (fp fa : Int) (tn : ByteArray) (tp ta at_ : Int) (hx : SlAt w sa (Is xs)) (hr : rightB (⟨2, name, tag, sa, sc, xs, fn, fp, fa, tn, tp, ta, at_⟩ : SIt) = true) (hd : IBnd (⟨2, name, tag, sa, sc, xs, fn, fp, fa, tn, tp, ta, at_⟩ : SIt)) (hxs : xs = []) :
    Calls Tryd.prog 47 #[.agg (itA (⟨2, name, tag, sa, sc, xs, fn, fp, fa, tn, tp, ta, at_⟩ : SIt))] w (RLine w (⟨2, name, tag, sa, sc, xs, fn, fp, fa, tn, tp, ta, at_⟩ : SIt)) := by
  have nb : New w (w.alloc (.cells #[.int .u8 2, .string name, .string tag, .slice sa xs.length sc, .string fn, I fp, I fa, .string tn, I tp, I ta, I at_] ItT)) := (New.refl w).alloc _
  have hbk : (w.alloc (.cells #[.int .u8 2, .string name, .string tag, .slice sa xs.length sc, .string fn, I fp, I fa, .string tn, I tp, I ta, I at_] ItT)).heap[w.heap.size]? = some (.cells #[.int .u8 2, .string name, .string tag, .slice sa xs.length sc, .string fn, I fp, I fa, .string tn, I tp, I ta, I at_] ItT (0, 0)) := heap_alloc_new w _
  obtain ⟨⟨c0, c1, c2, c3, c4, c5, c6, c7, c8, c9, c10⟩, -, hX⟩ := it_get hbk
  have HBK := Lib.hid hbk
  have HX := Lib.hid hx
  have HD := Lib.hid hd
  have HN := Lib.hid nb
  obtain ⟨fp0, fp1⟩ := hd.p0
  obtain ⟨tp0, tp1⟩ := hd.p1
  have hln := hd.ln
  simp only at fp0 fp1 tp0 tp1 hln
  obtain ⟨PO, hPO⟩ : ∃ PO : Ending → World → Prop, PO = RLine w (⟨2, name, tag, sa, sc, xs, fn, fp, fa, tn, tp, ta, at_⟩ : SIt) := ⟨_, rfl⟩
  rw [← hPO]
  have HPO := Lib.hid hPO
  replace hr : (emptyB name && emptyB tag && nameB fn && nameB tn) = true := hr
  simp only [Bool.and_eq_true] at hr
  have hhd : headW (⟨2, name, tag, sa, sc, xs, fn, fp, fa, tn, tp, ta, at_⟩ : SIt) = [32, 32, 101, 100, 103, 101, 32] ++ placeW fn fp ++ [32, 45, 62, 32] ++ placeW tn tp ++ (if xs = [] then [] else [32, 119, 105, 116, 104]) := rfl
  clear hbk hx hd hPO
  obtain ⟨⟨⟨-, -⟩, hf⟩, ho⟩ := hr
  have f16 := nameB_size hf
  have t16 := nameB_size ho
  rw [if_pos hxs] at hhd
  have hxl : ¬ (0 : Int) < (xs.length : Int) := by rw [hxs]; simp
  have hxd : decide (0 < xs.length) = false := by rw [hxs]; rfl
  clear hf ho hxs
  have hfc := fun W => rat_any W fn fp fa (by omega) ⟨fp0, fp1⟩
  obtain ⟨PF, hPF⟩ : ∃ P : ByteArray, (⟨(placeW fn fp).toArray⟩ : ByteArray) = P := ⟨_, rfl⟩
  have lPF : PF.data.toList = placeW fn fp := by rw [← hPF]
  have zPF : PF.size ≤ 38 := by rw [← toList_len, lPF]; exact placeW_len fn fp f16 fp0 fp1
  rw [hPF] at hfc
  clear hPF
  have htc := fun W => rat_any W tn tp ta (by omega) ⟨tp0, tp1⟩
  obtain ⟨PT, hPT⟩ : ∃ P : ByteArray, (⟨(placeW tn tp).toArray⟩ : ByteArray) = P := ⟨_, rfl⟩
  have lPT : PT.data.toList = placeW tn tp := by rw [← hPT]
  have zPT : PT.size ≤ 38 := by rw [← toList_len, lPT]; exact placeW_len tn tp t16 tp0 tp1
  rw [hPT] at htc
  clear hPT
  obtain ⟨S1, hS1⟩ : ∃ X, (⟨#[32, 32, 101, 100, 103, 101, 32]⟩ : ByteArray) ++ PF = X := ⟨_, rfl⟩
  have hzS1 : S1.size ≤ 45 := by
    have h1 : ((⟨#[32, 32, 101, 100, 103, 101, 32]⟩ : ByteArray)).size ≤ 7 := (by decide)
    have h2 : (PF).size ≤ 38 := zPF
    rw [← hS1, ByteArray.size_append]; omega
  have lS1 : S1.data.toList = ((⟨#[32, 32, 101, 100, 103, 101, 32]⟩ : ByteArray)).data.toList ++ (PF).data.toList := by rw [← hS1, ByteArray.data_append, Array.toList_append]
  have addS1 : ∀ w : World, (Op.stringOp .add ((⟨#[32, 32, 101, 100, 103, 101, 32]⟩ : ByteArray)) (PF)).run Tryd.prog w = .ok (.string S1) w := fun w => by
    have h1 : ((⟨#[32, 32, 101, 100, 103, 101, 32]⟩ : ByteArray)).size ≤ 7 := (by decide)
    have h2 : (PF).size ≤ 38 := zPF
    rw [← hS1]; exact run_string_add_sum w _ _ (by omega)
  clear hS1
  obtain ⟨S2, hS2⟩ : ∃ X, S1 ++ (⟨#[32, 45, 62, 32]⟩ : ByteArray) = X := ⟨_, rfl⟩
  have hzS2 : S2.size ≤ 49 := by
    have h1 : (S1).size ≤ 45 := hzS1
    have h2 : ((⟨#[32, 45, 62, 32]⟩ : ByteArray)).size ≤ 4 := (by decide)
    rw [← hS2, ByteArray.size_append]; omega
  have lS2 : S2.data.toList = (S1).data.toList ++ ((⟨#[32, 45, 62, 32]⟩ : ByteArray)).data.toList := by rw [← hS2, ByteArray.data_append, Array.toList_append]
  have addS2 : ∀ w : World, (Op.stringOp .add (S1) ((⟨#[32, 45, 62, 32]⟩ : ByteArray))).run Tryd.prog w = .ok (.string S2) w := fun w => by
    have h1 : (S1).size ≤ 45 := hzS1
    have h2 : ((⟨#[32, 45, 62, 32]⟩ : ByteArray)).size ≤ 4 := (by decide)
    rw [← hS2]; exact run_string_add_sum w _ _ (by omega)
  clear hS2
  obtain ⟨S3, hS3⟩ : ∃ X, S2 ++ PT = X := ⟨_, rfl⟩
  have hzS3 : S3.size ≤ 87 := by
    have h1 : (S2).size ≤ 49 := hzS2
    have h2 : (PT).size ≤ 38 := zPT
    rw [← hS3, ByteArray.size_append]; omega
  have lS3 : S3.data.toList = (S2).data.toList ++ (PT).data.toList := by rw [← hS3, ByteArray.data_append, Array.toList_append]
  have addS3 : ∀ w : World, (Op.stringOp .add (S2) (PT)).run Tryd.prog w = .ok (.string S3) w := fun w => by
    have h1 : (S2).size ≤ 49 := hzS2
    have h2 : (PT).size ≤ 38 := zPT
    rw [← hS3]; exact run_string_add_sum w _ _ (by omega)
  clear hS3
  have hls : S3.data.toList = headW (⟨2, name, tag, sa, sc, xs, fn, fp, fa, tn, tp, ta, at_⟩ : SIt) := by rw [hhd]; rw [lS3, lS2, lS1, lPF, lPT]; (try simp)
  have HLS := Lib.hid hls
  clear hls hhd
  clear lS1 lS2 lS3 lPF lPT
  go_enter Tryd.func47, Tryd.ntmps47
  go_wp2_with fail
  have hS0 : (fun w' : World => w'.cell? ⟨w.heap.size, 1, none⟩ = some (.string name) ∧ w'.cell? ⟨w.heap.size, 2, none⟩ = some (.string tag) ∧ w'.cell? ⟨w.heap.size, 3, none⟩ = some (.slice sa xs.length sc) ∧ w'.cell? ⟨w.heap.size, 4, none⟩ = some (.string fn) ∧ w'.cell? ⟨w.heap.size, 5, none⟩ = some (I fp) ∧ w'.cell? ⟨w.heap.size, 6, none⟩ = some (I fa) ∧ w'.cell? ⟨w.heap.size, 7, none⟩ = some (.string tn) ∧ w'.cell? ⟨w.heap.size, 8, none⟩ = some (I tp) ∧ w'.cell? ⟨w.heap.size, 9, none⟩ = some (I ta)) (w.alloc (.cells #[.int .u8 2, .string name, .string tag, .slice sa xs.length sc, .string fn, I fp, I fa, .string tn, I tp, I ta, I at_] ItT)).drew := ⟨New.cell (New.refl (w.alloc (.cells #[.int .u8 2, .string name, .string tag, .slice sa xs.length sc, .string fn, I fp, I fa, .string tn, I tp, I ta, I at_] ItT))).drew c1, New.cell (New.refl (w.alloc (.cells #[.int .u8 2, .string name, .string tag, .slice sa xs.length sc, .string fn, I fp, I fa, .string tn, I tp, I ta, I at_] ItT))).drew c2, New.cell (New.refl (w.alloc (.cells #[.int .u8 2, .string name, .string tag, .slice sa xs.length sc, .string fn, I fp, I fa, .string tn, I tp, I ta, I at_] ItT))).drew c3, New.cell (New.refl (w.alloc (.cells #[.int .u8 2, .string name, .string tag, .slice sa xs.length sc, .string fn, I fp, I fa, .string tn, I tp, I ta, I at_] ItT))).drew c4, New.cell (New.refl (w.alloc (.cells #[.int .u8 2, .string name, .string tag, .slice sa xs.length sc, .string fn, I fp, I fa, .string tn, I tp, I ta, I at_] ItT))).drew c5, New.cell (New.refl (w.alloc (.cells #[.int .u8 2, .string name, .string tag, .slice sa xs.length sc, .string fn, I fp, I fa, .string tn, I tp, I ta, I at_] ItT))).drew c6, New.cell (New.refl (w.alloc (.cells #[.int .u8 2, .string name, .string tag, .slice sa xs.length sc, .string fn, I fp, I fa, .string tn, I tp, I ta, I at_] ItT))).drew c7, New.cell (New.refl (w.alloc (.cells #[.int .u8 2, .string name, .string tag, .slice sa xs.length sc, .string fn, I fp, I fa, .string tn, I tp, I ta, I at_] ItT))).drew c8, New.cell (New.refl (w.alloc (.cells #[.int .u8 2, .string name, .string tag, .slice sa xs.length sc, .string fn, I fp, I fa, .string tn, I tp, I ta, I at_] ItT))).drew c9⟩
  refine wp_region_X (fun w' : World => w'.cell? ⟨w.heap.size, 1, none⟩ = some (.string name) ∧ w'.cell? ⟨w.heap.size, 2, none⟩ = some (.string tag) ∧ w'.cell? ⟨w.heap.size, 3, none⟩ = some (.slice sa xs.length sc) ∧ w'.cell? ⟨w.heap.size, 4, none⟩ = some (.string fn) ∧ w'.cell? ⟨w.heap.size, 5, none⟩ = some (I fp) ∧ w'.cell? ⟨w.heap.size, 6, none⟩ = some (I fa) ∧ w'.cell? ⟨w.heap.size, 7, none⟩ = some (.string tn) ∧ w'.cell? ⟨w.heap.size, 8, none⟩ = some (I tp) ∧ w'.cell? ⟨w.heap.size, 9, none⟩ = some (I ta)) [10, 11] (by kernel_rfl) hS0 ?_
  refine anyX_take 0 (by kernel_rfl) (by kernel_rfl) (by kernel_rfl) (by kernel_rfl) (by kernel_rfl) hS0 ?_
  intro oi ho; simp only [List.getElem?_toArray, List.getElem?_cons_succ, List.getElem?_cons_zero, Option.some.injEq] at ho; subst ho
  refine ⟨?_, fun _ _ _ h => h, Or.inl ⟨by rfl, ?_⟩, ?_⟩; rotate_left 1
  · (intro wS hSw; (try dsimp only at hSw); go_simp; try with_reducible rfl)
  simp only [Act.put, List.setIfInBounds_toArray, List.set_cons_zero, List.set_cons_succ]
  refine anyX_take 1 (by kernel_rfl) (by kernel_rfl) (by kernel_rfl) (by kernel_rfl) (by kernel_rfl) hS0 ?_
  intro oi ho; simp only [List.getElem?_toArray, List.getElem?_cons_succ, List.getElem?_cons_zero, Option.some.injEq] at ho; subst ho
  refine ⟨?_, fun _ _ _ h => h, Or.inl ⟨by rfl, ?_⟩, ?_⟩; rotate_left 1
  · (intro wS hSw; (try dsimp only at hSw); go_simp; try with_reducible rfl)
  simp only [Act.put, List.setIfInBounds_toArray, List.set_cons_zero, List.set_cons_succ]
  refine anyX_take 2 (by kernel_rfl) (by kernel_rfl) (by kernel_rfl) (by kernel_rfl) (by kernel_rfl) hS0 ?_
  intro oi ho; simp only [List.getElem?_toArray, List.getElem?_cons_succ, List.getElem?_cons_zero, Option.some.injEq] at ho; subst ho
  refine ⟨?_, fun _ _ _ h => h, Or.inl ⟨by rfl, ?_⟩, ?_⟩; rotate_left 1
  · (intro wS hSw; (try dsimp only at hSw); go_simp; try with_reducible rfl)
  simp only [Act.put, List.setIfInBounds_toArray, List.set_cons_zero, List.set_cons_succ]
  refine anyX_take 6 (by kernel_rfl) (by kernel_rfl) (by kernel_rfl) (by kernel_rfl) (by kernel_rfl) hS0 ?_
  intro oi ho; simp only [List.getElem?_toArray, List.getElem?_cons_succ, List.getElem?_cons_zero, Option.some.injEq] at ho; subst ho
  refine ⟨?_, fun _ _ _ h => h, Or.inl ⟨by rfl, ?_⟩, ?_⟩; rotate_left 1
  · (intro wS hSw; (try dsimp only at hSw); go_simp; try with_reducible rfl)
  simp only [Act.put, List.setIfInBounds_toArray, List.set_cons_zero, List.set_cons_succ]
  refine anyX_take 7 (by kernel_rfl) (by kernel_rfl) (by kernel_rfl) (by kernel_rfl) (by kernel_rfl) hS0 ?_
  intro oi ho; simp only [List.getElem?_toArray, List.getElem?_cons_succ, List.getElem?_cons_zero, Option.some.injEq] at ho; subst ho
  refine ⟨?_, fun _ _ _ h => h, Or.inl ⟨by rfl, ?_⟩, ?_⟩; rotate_left 1
  · (intro wS hSw; (try dsimp only at hSw); go_simp; try with_reducible rfl)
  simp only [Act.put, List.setIfInBounds_toArray, List.set_cons_zero, List.set_cons_succ]
  refine anyX_one 3 (by kernel_rfl) ?_
  intro oi ho; simp only [List.getElem?_toArray, List.getElem?_cons_succ, List.getElem?_cons_zero, Option.some.injEq] at ho; subst ho; intro K hK
  (try simp only [Act.put, List.setIfInBounds_toArray, List.set_cons_zero, List.set_cons_succ])
  go_simp
  refine (hfc _).mono ?_
  rintro e v1 ⟨rfl, m1⟩
  have kk1 := (New.refl (w.alloc (.cells #[.int .u8 2, .string name, .string tag, .slice sa xs.length sc, .string fn, I fp, I fa, .string tn, I tp, I ta, I at_] ItT))).drew.trans m1
  have hS1 : (fun w' : World => w'.cell? ⟨w.heap.size, 1, none⟩ = some (.string name) ∧ w'.cell? ⟨w.heap.size, 2, none⟩ = some (.string tag) ∧ w'.cell? ⟨w.heap.size, 3, none⟩ = some (.slice sa xs.length sc) ∧ w'.cell? ⟨w.heap.size, 4, none⟩ = some (.string fn) ∧ w'.cell? ⟨w.heap.size, 5, none⟩ = some (I fp) ∧ w'.cell? ⟨w.heap.size, 6, none⟩ = some (I fa) ∧ w'.cell? ⟨w.heap.size, 7, none⟩ = some (.string tn) ∧ w'.cell? ⟨w.heap.size, 8, none⟩ = some (I tp) ∧ w'.cell? ⟨w.heap.size, 9, none⟩ = some (I ta)) v1 := ⟨New.cell kk1 c1, New.cell kk1 c2, New.cell kk1 c3, New.cell kk1 c4, New.cell kk1 c5, New.cell kk1 c6, New.cell kk1 c7, New.cell kk1 c8, New.cell kk1 c9⟩
  refine hK _ _ (fun _ => hS1) ?_
  clear hK K
  refine anyX_take 4 (by kernel_rfl) (by kernel_rfl) (by kernel_rfl) (by kernel_rfl) (by kernel_rfl) hS1 ?_
  intro oi ho; simp only [List.getElem?_toArray, List.getElem?_cons_succ, List.getElem?_cons_zero, Option.some.injEq] at ho; subst ho
  refine ⟨?_, fun _ _ _ h => h, Or.inl ⟨by rfl, ?_⟩, ?_⟩; rotate_left 1
  · (intro wS hSw; (try dsimp only at hSw); go_simp; try with_reducible rfl)
  simp only [Act.put, List.setIfInBounds_toArray, List.set_cons_zero, List.set_cons_succ]
  refine anyX_take 5 (by kernel_rfl) (by kernel_rfl) (by kernel_rfl) (by kernel_rfl) (by kernel_rfl) hS1 ?_
  intro oi ho; simp only [List.getElem?_toArray, List.getElem?_cons_succ, List.getElem?_cons_zero, Option.some.injEq] at ho; subst ho
  refine ⟨?_, fun _ _ _ h => h, Or.inl ⟨by rfl, ?_⟩, ?_⟩; rotate_left 1
  · (intro wS hSw; (try dsimp only at hSw); go_simp; try with_reducible rfl)
  simp only [Act.put, List.setIfInBounds_toArray, List.set_cons_zero, List.set_cons_succ]
  refine anyX_one 8 (by kernel_rfl) ?_
  intro oi ho; simp only [List.getElem?_toArray, List.getElem?_cons_succ, List.getElem?_cons_zero, Option.some.injEq] at ho; subst ho; intro K hK
  (try simp only [Act.put, List.setIfInBounds_toArray, List.set_cons_zero, List.set_cons_succ])
  go_simp
  refine (htc _).mono ?_
  rintro e v2 ⟨rfl, m2⟩
  have kk2 := kk1.trans m2
  have hS2 : (fun w' : World => w'.cell? ⟨w.heap.size, 1, none⟩ = some (.string name) ∧ w'.cell? ⟨w.heap.size, 2, none⟩ = some (.string tag) ∧ w'.cell? ⟨w.heap.size, 3, none⟩ = some (.slice sa xs.length sc) ∧ w'.cell? ⟨w.heap.size, 4, none⟩ = some (.string fn) ∧ w'.cell? ⟨w.heap.size, 5, none⟩ = some (I fp) ∧ w'.cell? ⟨w.heap.size, 6, none⟩ = some (I fa) ∧ w'.cell? ⟨w.heap.size, 7, none⟩ = some (.string tn) ∧ w'.cell? ⟨w.heap.size, 8, none⟩ = some (I tp) ∧ w'.cell? ⟨w.heap.size, 9, none⟩ = some (I ta)) v2 := ⟨New.cell kk2 c1, New.cell kk2 c2, New.cell kk2 c3, New.cell kk2 c4, New.cell kk2 c5, New.cell kk2 c6, New.cell kk2 c7, New.cell kk2 c8, New.cell kk2 c9⟩
  refine hK _ _ (fun _ => hS2) ?_
  clear hK K
  refine anyX_take 9 (by kernel_rfl) (by kernel_rfl) (by kernel_rfl) (by kernel_rfl) (by kernel_rfl) hS2 ?_
  intro oi ho; simp only [List.getElem?_toArray, List.getElem?_cons_succ, List.getElem?_cons_zero, Option.some.injEq] at ho; subst ho
  refine ⟨?_, fun _ _ _ h => h, Or.inl ⟨by rfl, ?_⟩, ?_⟩; rotate_left 1
  · (intro wS hSw; (try dsimp only at hSw); go_simp; try with_reducible rfl)
  simp only [Act.put, List.setIfInBounds_toArray, List.set_cons_zero, List.set_cons_succ]
  have hsz := Nat.le_trans nb.size kk2.size
  refine anyX_one 10 (by kernel_rfl) ?_
  intro oi ho; simp only [List.getElem?_toArray, List.getElem?_cons_succ, List.getElem?_cons_zero, Option.some.injEq] at ho; subst ho; intro K hK
  refine step_appS rfl _ _ rfl w.heap.size none 0 [] 0 rfl (own_nilU v2 _) S3 rfl (by omega) hsz ?_
  intro a1 c1' w1 hown hk
  have N1 := Lib.hid (New.keeps (nb.trans kk2) hk (fun k hk hx => by obtain ⟨y, hy, _⟩ := hx; cases hy))
  have HB1 := Lib.hid (keep_box (own_nilU v2 w.heap.size) hk (Keeps.heap kk2 HBK.out (fun h => h)))
  refine hK _ _ (fun hx => by cases hx) ?_
  clear hK K
  refine anyX_one 11 (by kernel_rfl) ?_
  intro oi ho; simp only [List.getElem?_toArray, List.getElem?_cons_succ, List.getElem?_cons_zero, Option.some.injEq] at ho; subst ho; intro K hK
  (try simp only [Act.put, List.setIfInBounds_toArray, List.set_cons_zero, List.set_cons_succ])
  go_simp
  refine hK _ _ (fun hx => by cases hx) ?_
  clear hK K
  refine anyX_done (by kernel_rfl) ?_
  (try simp only [Act.put, List.setIfInBounds_toArray, List.set_cons_zero, List.set_cons_succ])
  (try simp only [Exit.then])
  clear hS0 hS1 kk1 m1 hS2 kk2 m2 hk c0 c1 c2 c3 c4 c5 c6 c7 c8 c9 c10 hX
  obtain ⟨⟨c0, c1, c2, c3, c4, c5, c6, c7, c8, c9, c10⟩, -, hX⟩ := it_get HB1.out
  obtain ⟨n0, hn0⟩ : ∃ n, S3.size = n := ⟨_, rfl⟩
  (try simp only [Nat.zero_add, List.nil_append] at hown)
  (try simp only [Nat.zero_add])
  rw [hn0] at hown ⊢
  obtain ⟨L0, hL0⟩ : ∃ L, S3.data.toList = L := ⟨_, rfl⟩
  rw [hL0] at hown
  have hl0 : L0.length = n0 := by rw [← hL0, toList_len]; exact hn0
  have hb0 : n0 ≤ 87 := by omega
  have hLe : L0 = headW (⟨2, name, tag, sa, sc, xs, fn, fp, fa, tn, tp, ta, at_⟩ : SIt) := by rw [← hL0]; exact HLS.out
  have HOWN := Lib.hid hown
  clear hown hn0 hL0
  have HLE := Lib.hid hLe
  have hnum0 : (L0 ++ numsW (xs.take 0)).length = n0 := by simpa [numsW] using hl0
  have hown0 : OwnU w1 w.heap.size a1 n0 c1' (L0 ++ numsW (xs.take 0)) := by simpa [numsW] using HOWN.out
  have HA := Lib.hid (And.intro hown0 hnum0)
  have HNB := Lib.hid (And.intro N1.out HB1.out)
  clear hown0 hnum0 hLe hl0 HOWN
  go_wp2_with fail
  clear c0 c1 c2 c3 c4 c5 c6 c7 c8 c9 c10 hX hxl hxd
  go_loopw [3, 4] (fun b i wr => ∃ (k m : Nat) (ab : Option Addr) (cb : Nat), k ≤ xs.length ∧ i = .int .i64 k ∧ b = .slice ab m cb ∧ m ≤ 1048700 ∧ Hid (New w wr ∧ wr.heap[w.heap.size]? = some (.cells #[.int .u8 2, .string name, .string tag, .slice sa xs.length sc, .string fn, I fp, I fa, .string tn, I tp, I ta, I at_] ItT (0, 0))) ∧ Hid (OwnU wr w.heap.size ab m cb (L0 ++ numsW (xs.take k)) ∧ (L0 ++ numsW (xs.take k)).length = m)) (fun _ i _ => xs.length - (intOf i).toNat)
  case atStart => exact ⟨0, n0, a1, c1', by omega, rfl, rfl, by omega, HNB, HA⟩
  case round =>
    clear HA hb0
    obtain ⟨k, m, ab, cb, hk, rfl, rfl, hm, HNW, HO⟩ := hrel
    obtain ⟨⟨-, -, -, c3, -, -, -, -, -, -, -⟩, -, hXB⟩ := it_get HNW.out.2
    have hszr : w.heap.size ≤ wr.heap.size := HNW.out.1.size
    by_cases hc : k < xs.length ∧ m ≤ 1048576
    · obtain ⟨hk1, hm2⟩ := hc
      have hkI : (k : Int) < (xs.length : Int) := by omega
      have hkd : decide (k < xs.length) = true := decide_eq_true hk1
      have hmI : (m : Int) ≤ (1048576 : Int) := by omega
      have hmd : decide (m ≤ 1048576) = true := decide_eq_true hm2
      obtain ⟨bb, off, hab, q0⟩ := (HX.out.new HNW.out.1) k (by simpa [Is] using hk1)
      have hv : (Is xs).getD k undef = I xs[k] := by simp [Is, hk1]
      rw [hv] at q0
      have hbw := World.block_lt_of_cell? wr _ q0
      have v01 := HD.out.xs _ (List.getElem_mem hk1)
      have hsucc := numsW_succ xs k hk1
      subst hab
      generalize xs[k] = v at q0 v01 hsucc hv
      have HSU := Lib.hid hsucc
      have hdg := fun W => digits_any W v v01.1 v01.2
      have hSz := itoa_len21 v v01
      obtain ⟨Sv, hSv⟩ : ∃ S, itoaS v = S := ⟨_, rfl⟩
      rw [hSv] at hdg hSz
      have hSl : Sv.data.toList = Lib.itoa v := by rw [← hSv]; rfl
      obtain ⟨Sw, hSw⟩ : ∃ S, (⟨#[32]⟩ : ByteArray) ++ Sv = S := ⟨_, rfl⟩
      have hSwz : Sw.size = 1 + Sv.size := by rw [← hSw, ByteArray.size_append]; rfl
      have hSwl : Sw.data.toList = 32 :: Lib.itoa v := by rw [← hSw, ByteArray.data_append, Array.toList_append, hSl]; rfl
      have hadd : ∀ w : World, (Op.stringOp .add (⟨#[32]⟩ : ByteArray) Sv).run Tryd.prog w = .ok (.string Sw) w := fun w => by rw [← hSw]; exact run_string_add_sum w _ _ (by show 1 + Sv.size ≤ _; omega)
      have HSW := Lib.hid hSwl
      have hsw22 : Sw.size ≤ 22 := by omega
      clear hv hsucc hSv hSl hSw hSwl hSwz hSz
      go_wp2_with fail
      refine (hdg _).mono ?_
      rintro e w2 ⟨rfl, n2⟩
      have HO2 := Lib.hid (n2.owns HO.out.1)
      have hsz2 := Nat.le_trans hszr n2.size
      have HN2 := Lib.hid (And.intro (HNW.out.1.trans n2) (Keeps.heap n2 HNW.out.2 (fun h => h)))
      clear hdg n2 q0 hbw c3 hXB
      go_wp2_with (at_builtin; refine wpList_appL rfl _ _ rfl w.heap.size ab cb (L0 ++ numsW (xs.take k)) m rfl HO2.out Sw rfl ?d1 hsz2 ?_)
      case d1 => omega
      intro a5 c5 w5 hown5 hk5
      have HN5 := Lib.hid (And.intro (New.keeps HN2.out.1 hk5 (fun i hi hx => by have := (own_of_blk HO2.out hx).1; omega)) (keep_box HO2.out hk5 HN2.out.2))
      have hmm : (L0 ++ numsW (xs.take (k + 1))).length = m + Sw.size := by rw [HSU.out, ← List.append_assoc, ← HSW.out, List.length_append, HO.out.2, toList_len]
      have HO5 : Hid (OwnU w5 w.heap.size a5 (m + Sw.size) c5 (L0 ++ numsW (xs.take (k + 1))) ∧ (L0 ++ numsW (xs.take (k + 1))).length = m + Sw.size) := Lib.hid ⟨by rw [HSU.out, ← HSW.out]; (try simp only [List.append_assoc] at hown5 ⊢); exact hown5, hmm⟩
      clear hown5 hk5 hmm
      go_wp2_with fail
      go_roundw
      case rel => exact ⟨k + 1, m + Sw.size, a5, c5, by omega, by go_num, by first | rfl | (congr 1), by omega, HN5, HO5⟩
      case measure => simp [intOf]; omega
    · have HF : Hid (∀ (a : Option Addr) (c n : Nat) (w' : World), m + 2 = n → OwnU w' w.heap.size a n c (L0 ++ numsW (xs.take k) ++ [59, 10]) → New w w' → PO (.returned (.slice a n c)) w') := Lib.hid (fun a c n w' h1 h2 h3 => by
        rw [HPO.out]
        exact rline_end (x := (⟨2, name, tag, sa, sc, xs, fn, fp, fa, tn, tp, ta, at_⟩ : SIt)) HLE.out HO.out.2 hm (by show k = xs.length ∨ _; omega) h1 h2 h3)
      by_cases hk1 : k < xs.length
      case' pos =>
        have hkI : (k : Int) < (xs.length : Int) := by omega
        have hkd : decide (k < xs.length) = true := decide_eq_true hk1
        have hmI : ¬ (m : Int) ≤ (1048576 : Int) := by omega
        have hmd : decide (m ≤ 1048576) = false := decide_eq_false (by omega)
      case' neg =>
        have hkI : (xs.length : Int) ≤ (k : Int) := by omega
        have hkd : decide (k < xs.length) = false := decide_eq_false hk1
      all_goals
        (clear hc
         go_wp2_with (at_builtin; refine wpList_appL rfl _ _ rfl w.heap.size ab cb (L0 ++ numsW (xs.take k)) m rfl HO.out.1 (⟨#[59, 10]⟩ : ByteArray) rfl (by show m + 2 ≤ _; omega) hszr ?_)
         intro a5 c5 w5 hown5 hk5
         have HN5 := Lib.hid (New.keeps HNW.out.1 hk5 (fun i hi hx => by have := (own_of_blk HO.out.1 hx).1; omega))
         go_wp2_with fail
         (try go_ret)
         refine HF.out a5 c5 _ _ rfl ?_ HN5.out
         (try simp only [List.append_assoc] at hown5 ⊢)
         exact hown5)
set_option maxRecDepth 100000 in
set_option maxHeartbeats 8000000 in
theorem rline_edge1 (w : World) (name tag : ByteArray) (sa : Option Addr) (sc : Nat) (xs : List Int) (fn : ByteArray) (fp fa : Int) (tn : ByteArray) (tp ta at_ : Int) (hx : SlAt w sa (Is xs)) (hr : rightB (⟨2, name, tag, sa, sc, xs, fn, fp, fa, tn, tp, ta, at_⟩ : SIt) = true) (hd : IBnd (⟨2, name, tag, sa, sc, xs, fn, fp, fa, tn, tp, ta, at_⟩ : SIt)) (hxs : xs ≠ []) :
    Calls Tryd.prog 47 #[.agg (itA (⟨2, name, tag, sa, sc, xs, fn, fp, fa, tn, tp, ta, at_⟩ : SIt))] w (RLine w (⟨2, name, tag, sa, sc, xs, fn, fp, fa, tn, tp, ta, at_⟩ : SIt)) := by
  have nb : New w (w.alloc (.cells #[.int .u8 2, .string name, .string tag, .slice sa xs.length sc, .string fn, I fp, I fa, .string tn, I tp, I ta, I at_] ItT)) := (New.refl w).alloc _
  have hbk : (w.alloc (.cells #[.int .u8 2, .string name, .string tag, .slice sa xs.length sc, .string fn, I fp, I fa, .string tn, I tp, I ta, I at_] ItT)).heap[w.heap.size]? = some (.cells #[.int .u8 2, .string name, .string tag, .slice sa xs.length sc, .string fn, I fp, I fa, .string tn, I tp, I ta, I at_] ItT (0, 0)) := heap_alloc_new w _
  obtain ⟨⟨c0, c1, c2, c3, c4, c5, c6, c7, c8, c9, c10⟩, -, hX⟩ := it_get hbk
  have HBK := Lib.hid hbk
  have HX := Lib.hid hx
  have HD := Lib.hid hd
  have HN := Lib.hid nb
  obtain ⟨fp0, fp1⟩ := hd.p0
  obtain ⟨tp0, tp1⟩ := hd.p1
  have hln := hd.ln
  simp only at fp0 fp1 tp0 tp1 hln
  obtain ⟨PO, hPO⟩ : ∃ PO : Ending → World → Prop, PO = RLine w (⟨2, name, tag, sa, sc, xs, fn, fp, fa, tn, tp, ta, at_⟩ : SIt) := ⟨_, rfl⟩
  rw [← hPO]
  have HPO := Lib.hid hPO
  replace hr : (emptyB name && emptyB tag && nameB fn && nameB tn) = true := hr
  simp only [Bool.and_eq_true] at hr
  have hhd : headW (⟨2, name, tag, sa, sc, xs, fn, fp, fa, tn, tp, ta, at_⟩ : SIt) = [32, 32, 101, 100, 103, 101, 32] ++ placeW fn fp ++ [32, 45, 62, 32] ++ placeW tn tp ++ (if xs = [] then [] else [32, 119, 105, 116, 104]) := rfl
  clear hbk hx hd hPO
  obtain ⟨⟨⟨-, -⟩, hf⟩, ho⟩ := hr
  have f16 := nameB_size hf
  have t16 := nameB_size ho
  rw [if_neg hxs] at hhd
  have hxl : (0 : Int) < (xs.length : Int) := by have := List.length_pos_iff.2 hxs; omega
  have hxd : decide (0 < xs.length) = true := by exact decide_eq_true (List.length_pos_iff.2 hxs)
  clear hf ho hxs
  have hfc := fun W => rat_any W fn fp fa (by omega) ⟨fp0, fp1⟩
  obtain ⟨PF, hPF⟩ : ∃ P : ByteArray, (⟨(placeW fn fp).toArray⟩ : ByteArray) = P := ⟨_, rfl⟩
  have lPF : PF.data.toList = placeW fn fp := by rw [← hPF]
  have zPF : PF.size ≤ 38 := by rw [← toList_len, lPF]; exact placeW_len fn fp f16 fp0 fp1
  rw [hPF] at hfc
  clear hPF
  have htc := fun W => rat_any W tn tp ta (by omega) ⟨tp0, tp1⟩
  obtain ⟨PT, hPT⟩ : ∃ P : ByteArray, (⟨(placeW tn tp).toArray⟩ : ByteArray) = P := ⟨_, rfl⟩
  have lPT : PT.data.toList = placeW tn tp := by rw [← hPT]
  have zPT : PT.size ≤ 38 := by rw [← toList_len, lPT]; exact placeW_len tn tp t16 tp0 tp1
  rw [hPT] at htc
  clear hPT
  obtain ⟨S1, hS1⟩ : ∃ X, (⟨#[32, 32, 101, 100, 103, 101, 32]⟩ : ByteArray) ++ PF = X := ⟨_, rfl⟩
  have hzS1 : S1.size ≤ 45 := by
    have h1 : ((⟨#[32, 32, 101, 100, 103, 101, 32]⟩ : ByteArray)).size ≤ 7 := (by decide)
    have h2 : (PF).size ≤ 38 := zPF
    rw [← hS1, ByteArray.size_append]; omega
  have lS1 : S1.data.toList = ((⟨#[32, 32, 101, 100, 103, 101, 32]⟩ : ByteArray)).data.toList ++ (PF).data.toList := by rw [← hS1, ByteArray.data_append, Array.toList_append]
  have addS1 : ∀ w : World, (Op.stringOp .add ((⟨#[32, 32, 101, 100, 103, 101, 32]⟩ : ByteArray)) (PF)).run Tryd.prog w = .ok (.string S1) w := fun w => by
    have h1 : ((⟨#[32, 32, 101, 100, 103, 101, 32]⟩ : ByteArray)).size ≤ 7 := (by decide)
    have h2 : (PF).size ≤ 38 := zPF
    rw [← hS1]; exact run_string_add_sum w _ _ (by omega)
  clear hS1
  obtain ⟨S2, hS2⟩ : ∃ X, S1 ++ (⟨#[32, 45, 62, 32]⟩ : ByteArray) = X := ⟨_, rfl⟩
  have hzS2 : S2.size ≤ 49 := by
    have h1 : (S1).size ≤ 45 := hzS1
    have h2 : ((⟨#[32, 45, 62, 32]⟩ : ByteArray)).size ≤ 4 := (by decide)
    rw [← hS2, ByteArray.size_append]; omega
  have lS2 : S2.data.toList = (S1).data.toList ++ ((⟨#[32, 45, 62, 32]⟩ : ByteArray)).data.toList := by rw [← hS2, ByteArray.data_append, Array.toList_append]
  have addS2 : ∀ w : World, (Op.stringOp .add (S1) ((⟨#[32, 45, 62, 32]⟩ : ByteArray))).run Tryd.prog w = .ok (.string S2) w := fun w => by
    have h1 : (S1).size ≤ 45 := hzS1
    have h2 : ((⟨#[32, 45, 62, 32]⟩ : ByteArray)).size ≤ 4 := (by decide)
    rw [← hS2]; exact run_string_add_sum w _ _ (by omega)
  clear hS2
  obtain ⟨S3, hS3⟩ : ∃ X, S2 ++ PT = X := ⟨_, rfl⟩
  have hzS3 : S3.size ≤ 87 := by
    have h1 : (S2).size ≤ 49 := hzS2
    have h2 : (PT).size ≤ 38 := zPT
    rw [← hS3, ByteArray.size_append]; omega
  have lS3 : S3.data.toList = (S2).data.toList ++ (PT).data.toList := by rw [← hS3, ByteArray.data_append, Array.toList_append]
  have addS3 : ∀ w : World, (Op.stringOp .add (S2) (PT)).run Tryd.prog w = .ok (.string S3) w := fun w => by
    have h1 : (S2).size ≤ 49 := hzS2
    have h2 : (PT).size ≤ 38 := zPT
    rw [← hS3]; exact run_string_add_sum w _ _ (by omega)
  clear hS3
  have hls : S3.data.toList ++ [32, 119, 105, 116, 104] = headW (⟨2, name, tag, sa, sc, xs, fn, fp, fa, tn, tp, ta, at_⟩ : SIt) := by rw [hhd, lS3, lS2, lS1, lPF, lPT]; (try simp)
  have HLS := Lib.hid hls
  clear hls hhd
  clear lS1 lS2 lS3 lPF lPT
  go_enter Tryd.func47, Tryd.ntmps47
  go_wp2_with fail
  have hS0 : (fun w' : World => w'.cell? ⟨w.heap.size, 1, none⟩ = some (.string name) ∧ w'.cell? ⟨w.heap.size, 2, none⟩ = some (.string tag) ∧ w'.cell? ⟨w.heap.size, 3, none⟩ = some (.slice sa xs.length sc) ∧ w'.cell? ⟨w.heap.size, 4, none⟩ = some (.string fn) ∧ w'.cell? ⟨w.heap.size, 5, none⟩ = some (I fp) ∧ w'.cell? ⟨w.heap.size, 6, none⟩ = some (I fa) ∧ w'.cell? ⟨w.heap.size, 7, none⟩ = some (.string tn) ∧ w'.cell? ⟨w.heap.size, 8, none⟩ = some (I tp) ∧ w'.cell? ⟨w.heap.size, 9, none⟩ = some (I ta)) (w.alloc (.cells #[.int .u8 2, .string name, .string tag, .slice sa xs.length sc, .string fn, I fp, I fa, .string tn, I tp, I ta, I at_] ItT)).drew := ⟨New.cell (New.refl (w.alloc (.cells #[.int .u8 2, .string name, .string tag, .slice sa xs.length sc, .string fn, I fp, I fa, .string tn, I tp, I ta, I at_] ItT))).drew c1, New.cell (New.refl (w.alloc (.cells #[.int .u8 2, .string name, .string tag, .slice sa xs.length sc, .string fn, I fp, I fa, .string tn, I tp, I ta, I at_] ItT))).drew c2, New.cell (New.refl (w.alloc (.cells #[.int .u8 2, .string name, .string tag, .slice sa xs.length sc, .string fn, I fp, I fa, .string tn, I tp, I ta, I at_] ItT))).drew c3, New.cell (New.refl (w.alloc (.cells #[.int .u8 2, .string name, .string tag, .slice sa xs.length sc, .string fn, I fp, I fa, .string tn, I tp, I ta, I at_] ItT))).drew c4, New.cell (New.refl (w.alloc (.cells #[.int .u8 2, .string name, .string tag, .slice sa xs.length sc, .string fn, I fp, I fa, .string tn, I tp, I ta, I at_] ItT))).drew c5, New.cell (New.refl (w.alloc (.cells #[.int .u8 2, .string name, .string tag, .slice sa xs.length sc, .string fn, I fp, I fa, .string tn, I tp, I ta, I at_] ItT))).drew c6, New.cell (New.refl (w.alloc (.cells #[.int .u8 2, .string name, .string tag, .slice sa xs.length sc, .string fn, I fp, I fa, .string tn, I tp, I ta, I at_] ItT))).drew c7, New.cell (New.refl (w.alloc (.cells #[.int .u8 2, .string name, .string tag, .slice sa xs.length sc, .string fn, I fp, I fa, .string tn, I tp, I ta, I at_] ItT))).drew c8, New.cell (New.refl (w.alloc (.cells #[.int .u8 2, .string name, .string tag, .slice sa xs.length sc, .string fn, I fp, I fa, .string tn, I tp, I ta, I at_] ItT))).drew c9⟩
  refine wp_region_X (fun w' : World => w'.cell? ⟨w.heap.size, 1, none⟩ = some (.string name) ∧ w'.cell? ⟨w.heap.size, 2, none⟩ = some (.string tag) ∧ w'.cell? ⟨w.heap.size, 3, none⟩ = some (.slice sa xs.length sc) ∧ w'.cell? ⟨w.heap.size, 4, none⟩ = some (.string fn) ∧ w'.cell? ⟨w.heap.size, 5, none⟩ = some (I fp) ∧ w'.cell? ⟨w.heap.size, 6, none⟩ = some (I fa) ∧ w'.cell? ⟨w.heap.size, 7, none⟩ = some (.string tn) ∧ w'.cell? ⟨w.heap.size, 8, none⟩ = some (I tp) ∧ w'.cell? ⟨w.heap.size, 9, none⟩ = some (I ta)) [10, 11] (by kernel_rfl) hS0 ?_
  refine anyX_take 0 (by kernel_rfl) (by kernel_rfl) (by kernel_rfl) (by kernel_rfl) (by kernel_rfl) hS0 ?_
  intro oi ho; simp only [List.getElem?_toArray, List.getElem?_cons_succ, List.getElem?_cons_zero, Option.some.injEq] at ho; subst ho
  refine ⟨?_, fun _ _ _ h => h, Or.inl ⟨by rfl, ?_⟩, ?_⟩; rotate_left 1
  · (intro wS hSw; (try dsimp only at hSw); go_simp; try with_reducible rfl)
  simp only [Act.put, List.setIfInBounds_toArray, List.set_cons_zero, List.set_cons_succ]
  refine anyX_take 1 (by kernel_rfl) (by kernel_rfl) (by kernel_rfl) (by kernel_rfl) (by kernel_rfl) hS0 ?_
  intro oi ho; simp only [List.getElem?_toArray, List.getElem?_cons_succ, List.getElem?_cons_zero, Option.some.injEq] at ho; subst ho
  refine ⟨?_, fun _ _ _ h => h, Or.inl ⟨by rfl, ?_⟩, ?_⟩; rotate_left 1
  · (intro wS hSw; (try dsimp only at hSw); go_simp; try with_reducible rfl)
  simp only [Act.put, List.setIfInBounds_toArray, List.set_cons_zero, List.set_cons_succ]
  refine anyX_take 2 (by kernel_rfl) (by kernel_rfl) (by kernel_rfl) (by kernel_rfl) (by kernel_rfl) hS0 ?_
  intro oi ho; simp only [List.getElem?_toArray, List.getElem?_cons_succ, List.getElem?_cons_zero, Option.some.injEq] at ho; subst ho
  refine ⟨?_, fun _ _ _ h => h, Or.inl ⟨by rfl, ?_⟩, ?_⟩; rotate_left 1
  · (intro wS hSw; (try dsimp only at hSw); go_simp; try with_reducible rfl)
  simp only [Act.put, List.setIfInBounds_toArray, List.set_cons_zero, List.set_cons_succ]
  refine anyX_take 6 (by kernel_rfl) (by kernel_rfl) (by kernel_rfl) (by kernel_rfl) (by kernel_rfl) hS0 ?_
  intro oi ho; simp only [List.getElem?_toArray, List.getElem?_cons_succ, List.getElem?_cons_zero, Option.some.injEq] at ho; subst ho
  refine ⟨?_, fun _ _ _ h => h, Or.inl ⟨by rfl, ?_⟩, ?_⟩; rotate_left 1
  · (intro wS hSw; (try dsimp only at hSw); go_simp; try with_reducible rfl)
  simp only [Act.put, List.setIfInBounds_toArray, List.set_cons_zero, List.set_cons_succ]
  refine anyX_take 7 (by kernel_rfl) (by kernel_rfl) (by kernel_rfl) (by kernel_rfl) (by kernel_rfl) hS0 ?_
  intro oi ho; simp only [List.getElem?_toArray, List.getElem?_cons_succ, List.getElem?_cons_zero, Option.some.injEq] at ho; subst ho
  refine ⟨?_, fun _ _ _ h => h, Or.inl ⟨by rfl, ?_⟩, ?_⟩; rotate_left 1
  · (intro wS hSw; (try dsimp only at hSw); go_simp; try with_reducible rfl)
  simp only [Act.put, List.setIfInBounds_toArray, List.set_cons_zero, List.set_cons_succ]
  refine anyX_one 3 (by kernel_rfl) ?_
  intro oi ho; simp only [List.getElem?_toArray, List.getElem?_cons_succ, List.getElem?_cons_zero, Option.some.injEq] at ho; subst ho; intro K hK
  (try simp only [Act.put, List.setIfInBounds_toArray, List.set_cons_zero, List.set_cons_succ])
  go_simp
  refine (hfc _).mono ?_
  rintro e v1 ⟨rfl, m1⟩
  have kk1 := (New.refl (w.alloc (.cells #[.int .u8 2, .string name, .string tag, .slice sa xs.length sc, .string fn, I fp, I fa, .string tn, I tp, I ta, I at_] ItT))).drew.trans m1
  have hS1 : (fun w' : World => w'.cell? ⟨w.heap.size, 1, none⟩ = some (.string name) ∧ w'.cell? ⟨w.heap.size, 2, none⟩ = some (.string tag) ∧ w'.cell? ⟨w.heap.size, 3, none⟩ = some (.slice sa xs.length sc) ∧ w'.cell? ⟨w.heap.size, 4, none⟩ = some (.string fn) ∧ w'.cell? ⟨w.heap.size, 5, none⟩ = some (I fp) ∧ w'.cell? ⟨w.heap.size, 6, none⟩ = some (I fa) ∧ w'.cell? ⟨w.heap.size, 7, none⟩ = some (.string tn) ∧ w'.cell? ⟨w.heap.size, 8, none⟩ = some (I tp) ∧ w'.cell? ⟨w.heap.size, 9, none⟩ = some (I ta)) v1 := ⟨New.cell kk1 c1, New.cell kk1 c2, New.cell kk1 c3, New.cell kk1 c4, New.cell kk1 c5, New.cell kk1 c6, New.cell kk1 c7, New.cell kk1 c8, New.cell kk1 c9⟩
  refine hK _ _ (fun _ => hS1) ?_
  clear hK K
  refine anyX_take 4 (by kernel_rfl) (by kernel_rfl) (by kernel_rfl) (by kernel_rfl) (by kernel_rfl) hS1 ?_
  intro oi ho; simp only [List.getElem?_toArray, List.getElem?_cons_succ, List.getElem?_cons_zero, Option.some.injEq] at ho; subst ho
  refine ⟨?_, fun _ _ _ h => h, Or.inl ⟨by rfl, ?_⟩, ?_⟩; rotate_left 1
  · (intro wS hSw; (try dsimp only at hSw); go_simp; try with_reducible rfl)
  simp only [Act.put, List.setIfInBounds_toArray, List.set_cons_zero, List.set_cons_succ]
  refine anyX_take 5 (by kernel_rfl) (by kernel_rfl) (by kernel_rfl) (by kernel_rfl) (by kernel_rfl) hS1 ?_
  intro oi ho; simp only [List.getElem?_toArray, List.getElem?_cons_succ, List.getElem?_cons_zero, Option.some.injEq] at ho; subst ho
  refine ⟨?_, fun _ _ _ h => h, Or.inl ⟨by rfl, ?_⟩, ?_⟩; rotate_left 1
  · (intro wS hSw; (try dsimp only at hSw); go_simp; try with_reducible rfl)
  simp only [Act.put, List.setIfInBounds_toArray, List.set_cons_zero, List.set_cons_succ]
  refine anyX_one 8 (by kernel_rfl) ?_
  intro oi ho; simp only [List.getElem?_toArray, List.getElem?_cons_succ, List.getElem?_cons_zero, Option.some.injEq] at ho; subst ho; intro K hK
  (try simp only [Act.put, List.setIfInBounds_toArray, List.set_cons_zero, List.set_cons_succ])
  go_simp
  refine (htc _).mono ?_
  rintro e v2 ⟨rfl, m2⟩
  have kk2 := kk1.trans m2
  have hS2 : (fun w' : World => w'.cell? ⟨w.heap.size, 1, none⟩ = some (.string name) ∧ w'.cell? ⟨w.heap.size, 2, none⟩ = some (.string tag) ∧ w'.cell? ⟨w.heap.size, 3, none⟩ = some (.slice sa xs.length sc) ∧ w'.cell? ⟨w.heap.size, 4, none⟩ = some (.string fn) ∧ w'.cell? ⟨w.heap.size, 5, none⟩ = some (I fp) ∧ w'.cell? ⟨w.heap.size, 6, none⟩ = some (I fa) ∧ w'.cell? ⟨w.heap.size, 7, none⟩ = some (.string tn) ∧ w'.cell? ⟨w.heap.size, 8, none⟩ = some (I tp) ∧ w'.cell? ⟨w.heap.size, 9, none⟩ = some (I ta)) v2 := ⟨New.cell kk2 c1, New.cell kk2 c2, New.cell kk2 c3, New.cell kk2 c4, New.cell kk2 c5, New.cell kk2 c6, New.cell kk2 c7, New.cell kk2 c8, New.cell kk2 c9⟩
  refine hK _ _ (fun _ => hS2) ?_
  clear hK K
  refine anyX_take 9 (by kernel_rfl) (by kernel_rfl) (by kernel_rfl) (by kernel_rfl) (by kernel_rfl) hS2 ?_
  intro oi ho; simp only [List.getElem?_toArray, List.getElem?_cons_succ, List.getElem?_cons_zero, Option.some.injEq] at ho; subst ho
  refine ⟨?_, fun _ _ _ h => h, Or.inl ⟨by rfl, ?_⟩, ?_⟩; rotate_left 1
  · (intro wS hSw; (try dsimp only at hSw); go_simp; try with_reducible rfl)
  simp only [Act.put, List.setIfInBounds_toArray, List.set_cons_zero, List.set_cons_succ]
  have hsz := Nat.le_trans nb.size kk2.size
  refine anyX_one 10 (by kernel_rfl) ?_
  intro oi ho; simp only [List.getElem?_toArray, List.getElem?_cons_succ, List.getElem?_cons_zero, Option.some.injEq] at ho; subst ho; intro K hK
  refine step_appS rfl _ _ rfl w.heap.size none 0 [] 0 rfl (own_nilU v2 _) S3 rfl (by omega) hsz ?_
  intro a1 c1' w1 hown hk
  have N1 := Lib.hid (New.keeps (nb.trans kk2) hk (fun k hk hx => by obtain ⟨y, hy, _⟩ := hx; cases hy))
  have HB1 := Lib.hid (keep_box (own_nilU v2 w.heap.size) hk (Keeps.heap kk2 HBK.out (fun h => h)))
  refine hK _ _ (fun hx => by cases hx) ?_
  clear hK K
  refine anyX_one 11 (by kernel_rfl) ?_
  intro oi ho; simp only [List.getElem?_toArray, List.getElem?_cons_succ, List.getElem?_cons_zero, Option.some.injEq] at ho; subst ho; intro K hK
  (try simp only [Act.put, List.setIfInBounds_toArray, List.set_cons_zero, List.set_cons_succ])
  go_simp
  refine hK _ _ (fun hx => by cases hx) ?_
  clear hK K
  refine anyX_done (by kernel_rfl) ?_
  (try simp only [Act.put, List.setIfInBounds_toArray, List.set_cons_zero, List.set_cons_succ])
  (try simp only [Exit.then])
  clear hS0 hS1 kk1 m1 hS2 kk2 m2 hk c0 c1 c2 c3 c4 c5 c6 c7 c8 c9 c10 hX
  obtain ⟨⟨c0, c1, c2, c3, c4, c5, c6, c7, c8, c9, c10⟩, -, hX⟩ := it_get HB1.out
  obtain ⟨n0, hn0⟩ : ∃ n, S3.size = n := ⟨_, rfl⟩
  (try simp only [Nat.zero_add, List.nil_append] at hown)
  (try simp only [Nat.zero_add])
  rw [hn0] at hown ⊢
  obtain ⟨L0, hL0⟩ : ∃ L, S3.data.toList = L := ⟨_, rfl⟩
  rw [hL0] at hown
  have hl0 : L0.length = n0 := by rw [← hL0, toList_len]; exact hn0
  have hb0 : n0 ≤ 87 := by omega
  have HOWN := Lib.hid hown
  clear hown hn0
  have hszw : w.heap.size ≤ w1.heap.size := N1.out.size
  go_wp2_with (at_builtin; refine wpList_appL rfl _ _ rfl w.heap.size a1 c1' L0 n0 rfl HOWN.out (⟨#[32, 119, 105, 116, 104]⟩ : ByteArray) rfl (by show n0 + 5 ≤ _; omega) hszw ?_)
  intro a9 c9' w9 hown9 hk9
  have N9 := Lib.hid (New.keeps N1.out hk9 (fun i hi hx => by have := (own_of_blk HOWN.out hx).1; omega))
  have HB9 := Lib.hid (keep_box HOWN.out hk9 HB1.out)
  clear N1 HB1 HOWN c0 c1 c2 c3 c4 c5 c6 c7 c8 c9 c10 hX hk9
  obtain ⟨⟨c0, c1, c2, c3, c4, c5, c6, c7, c8, c9, c10⟩, -, hX⟩ := it_get HB9.out
  have hown8 : OwnU w9 w.heap.size a9 (n0 + 5) c9' (L0 ++ [32, 119, 105, 116, 104]) := by simpa using hown9
  clear hown9
  (try simp only [show (⟨#[32, 119, 105, 116, 104]⟩ : ByteArray).size = 5 from rfl])
  obtain ⟨L9, hL9⟩ : ∃ L, L0 ++ [32, 119, 105, 116, 104] = L := ⟨_, rfl⟩
  obtain ⟨n9, hn9⟩ : ∃ n, n0 + 5 = n := ⟨_, rfl⟩
  rw [hL9, hn9] at hown8
  rw [hn9]
  have HOW9 := Lib.hid hown8
  clear hown8
  have hl9 : L9.length = n9 := by rw [← hL9, List.length_append, hl0, ← hn9]; rfl
  have hLe : L9 = headW (⟨2, name, tag, sa, sc, xs, fn, fp, fa, tn, tp, ta, at_⟩ : SIt) := by rw [← hL9, ← hL0]; exact HLS.out
  have hb9 : n9 ≤ 92 := by omega
  clear hL9 hn9 hL0 hl0 hb0
  have HLE := Lib.hid hLe
  have hnum0 : (L9 ++ numsW (xs.take 0)).length = n9 := by simpa [numsW] using hl9
  have hown9 : OwnU w9 w.heap.size a9 n9 c9' (L9 ++ numsW (xs.take 0)) := by simpa [numsW] using HOW9.out
  have HA := Lib.hid (And.intro hown9 hnum0)
  have HNB := Lib.hid (And.intro N9.out HB9.out)
  clear hown9 hnum0 hLe hl9 HOW9
  go_wp2_with fail
  clear c0 c1 c2 c3 c4 c5 c6 c7 c8 c9 c10 hX hxl hxd
  go_loopw [3, 4] (fun b i wr => ∃ (k m : Nat) (ab : Option Addr) (cb : Nat), k ≤ xs.length ∧ i = .int .i64 k ∧ b = .slice ab m cb ∧ m ≤ 1048700 ∧ Hid (New w wr ∧ wr.heap[w.heap.size]? = some (.cells #[.int .u8 2, .string name, .string tag, .slice sa xs.length sc, .string fn, I fp, I fa, .string tn, I tp, I ta, I at_] ItT (0, 0))) ∧ Hid (OwnU wr w.heap.size ab m cb (L9 ++ numsW (xs.take k)) ∧ (L9 ++ numsW (xs.take k)).length = m)) (fun _ i _ => xs.length - (intOf i).toNat)
  case atStart => exact ⟨0, n9, a9, c9', by omega, rfl, rfl, by omega, HNB, HA⟩
  case round =>
    clear HA hb9
    obtain ⟨k, m, ab, cb, hk, rfl, rfl, hm, HNW, HO⟩ := hrel
    obtain ⟨⟨-, -, -, c3, -, -, -, -, -, -, -⟩, -, hXB⟩ := it_get HNW.out.2
    have hszr : w.heap.size ≤ wr.heap.size := HNW.out.1.size
    by_cases hc : k < xs.length ∧ m ≤ 1048576
    · obtain ⟨hk1, hm2⟩ := hc
      have hkI : (k : Int) < (xs.length : Int) := by omega
      have hkd : decide (k < xs.length) = true := decide_eq_true hk1
      have hmI : (m : Int) ≤ (1048576 : Int) := by omega
      have hmd : decide (m ≤ 1048576) = true := decide_eq_true hm2
      obtain ⟨bb, off, hab, q0⟩ := (HX.out.new HNW.out.1) k (by simpa [Is] using hk1)
      have hv : (Is xs).getD k undef = I xs[k] := by simp [Is, hk1]
      rw [hv] at q0
      have hbw := World.block_lt_of_cell? wr _ q0
      have v01 := HD.out.xs _ (List.getElem_mem hk1)
      have hsucc := numsW_succ xs k hk1
      subst hab
      generalize xs[k] = v at q0 v01 hsucc hv
      have HSU := Lib.hid hsucc
      have hdg := fun W => digits_any W v v01.1 v01.2
      have hSz := itoa_len21 v v01
      obtain ⟨Sv, hSv⟩ : ∃ S, itoaS v = S := ⟨_, rfl⟩
      rw [hSv] at hdg hSz
      have hSl : Sv.data.toList = Lib.itoa v := by rw [← hSv]; rfl
      obtain ⟨Sw, hSw⟩ : ∃ S, (⟨#[32]⟩ : ByteArray) ++ Sv = S := ⟨_, rfl⟩
      have hSwz : Sw.size = 1 + Sv.size := by rw [← hSw, ByteArray.size_append]; rfl
      have hSwl : Sw.data.toList = 32 :: Lib.itoa v := by rw [← hSw, ByteArray.data_append, Array.toList_append, hSl]; rfl
      have hadd : ∀ w : World, (Op.stringOp .add (⟨#[32]⟩ : ByteArray) Sv).run Tryd.prog w = .ok (.string Sw) w := fun w => by rw [← hSw]; exact run_string_add_sum w _ _ (by show 1 + Sv.size ≤ _; omega)
      have HSW := Lib.hid hSwl
      have hsw22 : Sw.size ≤ 22 := by omega
      clear hv hsucc hSv hSl hSw hSwl hSwz hSz
      go_wp2_with fail
      refine (hdg _).mono ?_
      rintro e w2 ⟨rfl, n2⟩
      have HO2 := Lib.hid (n2.owns HO.out.1)
      have hsz2 := Nat.le_trans hszr n2.size
      have HN2 := Lib.hid (And.intro (HNW.out.1.trans n2) (Keeps.heap n2 HNW.out.2 (fun h => h)))
      clear hdg n2 q0 hbw c3 hXB
      go_wp2_with (at_builtin; refine wpList_appL rfl _ _ rfl w.heap.size ab cb (L9 ++ numsW (xs.take k)) m rfl HO2.out Sw rfl ?d1 hsz2 ?_)
      case d1 => omega
      intro a5 c5 w5 hown5 hk5
      have HN5 := Lib.hid (And.intro (New.keeps HN2.out.1 hk5 (fun i hi hx => by have := (own_of_blk HO2.out hx).1; omega)) (keep_box HO2.out hk5 HN2.out.2))
      have hmm : (L9 ++ numsW (xs.take (k + 1))).length = m + Sw.size := by rw [HSU.out, ← List.append_assoc, ← HSW.out, List.length_append, HO.out.2, toList_len]
      have HO5 : Hid (OwnU w5 w.heap.size a5 (m + Sw.size) c5 (L9 ++ numsW (xs.take (k + 1))) ∧ (L9 ++ numsW (xs.take (k + 1))).length = m + Sw.size) := Lib.hid ⟨by rw [HSU.out, ← HSW.out]; (try simp only [List.append_assoc] at hown5 ⊢); exact hown5, hmm⟩
      clear hown5 hk5 hmm
      go_wp2_with fail
      go_roundw
      case rel => exact ⟨k + 1, m + Sw.size, a5, c5, by omega, by go_num, by first | rfl | (congr 1), by omega, HN5, HO5⟩
      case measure => simp [intOf]; omega
    · have HF : Hid (∀ (a : Option Addr) (c n : Nat) (w' : World), m + 2 = n → OwnU w' w.heap.size a n c (L9 ++ numsW (xs.take k) ++ [59, 10]) → New w w' → PO (.returned (.slice a n c)) w') := Lib.hid (fun a c n w' h1 h2 h3 => by
        rw [HPO.out]
        exact rline_end (x := (⟨2, name, tag, sa, sc, xs, fn, fp, fa, tn, tp, ta, at_⟩ : SIt)) HLE.out HO.out.2 hm (by show k = xs.length ∨ _; omega) h1 h2 h3)
      by_cases hk1 : k < xs.length
      case' pos =>
        have hkI : (k : Int) < (xs.length : Int) := by omega
        have hkd : decide (k < xs.length) = true := decide_eq_true hk1
        have hmI : ¬ (m : Int) ≤ (1048576 : Int) := by omega
        have hmd : decide (m ≤ 1048576) = false := decide_eq_false (by omega)
      case' neg =>
        have hkI : (xs.length : Int) ≤ (k : Int) := by omega
        have hkd : decide (k < xs.length) = false := decide_eq_false hk1
      all_goals
        (clear hc
         go_wp2_with (at_builtin; refine wpList_appL rfl _ _ rfl w.heap.size ab cb (L9 ++ numsW (xs.take k)) m rfl HO.out.1 (⟨#[59, 10]⟩ : ByteArray) rfl (by show m + 2 ≤ _; omega) hszr ?_)
         intro a5 c5 w5 hown5 hk5
         have HN5 := Lib.hid (New.keeps HNW.out.1 hk5 (fun i hi hx => by have := (own_of_blk HO.out.1 hx).1; omega))
         go_wp2_with fail
         (try go_ret)
         refine HF.out a5 c5 _ _ rfl ?_ HN5.out
         (try simp only [List.append_assoc] at hown5 ⊢)
         exact hown5)
set_option maxRecDepth 100000 in
set_option maxHeartbeats 8000000 in
theorem rline_in (w : World) (name tag : ByteArray) (sa : Option Addr) (sc : Nat) (xs : List Int) (fn : ByteArray) (fp fa : Int) (tn : ByteArray) (tp ta at_ : Int) (hx : SlAt w sa (Is xs)) (hr : rightB (⟨3, name, tag, sa, sc, xs, fn, fp, fa, tn, tp, ta, at_⟩ : SIt) = true) (hd : IBnd (⟨3, name, tag, sa, sc, xs, fn, fp, fa, tn, tp, ta, at_⟩ : SIt)) :
    Calls Tryd.prog 47 #[.agg (itA (⟨3, name, tag, sa, sc, xs, fn, fp, fa, tn, tp, ta, at_⟩ : SIt))] w (RLine w (⟨3, name, tag, sa, sc, xs, fn, fp, fa, tn, tp, ta, at_⟩ : SIt)) := by
  have nb : New w (w.alloc (.cells #[.int .u8 3, .string name, .string tag, .slice sa xs.length sc, .string fn, I fp, I fa, .string tn, I tp, I ta, I at_] ItT)) := (New.refl w).alloc _
  have hbk : (w.alloc (.cells #[.int .u8 3, .string name, .string tag, .slice sa xs.length sc, .string fn, I fp, I fa, .string tn, I tp, I ta, I at_] ItT)).heap[w.heap.size]? = some (.cells #[.int .u8 3, .string name, .string tag, .slice sa xs.length sc, .string fn, I fp, I fa, .string tn, I tp, I ta, I at_] ItT (0, 0)) := heap_alloc_new w _
  obtain ⟨⟨c0, c1, c2, c3, c4, c5, c6, c7, c8, c9, c10⟩, -, hX⟩ := it_get hbk
  have HBK := Lib.hid hbk
  have HX := Lib.hid hx
  have HD := Lib.hid hd
  have HN := Lib.hid nb
  obtain ⟨fp0, fp1⟩ := hd.p0
  obtain ⟨tp0, tp1⟩ := hd.p1
  have hln := hd.ln
  simp only at fp0 fp1 tp0 tp1 hln
  obtain ⟨PO, hPO⟩ : ∃ PO : Ending → World → Prop, PO = RLine w (⟨3, name, tag, sa, sc, xs, fn, fp, fa, tn, tp, ta, at_⟩ : SIt) := ⟨_, rfl⟩
  rw [← hPO]
  have HPO := Lib.hid hPO
  replace hr : (nameB name && emptyB tag && (xs.length == 0) && bareB fn fp && nameB tn) = true := hr
  simp only [Bool.and_eq_true] at hr
  have hhd : headW (⟨3, name, tag, sa, sc, xs, fn, fp, fa, tn, tp, ta, at_⟩ : SIt) = [32, 32, 105, 110, 32] ++ name.data.toList ++ [32, 45, 62, 32] ++ placeW tn tp := rfl
  clear hbk hx hd hPO
  obtain ⟨⟨⟨⟨hn, -⟩, -⟩, -⟩, ho⟩ := hr
  have n16 := nameB_size hn
  have t16 := nameB_size ho
  clear hn ho
  have htc := fun W => rat_any W tn tp ta (by omega) ⟨tp0, tp1⟩
  obtain ⟨PT, hPT⟩ : ∃ P : ByteArray, (⟨(placeW tn tp).toArray⟩ : ByteArray) = P := ⟨_, rfl⟩
  have lPT : PT.data.toList = placeW tn tp := by rw [← hPT]
  have zPT : PT.size ≤ 38 := by rw [← toList_len, lPT]; exact placeW_len tn tp t16 tp0 tp1
  rw [hPT] at htc
  clear hPT
  obtain ⟨S1, hS1⟩ : ∃ X, (⟨#[32, 32, 105, 110, 32]⟩ : ByteArray) ++ name = X := ⟨_, rfl⟩
  have hzS1 : S1.size ≤ 21 := by
    have h1 : ((⟨#[32, 32, 105, 110, 32]⟩ : ByteArray)).size ≤ 5 := (by decide)
    have h2 : (name).size ≤ 16 := n16
    rw [← hS1, ByteArray.size_append]; omega
  have lS1 : S1.data.toList = ((⟨#[32, 32, 105, 110, 32]⟩ : ByteArray)).data.toList ++ (name).data.toList := by rw [← hS1, ByteArray.data_append, Array.toList_append]
  have addS1 : ∀ w : World, (Op.stringOp .add ((⟨#[32, 32, 105, 110, 32]⟩ : ByteArray)) (name)).run Tryd.prog w = .ok (.string S1) w := fun w => by
    have h1 : ((⟨#[32, 32, 105, 110, 32]⟩ : ByteArray)).size ≤ 5 := (by decide)
    have h2 : (name).size ≤ 16 := n16
    rw [← hS1]; exact run_string_add_sum w _ _ (by omega)
  clear hS1
  obtain ⟨S2, hS2⟩ : ∃ X, S1 ++ (⟨#[32, 45, 62, 32]⟩ : ByteArray) = X := ⟨_, rfl⟩
  have hzS2 : S2.size ≤ 25 := by
    have h1 : (S1).size ≤ 21 := hzS1
    have h2 : ((⟨#[32, 45, 62, 32]⟩ : ByteArray)).size ≤ 4 := (by decide)
    rw [← hS2, ByteArray.size_append]; omega
  have lS2 : S2.data.toList = (S1).data.toList ++ ((⟨#[32, 45, 62, 32]⟩ : ByteArray)).data.toList := by rw [← hS2, ByteArray.data_append, Array.toList_append]
  have addS2 : ∀ w : World, (Op.stringOp .add (S1) ((⟨#[32, 45, 62, 32]⟩ : ByteArray))).run Tryd.prog w = .ok (.string S2) w := fun w => by
    have h1 : (S1).size ≤ 21 := hzS1
    have h2 : ((⟨#[32, 45, 62, 32]⟩ : ByteArray)).size ≤ 4 := (by decide)
    rw [← hS2]; exact run_string_add_sum w _ _ (by omega)
  clear hS2
  obtain ⟨S3, hS3⟩ : ∃ X, S2 ++ PT = X := ⟨_, rfl⟩
  have hzS3 : S3.size ≤ 63 := by
    have h1 : (S2).size ≤ 25 := hzS2
    have h2 : (PT).size ≤ 38 := zPT
    rw [← hS3, ByteArray.size_append]; omega
  have lS3 : S3.data.toList = (S2).data.toList ++ (PT).data.toList := by rw [← hS3, ByteArray.data_append, Array.toList_append]
  have addS3 : ∀ w : World, (Op.stringOp .add (S2) (PT)).run Tryd.prog w = .ok (.string S3) w := fun w => by
    have h1 : (S2).size ≤ 25 := hzS2
    have h2 : (PT).size ≤ 38 := zPT
    rw [← hS3]; exact run_string_add_sum w _ _ (by omega)
  clear hS3
  have hls : S3.data.toList = headW (⟨3, name, tag, sa, sc, xs, fn, fp, fa, tn, tp, ta, at_⟩ : SIt) := by rw [hhd]; rw [lS3, lS2, lS1, lPT]
  have HLS := Lib.hid hls
  clear hls hhd
  clear lS1 lS2 lS3 lPT
  go_enter Tryd.func47, Tryd.ntmps47
  go_wp2_with fail
  have hS0 : (fun w' : World => w'.cell? ⟨w.heap.size, 1, none⟩ = some (.string name) ∧ w'.cell? ⟨w.heap.size, 2, none⟩ = some (.string tag) ∧ w'.cell? ⟨w.heap.size, 3, none⟩ = some (.slice sa xs.length sc) ∧ w'.cell? ⟨w.heap.size, 4, none⟩ = some (.string fn) ∧ w'.cell? ⟨w.heap.size, 5, none⟩ = some (I fp) ∧ w'.cell? ⟨w.heap.size, 6, none⟩ = some (I fa) ∧ w'.cell? ⟨w.heap.size, 7, none⟩ = some (.string tn) ∧ w'.cell? ⟨w.heap.size, 8, none⟩ = some (I tp) ∧ w'.cell? ⟨w.heap.size, 9, none⟩ = some (I ta)) (w.alloc (.cells #[.int .u8 3, .string name, .string tag, .slice sa xs.length sc, .string fn, I fp, I fa, .string tn, I tp, I ta, I at_] ItT)).drew := ⟨New.cell (New.refl (w.alloc (.cells #[.int .u8 3, .string name, .string tag, .slice sa xs.length sc, .string fn, I fp, I fa, .string tn, I tp, I ta, I at_] ItT))).drew c1, New.cell (New.refl (w.alloc (.cells #[.int .u8 3, .string name, .string tag, .slice sa xs.length sc, .string fn, I fp, I fa, .string tn, I tp, I ta, I at_] ItT))).drew c2, New.cell (New.refl (w.alloc (.cells #[.int .u8 3, .string name, .string tag, .slice sa xs.length sc, .string fn, I fp, I fa, .string tn, I tp, I ta, I at_] ItT))).drew c3, New.cell (New.refl (w.alloc (.cells #[.int .u8 3, .string name, .string tag, .slice sa xs.length sc, .string fn, I fp, I fa, .string tn, I tp, I ta, I at_] ItT))).drew c4, New.cell (New.refl (w.alloc (.cells #[.int .u8 3, .string name, .string tag, .slice sa xs.length sc, .string fn, I fp, I fa, .string tn, I tp, I ta, I at_] ItT))).drew c5, New.cell (New.refl (w.alloc (.cells #[.int .u8 3, .string name, .string tag, .slice sa xs.length sc, .string fn, I fp, I fa, .string tn, I tp, I ta, I at_] ItT))).drew c6, New.cell (New.refl (w.alloc (.cells #[.int .u8 3, .string name, .string tag, .slice sa xs.length sc, .string fn, I fp, I fa, .string tn, I tp, I ta, I at_] ItT))).drew c7, New.cell (New.refl (w.alloc (.cells #[.int .u8 3, .string name, .string tag, .slice sa xs.length sc, .string fn, I fp, I fa, .string tn, I tp, I ta, I at_] ItT))).drew c8, New.cell (New.refl (w.alloc (.cells #[.int .u8 3, .string name, .string tag, .slice sa xs.length sc, .string fn, I fp, I fa, .string tn, I tp, I ta, I at_] ItT))).drew c9⟩
  refine wp_region_X (fun w' : World => w'.cell? ⟨w.heap.size, 1, none⟩ = some (.string name) ∧ w'.cell? ⟨w.heap.size, 2, none⟩ = some (.string tag) ∧ w'.cell? ⟨w.heap.size, 3, none⟩ = some (.slice sa xs.length sc) ∧ w'.cell? ⟨w.heap.size, 4, none⟩ = some (.string fn) ∧ w'.cell? ⟨w.heap.size, 5, none⟩ = some (I fp) ∧ w'.cell? ⟨w.heap.size, 6, none⟩ = some (I fa) ∧ w'.cell? ⟨w.heap.size, 7, none⟩ = some (.string tn) ∧ w'.cell? ⟨w.heap.size, 8, none⟩ = some (I tp) ∧ w'.cell? ⟨w.heap.size, 9, none⟩ = some (I ta)) [9, 10] (by kernel_rfl) hS0 ?_
  refine anyX_take 0 (by kernel_rfl) (by kernel_rfl) (by kernel_rfl) (by kernel_rfl) (by kernel_rfl) hS0 ?_
  intro oi ho; simp only [List.getElem?_toArray, List.getElem?_cons_succ, List.getElem?_cons_zero, Option.some.injEq] at ho; subst ho
  refine ⟨?_, fun _ _ _ h => h, Or.inl ⟨by rfl, ?_⟩, ?_⟩; rotate_left 1
  · (intro wS hSw; (try dsimp only at hSw); go_simp; try with_reducible rfl)
  simp only [Act.put, List.setIfInBounds_toArray, List.set_cons_zero, List.set_cons_succ]
  refine anyX_take 1 (by kernel_rfl) (by kernel_rfl) (by kernel_rfl) (by kernel_rfl) (by kernel_rfl) hS0 ?_
  intro oi ho; simp only [List.getElem?_toArray, List.getElem?_cons_succ, List.getElem?_cons_zero, Option.some.injEq] at ho; subst ho
  refine ⟨?_, fun _ _ _ h => h, Or.inl ⟨by rfl, ?_⟩, ?_⟩; rotate_left 1
  · (intro wS hSw; (try dsimp only at hSw); go_simp; try with_reducible rfl)
  simp only [Act.put, List.setIfInBounds_toArray, List.set_cons_zero, List.set_cons_succ]
  refine anyX_take 2 (by kernel_rfl) (by kernel_rfl) (by kernel_rfl) (by kernel_rfl) (by kernel_rfl) hS0 ?_
  intro oi ho; simp only [List.getElem?_toArray, List.getElem?_cons_succ, List.getElem?_cons_zero, Option.some.injEq] at ho; subst ho
  refine ⟨?_, fun _ _ _ h => h, Or.inl ⟨by rfl, ?_⟩, ?_⟩; rotate_left 1
  · (intro wS hSw; (try dsimp only at hSw); go_simp; try with_reducible rfl)
  simp only [Act.put, List.setIfInBounds_toArray, List.set_cons_zero, List.set_cons_succ]
  refine anyX_take 3 (by kernel_rfl) (by kernel_rfl) (by kernel_rfl) (by kernel_rfl) (by kernel_rfl) hS0 ?_
  intro oi ho; simp only [List.getElem?_toArray, List.getElem?_cons_succ, List.getElem?_cons_zero, Option.some.injEq] at ho; subst ho
  refine ⟨?_, fun _ _ _ h => h, Or.inl ⟨by rfl, ?_⟩, ?_⟩; rotate_left 1
  · (intro wS hSw; (try dsimp only at hSw); go_simp; try with_reducible rfl)
  simp only [Act.put, List.setIfInBounds_toArray, List.set_cons_zero, List.set_cons_succ]
  refine anyX_take 4 (by kernel_rfl) (by kernel_rfl) (by kernel_rfl) (by kernel_rfl) (by kernel_rfl) hS0 ?_
  intro oi ho; simp only [List.getElem?_toArray, List.getElem?_cons_succ, List.getElem?_cons_zero, Option.some.injEq] at ho; subst ho
  refine ⟨?_, fun _ _ _ h => h, Or.inl ⟨by rfl, ?_⟩, ?_⟩; rotate_left 1
  · (intro wS hSw; (try dsimp only at hSw); go_simp; try with_reducible rfl)
  simp only [Act.put, List.setIfInBounds_toArray, List.set_cons_zero, List.set_cons_succ]
  refine anyX_take 5 (by kernel_rfl) (by kernel_rfl) (by kernel_rfl) (by kernel_rfl) (by kernel_rfl) hS0 ?_
  intro oi ho; simp only [List.getElem?_toArray, List.getElem?_cons_succ, List.getElem?_cons_zero, Option.some.injEq] at ho; subst ho
  refine ⟨?_, fun _ _ _ h => h, Or.inl ⟨by rfl, ?_⟩, ?_⟩; rotate_left 1
  · (intro wS hSw; (try dsimp only at hSw); go_simp; try with_reducible rfl)
  simp only [Act.put, List.setIfInBounds_toArray, List.set_cons_zero, List.set_cons_succ]
  refine anyX_take 6 (by kernel_rfl) (by kernel_rfl) (by kernel_rfl) (by kernel_rfl) (by kernel_rfl) hS0 ?_
  intro oi ho; simp only [List.getElem?_toArray, List.getElem?_cons_succ, List.getElem?_cons_zero, Option.some.injEq] at ho; subst ho
  refine ⟨?_, fun _ _ _ h => h, Or.inl ⟨by rfl, ?_⟩, ?_⟩; rotate_left 1
  · (intro wS hSw; (try dsimp only at hSw); go_simp; try with_reducible rfl)
  simp only [Act.put, List.setIfInBounds_toArray, List.set_cons_zero, List.set_cons_succ]
  refine anyX_one 7 (by kernel_rfl) ?_
  intro oi ho; simp only [List.getElem?_toArray, List.getElem?_cons_succ, List.getElem?_cons_zero, Option.some.injEq] at ho; subst ho; intro K hK
  (try simp only [Act.put, List.setIfInBounds_toArray, List.set_cons_zero, List.set_cons_succ])
  go_simp
  refine (htc _).mono ?_
  rintro e v1 ⟨rfl, m1⟩
  have kk1 := (New.refl (w.alloc (.cells #[.int .u8 3, .string name, .string tag, .slice sa xs.length sc, .string fn, I fp, I fa, .string tn, I tp, I ta, I at_] ItT))).drew.trans m1
  have hS1 : (fun w' : World => w'.cell? ⟨w.heap.size, 1, none⟩ = some (.string name) ∧ w'.cell? ⟨w.heap.size, 2, none⟩ = some (.string tag) ∧ w'.cell? ⟨w.heap.size, 3, none⟩ = some (.slice sa xs.length sc) ∧ w'.cell? ⟨w.heap.size, 4, none⟩ = some (.string fn) ∧ w'.cell? ⟨w.heap.size, 5, none⟩ = some (I fp) ∧ w'.cell? ⟨w.heap.size, 6, none⟩ = some (I fa) ∧ w'.cell? ⟨w.heap.size, 7, none⟩ = some (.string tn) ∧ w'.cell? ⟨w.heap.size, 8, none⟩ = some (I tp) ∧ w'.cell? ⟨w.heap.size, 9, none⟩ = some (I ta)) v1 := ⟨New.cell kk1 c1, New.cell kk1 c2, New.cell kk1 c3, New.cell kk1 c4, New.cell kk1 c5, New.cell kk1 c6, New.cell kk1 c7, New.cell kk1 c8, New.cell kk1 c9⟩
  refine hK _ _ (fun _ => hS1) ?_
  clear hK K
  refine anyX_take 8 (by kernel_rfl) (by kernel_rfl) (by kernel_rfl) (by kernel_rfl) (by kernel_rfl) hS1 ?_
  intro oi ho; simp only [List.getElem?_toArray, List.getElem?_cons_succ, List.getElem?_cons_zero, Option.some.injEq] at ho; subst ho
  refine ⟨?_, fun _ _ _ h => h, Or.inl ⟨by rfl, ?_⟩, ?_⟩; rotate_left 1
  · (intro wS hSw; (try dsimp only at hSw); go_simp; try with_reducible rfl)
  simp only [Act.put, List.setIfInBounds_toArray, List.set_cons_zero, List.set_cons_succ]
  have hsz := Nat.le_trans nb.size kk1.size
  refine anyX_one 9 (by kernel_rfl) ?_
  intro oi ho; simp only [List.getElem?_toArray, List.getElem?_cons_succ, List.getElem?_cons_zero, Option.some.injEq] at ho; subst ho; intro K hK
  refine step_appS rfl _ _ rfl w.heap.size none 0 [] 0 rfl (own_nilU v1 _) S3 rfl (by omega) hsz ?_
  intro a1 c1' w1 hown hk
  have N1 := Lib.hid (New.keeps (nb.trans kk1) hk (fun k hk hx => by obtain ⟨y, hy, _⟩ := hx; cases hy))
  have HB1 := Lib.hid (keep_box (own_nilU v1 w.heap.size) hk (Keeps.heap kk1 HBK.out (fun h => h)))
  refine hK _ _ (fun hx => by cases hx) ?_
  clear hK K
  refine anyX_one 10 (by kernel_rfl) ?_
  intro oi ho; simp only [List.getElem?_toArray, List.getElem?_cons_succ, List.getElem?_cons_zero, Option.some.injEq] at ho; subst ho; intro K hK
  (try simp only [Act.put, List.setIfInBounds_toArray, List.set_cons_zero, List.set_cons_succ])
  go_simp
  refine hK _ _ (fun hx => by cases hx) ?_
  clear hK K
  refine anyX_done (by kernel_rfl) ?_
  (try simp only [Act.put, List.setIfInBounds_toArray, List.set_cons_zero, List.set_cons_succ])
  (try simp only [Exit.then])
  clear hS0 hS1 kk1 m1 hk c0 c1 c2 c3 c4 c5 c6 c7 c8 c9 c10 hX
  obtain ⟨⟨c0, c1, c2, c3, c4, c5, c6, c7, c8, c9, c10⟩, -, hX⟩ := it_get HB1.out
  obtain ⟨n0, hn0⟩ : ∃ n, S3.size = n := ⟨_, rfl⟩
  (try simp only [Nat.zero_add, List.nil_append] at hown)
  (try simp only [Nat.zero_add])
  rw [hn0] at hown ⊢
  obtain ⟨L0, hL0⟩ : ∃ L, S3.data.toList = L := ⟨_, rfl⟩
  rw [hL0] at hown
  have hl0 : L0.length = n0 := by rw [← hL0, toList_len]; exact hn0
  have hb0 : n0 ≤ 63 := by omega
  have hLe : L0 = headW (⟨3, name, tag, sa, sc, xs, fn, fp, fa, tn, tp, ta, at_⟩ : SIt) := by rw [← hL0]; exact HLS.out
  have HOWN := Lib.hid hown
  clear hown hn0 hL0
  have HLE := Lib.hid hLe
  have hnum0 : (L0 ++ numsW (xs.take 0)).length = n0 := by simpa [numsW] using hl0
  have hown0 : OwnU w1 w.heap.size a1 n0 c1' (L0 ++ numsW (xs.take 0)) := by simpa [numsW] using HOWN.out
  have HA := Lib.hid (And.intro hown0 hnum0)
  have HNB := Lib.hid (And.intro N1.out HB1.out)
  clear hown0 hnum0 hLe hl0 HOWN
  go_wp2_with fail
  clear c0 c1 c2 c3 c4 c5 c6 c7 c8 c9 c10 hX
  go_loopw [3, 4] (fun b i wr => ∃ (k m : Nat) (ab : Option Addr) (cb : Nat), k ≤ xs.length ∧ i = .int .i64 k ∧ b = .slice ab m cb ∧ m ≤ 1048700 ∧ Hid (New w wr ∧ wr.heap[w.heap.size]? = some (.cells #[.int .u8 3, .string name, .string tag, .slice sa xs.length sc, .string fn, I fp, I fa, .string tn, I tp, I ta, I at_] ItT (0, 0))) ∧ Hid (OwnU wr w.heap.size ab m cb (L0 ++ numsW (xs.take k)) ∧ (L0 ++ numsW (xs.take k)).length = m)) (fun _ i _ => xs.length - (intOf i).toNat)
  case atStart => exact ⟨0, n0, a1, c1', by omega, rfl, rfl, by omega, HNB, HA⟩
  case round =>
    clear HA hb0
    obtain ⟨k, m, ab, cb, hk, rfl, rfl, hm, HNW, HO⟩ := hrel
    obtain ⟨⟨-, -, -, c3, -, -, -, -, -, -, -⟩, -, hXB⟩ := it_get HNW.out.2
    have hszr : w.heap.size ≤ wr.heap.size := HNW.out.1.size
    by_cases hc : k < xs.length ∧ m ≤ 1048576
    · obtain ⟨hk1, hm2⟩ := hc
      have hkI : (k : Int) < (xs.length : Int) := by omega
      have hkd : decide (k < xs.length) = true := decide_eq_true hk1
      have hmI : (m : Int) ≤ (1048576 : Int) := by omega
      have hmd : decide (m ≤ 1048576) = true := decide_eq_true hm2
      obtain ⟨bb, off, hab, q0⟩ := (HX.out.new HNW.out.1) k (by simpa [Is] using hk1)
      have hv : (Is xs).getD k undef = I xs[k] := by simp [Is, hk1]
      rw [hv] at q0
      have hbw := World.block_lt_of_cell? wr _ q0
      have v01 := HD.out.xs _ (List.getElem_mem hk1)
      have hsucc := numsW_succ xs k hk1
      subst hab
      generalize xs[k] = v at q0 v01 hsucc hv
      have HSU := Lib.hid hsucc
      have hdg := fun W => digits_any W v v01.1 v01.2
      have hSz := itoa_len21 v v01
      obtain ⟨Sv, hSv⟩ : ∃ S, itoaS v = S := ⟨_, rfl⟩
      rw [hSv] at hdg hSz
      have hSl : Sv.data.toList = Lib.itoa v := by rw [← hSv]; rfl
      obtain ⟨Sw, hSw⟩ : ∃ S, (⟨#[32]⟩ : ByteArray) ++ Sv = S := ⟨_, rfl⟩
      have hSwz : Sw.size = 1 + Sv.size := by rw [← hSw, ByteArray.size_append]; rfl
      have hSwl : Sw.data.toList = 32 :: Lib.itoa v := by rw [← hSw, ByteArray.data_append, Array.toList_append, hSl]; rfl
      have hadd : ∀ w : World, (Op.stringOp .add (⟨#[32]⟩ : ByteArray) Sv).run Tryd.prog w = .ok (.string Sw) w := fun w => by rw [← hSw]; exact run_string_add_sum w _ _ (by show 1 + Sv.size ≤ _; omega)
      have HSW := Lib.hid hSwl
      have hsw22 : Sw.size ≤ 22 := by omega
      clear hv hsucc hSv hSl hSw hSwl hSwz hSz
      go_wp2_with fail
      refine (hdg _).mono ?_
      rintro e w2 ⟨rfl, n2⟩
      have HO2 := Lib.hid (n2.owns HO.out.1)
      have hsz2 := Nat.le_trans hszr n2.size
      have HN2 := Lib.hid (And.intro (HNW.out.1.trans n2) (Keeps.heap n2 HNW.out.2 (fun h => h)))
      clear hdg n2 q0 hbw c3 hXB
      go_wp2_with (at_builtin; refine wpList_appL rfl _ _ rfl w.heap.size ab cb (L0 ++ numsW (xs.take k)) m rfl HO2.out Sw rfl ?d1 hsz2 ?_)
      case d1 => omega
      intro a5 c5 w5 hown5 hk5
      have HN5 := Lib.hid (And.intro (New.keeps HN2.out.1 hk5 (fun i hi hx => by have := (own_of_blk HO2.out hx).1; omega)) (keep_box HO2.out hk5 HN2.out.2))
      have hmm : (L0 ++ numsW (xs.take (k + 1))).length = m + Sw.size := by rw [HSU.out, ← List.append_assoc, ← HSW.out, List.length_append, HO.out.2, toList_len]
      have HO5 : Hid (OwnU w5 w.heap.size a5 (m + Sw.size) c5 (L0 ++ numsW (xs.take (k + 1))) ∧ (L0 ++ numsW (xs.take (k + 1))).length = m + Sw.size) := Lib.hid ⟨by rw [HSU.out, ← HSW.out]; (try simp only [List.append_assoc] at hown5 ⊢); exact hown5, hmm⟩
      clear hown5 hk5 hmm
      go_wp2_with fail
      go_roundw
      case rel => exact ⟨k + 1, m + Sw.size, a5, c5, by omega, by go_num, by first | rfl | (congr 1), by omega, HN5, HO5⟩
      case measure => simp [intOf]; omega
    · have HF : Hid (∀ (a : Option Addr) (c n : Nat) (w' : World), m + 2 = n → OwnU w' w.heap.size a n c (L0 ++ numsW (xs.take k) ++ [59, 10]) → New w w' → PO (.returned (.slice a n c)) w') := Lib.hid (fun a c n w' h1 h2 h3 => by
        rw [HPO.out]
        exact rline_end (x := (⟨3, name, tag, sa, sc, xs, fn, fp, fa, tn, tp, ta, at_⟩ : SIt)) HLE.out HO.out.2 hm (by show k = xs.length ∨ _; omega) h1 h2 h3)
      by_cases hk1 : k < xs.length
      case' pos =>
        have hkI : (k : Int) < (xs.length : Int) := by omega
        have hkd : decide (k < xs.length) = true := decide_eq_true hk1
        have hmI : ¬ (m : Int) ≤ (1048576 : Int) := by omega
        have hmd : decide (m ≤ 1048576) = false := decide_eq_false (by omega)
      case' neg =>
        have hkI : (xs.length : Int) ≤ (k : Int) := by omega
        have hkd : decide (k < xs.length) = false := decide_eq_false hk1
      all_goals
        (clear hc
         go_wp2_with (at_builtin; refine wpList_appL rfl _ _ rfl w.heap.size ab cb (L0 ++ numsW (xs.take k)) m rfl HO.out.1 (⟨#[59, 10]⟩ : ByteArray) rfl (by show m + 2 ≤ _; omega) hszr ?_)
         intro a5 c5 w5 hown5 hk5
         have HN5 := Lib.hid (New.keeps HNW.out.1 hk5 (fun i hi hx => by have := (own_of_blk HO.out.1 hx).1; omega))
         go_wp2_with fail
         (try go_ret)
         refine HF.out a5 c5 _ _ rfl ?_ HN5.out
         (try simp only [List.append_assoc] at hown5 ⊢)
         exact hown5)
set_option maxRecDepth 100000 in
set_option maxHeartbeats 8000000 in
theorem rline_out (w : World) (name tag : ByteArray) (sa : Option Addr) (sc : Nat) (xs : List Int) (fn : ByteArray) (fp fa : Int) (tn : ByteArray) (tp ta at_ : Int) (hx : SlAt w sa (Is xs)) (hr : rightB (⟨4, name, tag, sa, sc, xs, fn, fp, fa, tn, tp, ta, at_⟩ : SIt) = true) (hd : IBnd (⟨4, name, tag, sa, sc, xs, fn, fp, fa, tn, tp, ta, at_⟩ : SIt)) :
    Calls Tryd.prog 47 #[.agg (itA (⟨4, name, tag, sa, sc, xs, fn, fp, fa, tn, tp, ta, at_⟩ : SIt))] w (RLine w (⟨4, name, tag, sa, sc, xs, fn, fp, fa, tn, tp, ta, at_⟩ : SIt)) := by
  have nb : New w (w.alloc (.cells #[.int .u8 4, .string name, .string tag, .slice sa xs.length sc, .string fn, I fp, I fa, .string tn, I tp, I ta, I at_] ItT)) := (New.refl w).alloc _
  have hbk : (w.alloc (.cells #[.int .u8 4, .string name, .string tag, .slice sa xs.length sc, .string fn, I fp, I fa, .string tn, I tp, I ta, I at_] ItT)).heap[w.heap.size]? = some (.cells #[.int .u8 4, .string name, .string tag, .slice sa xs.length sc, .string fn, I fp, I fa, .string tn, I tp, I ta, I at_] ItT (0, 0)) := heap_alloc_new w _
  obtain ⟨⟨c0, c1, c2, c3, c4, c5, c6, c7, c8, c9, c10⟩, -, hX⟩ := it_get hbk
  have HBK := Lib.hid hbk
  have HX := Lib.hid hx
  have HD := Lib.hid hd
  have HN := Lib.hid nb
  obtain ⟨fp0, fp1⟩ := hd.p0
  obtain ⟨tp0, tp1⟩ := hd.p1
  have hln := hd.ln
  simp only at fp0 fp1 tp0 tp1 hln
  obtain ⟨PO, hPO⟩ : ∃ PO : Ending → World → Prop, PO = RLine w (⟨4, name, tag, sa, sc, xs, fn, fp, fa, tn, tp, ta, at_⟩ : SIt) := ⟨_, rfl⟩
  rw [← hPO]
  have HPO := Lib.hid hPO
  replace hr : (nameB name && emptyB tag && (xs.length == 0) && nameB fn && bareB tn tp) = true := hr
  simp only [Bool.and_eq_true] at hr
  have hhd : headW (⟨4, name, tag, sa, sc, xs, fn, fp, fa, tn, tp, ta, at_⟩ : SIt) = [32, 32, 111, 117, 116, 32] ++ placeW fn fp ++ [32, 45, 62, 32] ++ name.data.toList := rfl
  clear hbk hx hd hPO
  obtain ⟨⟨⟨⟨hn, -⟩, -⟩, hf⟩, -⟩ := hr
  have n16 := nameB_size hn
  have f16 := nameB_size hf
  clear hn hf
  have hfc := fun W => rat_any W fn fp fa (by omega) ⟨fp0, fp1⟩
  obtain ⟨PF, hPF⟩ : ∃ P : ByteArray, (⟨(placeW fn fp).toArray⟩ : ByteArray) = P := ⟨_, rfl⟩
  have lPF : PF.data.toList = placeW fn fp := by rw [← hPF]
  have zPF : PF.size ≤ 38 := by rw [← toList_len, lPF]; exact placeW_len fn fp f16 fp0 fp1
  rw [hPF] at hfc
  clear hPF
  obtain ⟨S1, hS1⟩ : ∃ X, (⟨#[32, 32, 111, 117, 116, 32]⟩ : ByteArray) ++ PF = X := ⟨_, rfl⟩
  have hzS1 : S1.size ≤ 44 := by
    have h1 : ((⟨#[32, 32, 111, 117, 116, 32]⟩ : ByteArray)).size ≤ 6 := (by decide)
    have h2 : (PF).size ≤ 38 := zPF
    rw [← hS1, ByteArray.size_append]; omega
  have lS1 : S1.data.toList = ((⟨#[32, 32, 111, 117, 116, 32]⟩ : ByteArray)).data.toList ++ (PF).data.toList := by rw [← hS1, ByteArray.data_append, Array.toList_append]
  have addS1 : ∀ w : World, (Op.stringOp .add ((⟨#[32, 32, 111, 117, 116, 32]⟩ : ByteArray)) (PF)).run Tryd.prog w = .ok (.string S1) w := fun w => by
    have h1 : ((⟨#[32, 32, 111, 117, 116, 32]⟩ : ByteArray)).size ≤ 6 := (by decide)
    have h2 : (PF).size ≤ 38 := zPF
    rw [← hS1]; exact run_string_add_sum w _ _ (by omega)
  clear hS1
  obtain ⟨S2, hS2⟩ : ∃ X, S1 ++ (⟨#[32, 45, 62, 32]⟩ : ByteArray) = X := ⟨_, rfl⟩
  have hzS2 : S2.size ≤ 48 := by
    have h1 : (S1).size ≤ 44 := hzS1
    have h2 : ((⟨#[32, 45, 62, 32]⟩ : ByteArray)).size ≤ 4 := (by decide)
    rw [← hS2, ByteArray.size_append]; omega
  have lS2 : S2.data.toList = (S1).data.toList ++ ((⟨#[32, 45, 62, 32]⟩ : ByteArray)).data.toList := by rw [← hS2, ByteArray.data_append, Array.toList_append]
  have addS2 : ∀ w : World, (Op.stringOp .add (S1) ((⟨#[32, 45, 62, 32]⟩ : ByteArray))).run Tryd.prog w = .ok (.string S2) w := fun w => by
    have h1 : (S1).size ≤ 44 := hzS1
    have h2 : ((⟨#[32, 45, 62, 32]⟩ : ByteArray)).size ≤ 4 := (by decide)
    rw [← hS2]; exact run_string_add_sum w _ _ (by omega)
  clear hS2
  obtain ⟨S3, hS3⟩ : ∃ X, S2 ++ name = X := ⟨_, rfl⟩
  have hzS3 : S3.size ≤ 64 := by
    have h1 : (S2).size ≤ 48 := hzS2
    have h2 : (name).size ≤ 16 := n16
    rw [← hS3, ByteArray.size_append]; omega
  have lS3 : S3.data.toList = (S2).data.toList ++ (name).data.toList := by rw [← hS3, ByteArray.data_append, Array.toList_append]
  have addS3 : ∀ w : World, (Op.stringOp .add (S2) (name)).run Tryd.prog w = .ok (.string S3) w := fun w => by
    have h1 : (S2).size ≤ 48 := hzS2
    have h2 : (name).size ≤ 16 := n16
    rw [← hS3]; exact run_string_add_sum w _ _ (by omega)
  clear hS3
  have hls : S3.data.toList = headW (⟨4, name, tag, sa, sc, xs, fn, fp, fa, tn, tp, ta, at_⟩ : SIt) := by rw [hhd]; rw [lS3, lS2, lS1, lPF]
  have HLS := Lib.hid hls
  clear hls hhd
  clear lS1 lS2 lS3 lPF
  go_enter Tryd.func47, Tryd.ntmps47
  go_wp2_with fail
  have hS0 : (fun w' : World => w'.cell? ⟨w.heap.size, 1, none⟩ = some (.string name) ∧ w'.cell? ⟨w.heap.size, 2, none⟩ = some (.string tag) ∧ w'.cell? ⟨w.heap.size, 3, none⟩ = some (.slice sa xs.length sc) ∧ w'.cell? ⟨w.heap.size, 4, none⟩ = some (.string fn) ∧ w'.cell? ⟨w.heap.size, 5, none⟩ = some (I fp) ∧ w'.cell? ⟨w.heap.size, 6, none⟩ = some (I fa) ∧ w'.cell? ⟨w.heap.size, 7, none⟩ = some (.string tn) ∧ w'.cell? ⟨w.heap.size, 8, none⟩ = some (I tp) ∧ w'.cell? ⟨w.heap.size, 9, none⟩ = some (I ta)) (w.alloc (.cells #[.int .u8 4, .string name, .string tag, .slice sa xs.length sc, .string fn, I fp, I fa, .string tn, I tp, I ta, I at_] ItT)).drew := ⟨New.cell (New.refl (w.alloc (.cells #[.int .u8 4, .string name, .string tag, .slice sa xs.length sc, .string fn, I fp, I fa, .string tn, I tp, I ta, I at_] ItT))).drew c1, New.cell (New.refl (w.alloc (.cells #[.int .u8 4, .string name, .string tag, .slice sa xs.length sc, .string fn, I fp, I fa, .string tn, I tp, I ta, I at_] ItT))).drew c2, New.cell (New.refl (w.alloc (.cells #[.int .u8 4, .string name, .string tag, .slice sa xs.length sc, .string fn, I fp, I fa, .string tn, I tp, I ta, I at_] ItT))).drew c3, New.cell (New.refl (w.alloc (.cells #[.int .u8 4, .string name, .string tag, .slice sa xs.length sc, .string fn, I fp, I fa, .string tn, I tp, I ta, I at_] ItT))).drew c4, New.cell (New.refl (w.alloc (.cells #[.int .u8 4, .string name, .string tag, .slice sa xs.length sc, .string fn, I fp, I fa, .string tn, I tp, I ta, I at_] ItT))).drew c5, New.cell (New.refl (w.alloc (.cells #[.int .u8 4, .string name, .string tag, .slice sa xs.length sc, .string fn, I fp, I fa, .string tn, I tp, I ta, I at_] ItT))).drew c6, New.cell (New.refl (w.alloc (.cells #[.int .u8 4, .string name, .string tag, .slice sa xs.length sc, .string fn, I fp, I fa, .string tn, I tp, I ta, I at_] ItT))).drew c7, New.cell (New.refl (w.alloc (.cells #[.int .u8 4, .string name, .string tag, .slice sa xs.length sc, .string fn, I fp, I fa, .string tn, I tp, I ta, I at_] ItT))).drew c8, New.cell (New.refl (w.alloc (.cells #[.int .u8 4, .string name, .string tag, .slice sa xs.length sc, .string fn, I fp, I fa, .string tn, I tp, I ta, I at_] ItT))).drew c9⟩
  refine wp_region_X (fun w' : World => w'.cell? ⟨w.heap.size, 1, none⟩ = some (.string name) ∧ w'.cell? ⟨w.heap.size, 2, none⟩ = some (.string tag) ∧ w'.cell? ⟨w.heap.size, 3, none⟩ = some (.slice sa xs.length sc) ∧ w'.cell? ⟨w.heap.size, 4, none⟩ = some (.string fn) ∧ w'.cell? ⟨w.heap.size, 5, none⟩ = some (I fp) ∧ w'.cell? ⟨w.heap.size, 6, none⟩ = some (I fa) ∧ w'.cell? ⟨w.heap.size, 7, none⟩ = some (.string tn) ∧ w'.cell? ⟨w.heap.size, 8, none⟩ = some (I tp) ∧ w'.cell? ⟨w.heap.size, 9, none⟩ = some (I ta)) [9, 10] (by kernel_rfl) hS0 ?_
  refine anyX_take 0 (by kernel_rfl) (by kernel_rfl) (by kernel_rfl) (by kernel_rfl) (by kernel_rfl) hS0 ?_
  intro oi ho; simp only [List.getElem?_toArray, List.getElem?_cons_succ, List.getElem?_cons_zero, Option.some.injEq] at ho; subst ho
  refine ⟨?_, fun _ _ _ h => h, Or.inl ⟨by rfl, ?_⟩, ?_⟩; rotate_left 1
  · (intro wS hSw; (try dsimp only at hSw); go_simp; try with_reducible rfl)
  simp only [Act.put, List.setIfInBounds_toArray, List.set_cons_zero, List.set_cons_succ]
  refine anyX_take 1 (by kernel_rfl) (by kernel_rfl) (by kernel_rfl) (by kernel_rfl) (by kernel_rfl) hS0 ?_
  intro oi ho; simp only [List.getElem?_toArray, List.getElem?_cons_succ, List.getElem?_cons_zero, Option.some.injEq] at ho; subst ho
  refine ⟨?_, fun _ _ _ h => h, Or.inl ⟨by rfl, ?_⟩, ?_⟩; rotate_left 1
  · (intro wS hSw; (try dsimp only at hSw); go_simp; try with_reducible rfl)
  simp only [Act.put, List.setIfInBounds_toArray, List.set_cons_zero, List.set_cons_succ]
  refine anyX_take 2 (by kernel_rfl) (by kernel_rfl) (by kernel_rfl) (by kernel_rfl) (by kernel_rfl) hS0 ?_
  intro oi ho; simp only [List.getElem?_toArray, List.getElem?_cons_succ, List.getElem?_cons_zero, Option.some.injEq] at ho; subst ho
  refine ⟨?_, fun _ _ _ h => h, Or.inl ⟨by rfl, ?_⟩, ?_⟩; rotate_left 1
  · (intro wS hSw; (try dsimp only at hSw); go_simp; try with_reducible rfl)
  simp only [Act.put, List.setIfInBounds_toArray, List.set_cons_zero, List.set_cons_succ]
  refine anyX_take 6 (by kernel_rfl) (by kernel_rfl) (by kernel_rfl) (by kernel_rfl) (by kernel_rfl) hS0 ?_
  intro oi ho; simp only [List.getElem?_toArray, List.getElem?_cons_succ, List.getElem?_cons_zero, Option.some.injEq] at ho; subst ho
  refine ⟨?_, fun _ _ _ h => h, Or.inl ⟨by rfl, ?_⟩, ?_⟩; rotate_left 1
  · (intro wS hSw; (try dsimp only at hSw); go_simp; try with_reducible rfl)
  simp only [Act.put, List.setIfInBounds_toArray, List.set_cons_zero, List.set_cons_succ]
  refine anyX_take 7 (by kernel_rfl) (by kernel_rfl) (by kernel_rfl) (by kernel_rfl) (by kernel_rfl) hS0 ?_
  intro oi ho; simp only [List.getElem?_toArray, List.getElem?_cons_succ, List.getElem?_cons_zero, Option.some.injEq] at ho; subst ho
  refine ⟨?_, fun _ _ _ h => h, Or.inl ⟨by rfl, ?_⟩, ?_⟩; rotate_left 1
  · (intro wS hSw; (try dsimp only at hSw); go_simp; try with_reducible rfl)
  simp only [Act.put, List.setIfInBounds_toArray, List.set_cons_zero, List.set_cons_succ]
  refine anyX_one 3 (by kernel_rfl) ?_
  intro oi ho; simp only [List.getElem?_toArray, List.getElem?_cons_succ, List.getElem?_cons_zero, Option.some.injEq] at ho; subst ho; intro K hK
  (try simp only [Act.put, List.setIfInBounds_toArray, List.set_cons_zero, List.set_cons_succ])
  go_simp
  refine (hfc _).mono ?_
  rintro e v1 ⟨rfl, m1⟩
  have kk1 := (New.refl (w.alloc (.cells #[.int .u8 4, .string name, .string tag, .slice sa xs.length sc, .string fn, I fp, I fa, .string tn, I tp, I ta, I at_] ItT))).drew.trans m1
  have hS1 : (fun w' : World => w'.cell? ⟨w.heap.size, 1, none⟩ = some (.string name) ∧ w'.cell? ⟨w.heap.size, 2, none⟩ = some (.string tag) ∧ w'.cell? ⟨w.heap.size, 3, none⟩ = some (.slice sa xs.length sc) ∧ w'.cell? ⟨w.heap.size, 4, none⟩ = some (.string fn) ∧ w'.cell? ⟨w.heap.size, 5, none⟩ = some (I fp) ∧ w'.cell? ⟨w.heap.size, 6, none⟩ = some (I fa) ∧ w'.cell? ⟨w.heap.size, 7, none⟩ = some (.string tn) ∧ w'.cell? ⟨w.heap.size, 8, none⟩ = some (I tp) ∧ w'.cell? ⟨w.heap.size, 9, none⟩ = some (I ta)) v1 := ⟨New.cell kk1 c1, New.cell kk1 c2, New.cell kk1 c3, New.cell kk1 c4, New.cell kk1 c5, New.cell kk1 c6, New.cell kk1 c7, New.cell kk1 c8, New.cell kk1 c9⟩
  refine hK _ _ (fun _ => hS1) ?_
  clear hK K
  refine anyX_take 4 (by kernel_rfl) (by kernel_rfl) (by kernel_rfl) (by kernel_rfl) (by kernel_rfl) hS1 ?_
  intro oi ho; simp only [List.getElem?_toArray, List.getElem?_cons_succ, List.getElem?_cons_zero, Option.some.injEq] at ho; subst ho
  refine ⟨?_, fun _ _ _ h => h, Or.inl ⟨by rfl, ?_⟩, ?_⟩; rotate_left 1
  · (intro wS hSw; (try dsimp only at hSw); go_simp; try with_reducible rfl)
  simp only [Act.put, List.setIfInBounds_toArray, List.set_cons_zero, List.set_cons_succ]
  refine anyX_take 5 (by kernel_rfl) (by kernel_rfl) (by kernel_rfl) (by kernel_rfl) (by kernel_rfl) hS1 ?_
  intro oi ho; simp only [List.getElem?_toArray, List.getElem?_cons_succ, List.getElem?_cons_zero, Option.some.injEq] at ho; subst ho
  refine ⟨?_, fun _ _ _ h => h, Or.inl ⟨by rfl, ?_⟩, ?_⟩; rotate_left 1
  · (intro wS hSw; (try dsimp only at hSw); go_simp; try with_reducible rfl)
  simp only [Act.put, List.setIfInBounds_toArray, List.set_cons_zero, List.set_cons_succ]
  refine anyX_take 8 (by kernel_rfl) (by kernel_rfl) (by kernel_rfl) (by kernel_rfl) (by kernel_rfl) hS1 ?_
  intro oi ho; simp only [List.getElem?_toArray, List.getElem?_cons_succ, List.getElem?_cons_zero, Option.some.injEq] at ho; subst ho
  refine ⟨?_, fun _ _ _ h => h, Or.inl ⟨by rfl, ?_⟩, ?_⟩; rotate_left 1
  · (intro wS hSw; (try dsimp only at hSw); go_simp; try with_reducible rfl)
  simp only [Act.put, List.setIfInBounds_toArray, List.set_cons_zero, List.set_cons_succ]
  have hsz := Nat.le_trans nb.size kk1.size
  refine anyX_one 9 (by kernel_rfl) ?_
  intro oi ho; simp only [List.getElem?_toArray, List.getElem?_cons_succ, List.getElem?_cons_zero, Option.some.injEq] at ho; subst ho; intro K hK
  refine step_appS rfl _ _ rfl w.heap.size none 0 [] 0 rfl (own_nilU v1 _) S3 rfl (by omega) hsz ?_
  intro a1 c1' w1 hown hk
  have N1 := Lib.hid (New.keeps (nb.trans kk1) hk (fun k hk hx => by obtain ⟨y, hy, _⟩ := hx; cases hy))
  have HB1 := Lib.hid (keep_box (own_nilU v1 w.heap.size) hk (Keeps.heap kk1 HBK.out (fun h => h)))
  refine hK _ _ (fun hx => by cases hx) ?_
  clear hK K
  refine anyX_one 10 (by kernel_rfl) ?_
  intro oi ho; simp only [List.getElem?_toArray, List.getElem?_cons_succ, List.getElem?_cons_zero, Option.some.injEq] at ho; subst ho; intro K hK
  (try simp only [Act.put, List.setIfInBounds_toArray, List.set_cons_zero, List.set_cons_succ])
  go_simp
  refine hK _ _ (fun hx => by cases hx) ?_
  clear hK K
  refine anyX_done (by kernel_rfl) ?_
  (try simp only [Act.put, List.setIfInBounds_toArray, List.set_cons_zero, List.set_cons_succ])
  (try simp only [Exit.then])
  clear hS0 hS1 kk1 m1 hk c0 c1 c2 c3 c4 c5 c6 c7 c8 c9 c10 hX
  obtain ⟨⟨c0, c1, c2, c3, c4, c5, c6, c7, c8, c9, c10⟩, -, hX⟩ := it_get HB1.out
  obtain ⟨n0, hn0⟩ : ∃ n, S3.size = n := ⟨_, rfl⟩
  (try simp only [Nat.zero_add, List.nil_append] at hown)
  (try simp only [Nat.zero_add])
  rw [hn0] at hown ⊢
  obtain ⟨L0, hL0⟩ : ∃ L, S3.data.toList = L := ⟨_, rfl⟩
  rw [hL0] at hown
  have hl0 : L0.length = n0 := by rw [← hL0, toList_len]; exact hn0
  have hb0 : n0 ≤ 64 := by omega
  have hLe : L0 = headW (⟨4, name, tag, sa, sc, xs, fn, fp, fa, tn, tp, ta, at_⟩ : SIt) := by rw [← hL0]; exact HLS.out
  have HOWN := Lib.hid hown
  clear hown hn0 hL0
  have HLE := Lib.hid hLe
  have hnum0 : (L0 ++ numsW (xs.take 0)).length = n0 := by simpa [numsW] using hl0
  have hown0 : OwnU w1 w.heap.size a1 n0 c1' (L0 ++ numsW (xs.take 0)) := by simpa [numsW] using HOWN.out
  have HA := Lib.hid (And.intro hown0 hnum0)
  have HNB := Lib.hid (And.intro N1.out HB1.out)
  clear hown0 hnum0 hLe hl0 HOWN
  go_wp2_with fail
  clear c0 c1 c2 c3 c4 c5 c6 c7 c8 c9 c10 hX
  go_loopw [3, 4] (fun b i wr => ∃ (k m : Nat) (ab : Option Addr) (cb : Nat), k ≤ xs.length ∧ i = .int .i64 k ∧ b = .slice ab m cb ∧ m ≤ 1048700 ∧ Hid (New w wr ∧ wr.heap[w.heap.size]? = some (.cells #[.int .u8 4, .string name, .string tag, .slice sa xs.length sc, .string fn, I fp, I fa, .string tn, I tp, I ta, I at_] ItT (0, 0))) ∧ Hid (OwnU wr w.heap.size ab m cb (L0 ++ numsW (xs.take k)) ∧ (L0 ++ numsW (xs.take k)).length = m)) (fun _ i _ => xs.length - (intOf i).toNat)
  case atStart => exact ⟨0, n0, a1, c1', by omega, rfl, rfl, by omega, HNB, HA⟩
  case round =>
    clear HA hb0
    obtain ⟨k, m, ab, cb, hk, rfl, rfl, hm, HNW, HO⟩ := hrel
    obtain ⟨⟨-, -, -, c3, -, -, -, -, -, -, -⟩, -, hXB⟩ := it_get HNW.out.2
    have hszr : w.heap.size ≤ wr.heap.size := HNW.out.1.size
    by_cases hc : k < xs.length ∧ m ≤ 1048576
    · obtain ⟨hk1, hm2⟩ := hc
      have hkI : (k : Int) < (xs.length : Int) := by omega
      have hkd : decide (k < xs.length) = true := decide_eq_true hk1
      have hmI : (m : Int) ≤ (1048576 : Int) := by omega
      have hmd : decide (m ≤ 1048576) = true := decide_eq_true hm2
      obtain ⟨bb, off, hab, q0⟩ := (HX.out.new HNW.out.1) k (by simpa [Is] using hk1)
      have hv : (Is xs).getD k undef = I xs[k] := by simp [Is, hk1]
      rw [hv] at q0
      have hbw := World.block_lt_of_cell? wr _ q0
      have v01 := HD.out.xs _ (List.getElem_mem hk1)
      have hsucc := numsW_succ xs k hk1
      subst hab
      generalize xs[k] = v at q0 v01 hsucc hv
      have HSU := Lib.hid hsucc
      have hdg := fun W => digits_any W v v01.1 v01.2
      have hSz := itoa_len21 v v01
      obtain ⟨Sv, hSv⟩ : ∃ S, itoaS v = S := ⟨_, rfl⟩
      rw [hSv] at hdg hSz
      have hSl : Sv.data.toList = Lib.itoa v := by rw [← hSv]; rfl
      obtain ⟨Sw, hSw⟩ : ∃ S, (⟨#[32]⟩ : ByteArray) ++ Sv = S := ⟨_, rfl⟩
      have hSwz : Sw.size = 1 + Sv.size := by rw [← hSw, ByteArray.size_append]; rfl
      have hSwl : Sw.data.toList = 32 :: Lib.itoa v := by rw [← hSw, ByteArray.data_append, Array.toList_append, hSl]; rfl
      have hadd : ∀ w : World, (Op.stringOp .add (⟨#[32]⟩ : ByteArray) Sv).run Tryd.prog w = .ok (.string Sw) w := fun w => by rw [← hSw]; exact run_string_add_sum w _ _ (by show 1 + Sv.size ≤ _; omega)
      have HSW := Lib.hid hSwl
      have hsw22 : Sw.size ≤ 22 := by omega
      clear hv hsucc hSv hSl hSw hSwl hSwz hSz
      go_wp2_with fail
      refine (hdg _).mono ?_
      rintro e w2 ⟨rfl, n2⟩
      have HO2 := Lib.hid (n2.owns HO.out.1)
      have hsz2 := Nat.le_trans hszr n2.size
      have HN2 := Lib.hid (And.intro (HNW.out.1.trans n2) (Keeps.heap n2 HNW.out.2 (fun h => h)))
      clear hdg n2 q0 hbw c3 hXB
      go_wp2_with (at_builtin; refine wpList_appL rfl _ _ rfl w.heap.size ab cb (L0 ++ numsW (xs.take k)) m rfl HO2.out Sw rfl ?d1 hsz2 ?_)
      case d1 => omega
      intro a5 c5 w5 hown5 hk5
      have HN5 := Lib.hid (And.intro (New.keeps HN2.out.1 hk5 (fun i hi hx => by have := (own_of_blk HO2.out hx).1; omega)) (keep_box HO2.out hk5 HN2.out.2))
      have hmm : (L0 ++ numsW (xs.take (k + 1))).length = m + Sw.size := by rw [HSU.out, ← List.append_assoc, ← HSW.out, List.length_append, HO.out.2, toList_len]
      have HO5 : Hid (OwnU w5 w.heap.size a5 (m + Sw.size) c5 (L0 ++ numsW (xs.take (k + 1))) ∧ (L0 ++ numsW (xs.take (k + 1))).length = m + Sw.size) := Lib.hid ⟨by rw [HSU.out, ← HSW.out]; (try simp only [List.append_assoc] at hown5 ⊢); exact hown5, hmm⟩
      clear hown5 hk5 hmm
      go_wp2_with fail
      go_roundw
      case rel => exact ⟨k + 1, m + Sw.size, a5, c5, by omega, by go_num, by first | rfl | (congr 1), by omega, HN5, HO5⟩
      case measure => simp [intOf]; omega
    · have HF : Hid (∀ (a : Option Addr) (c n : Nat) (w' : World), m + 2 = n → OwnU w' w.heap.size a n c (L0 ++ numsW (xs.take k) ++ [59, 10]) → New w w' → PO (.returned (.slice a n c)) w') := Lib.hid (fun a c n w' h1 h2 h3 => by
        rw [HPO.out]
        exact rline_end (x := (⟨4, name, tag, sa, sc, xs, fn, fp, fa, tn, tp, ta, at_⟩ : SIt)) HLE.out HO.out.2 hm (by show k = xs.length ∨ _; omega) h1 h2 h3)
      by_cases hk1 : k < xs.length
      case' pos =>
        have hkI : (k : Int) < (xs.length : Int) := by omega
        have hkd : decide (k < xs.length) = true := decide_eq_true hk1
        have hmI : ¬ (m : Int) ≤ (1048576 : Int) := by omega
        have hmd : decide (m ≤ 1048576) = false := decide_eq_false (by omega)
      case' neg =>
        have hkI : (xs.length : Int) ≤ (k : Int) := by omega
        have hkd : decide (k < xs.length) = false := decide_eq_false hk1
      all_goals
        (clear hc
         go_wp2_with (at_builtin; refine wpList_appL rfl _ _ rfl w.heap.size ab cb (L0 ++ numsW (xs.take k)) m rfl HO.out.1 (⟨#[59, 10]⟩ : ByteArray) rfl (by show m + 2 ≤ _; omega) hszr ?_)
         intro a5 c5 w5 hown5 hk5
         have HN5 := Lib.hid (New.keeps HNW.out.1 hk5 (fun i hi hx => by have := (own_of_blk HO.out.1 hx).1; omega))
         go_wp2_with fail
         (try go_ret)
         refine HF.out a5 c5 _ _ rfl ?_ HN5.out
         (try simp only [List.append_assoc] at hown5 ⊢)
         exact hown5)
theorem rline_any (w : World) (x : SIt) (hx : SlAt w x.a (Is x.xs)) (hr : rightB x = true) (hd : IBnd x) :
    Calls Tryd.prog 47 #[.agg (itA x)] w (RLine w x) := by
  obtain ⟨kind, name, tag, sa, sc, xs, fn, fp, fa, tn, tp, ta, at_⟩ := x
  have hk : kind = 1 ∨ kind = 2 ∨ kind = 3 ∨ kind = 4 := by
    unfold rightB at hr
    simp only at hr
    split at hr
    · exact .inl (by assumption)
    · split at hr
      · exact .inr (.inl (by assumption))
      · split at hr
        · exact .inr (.inr (.inl (by assumption)))
        · split at hr
          · exact .inr (.inr (.inr (by assumption)))
          · cases hr
  rcases hk with rfl | rfl | rfl | rfl
  · exact rline_actor w name tag sa sc xs fn fp fa tn tp ta at_ hx hr hd
  · by_cases hxs : xs = []
    · exact rline_edge0 w name tag sa sc xs fn fp fa tn tp ta at_ hx hr hd hxs
    · exact rline_edge1 w name tag sa sc xs fn fp fa tn tp ta at_ hx hr hd hxs
  · exact rline_in w name tag sa sc xs fn fp fa tn tp ta at_ hx hr hd
  · exact rline_out w name tag sa sc xs fn fp fa tn tp ta at_ hx hr hd
end Go.Proofs.YtohalcbhckahmaaDoor
namespace Go.Proofs.YtohalcbhckahmaaDoor
open Go Go.RowKit Go.Joins
set_option linter.all false

/-- The text up to an item. -/
def preW (s : Sk) (k : Nat) : List UInt8 := [103, 114, 97, 112, 104, 32] ++ s.name.data.toList ++ [32, 123, 10] ++ (s.items.take k).flatMap lineW
theorem preW_succ (s : Sk) (k : Nat) (h : k < s.items.length) : preW s (k + 1) = preW s k ++ lineW s.items[k] := by
  unfold preW
  rw [List.take_succ_eq_append_getElem h, List.flatMap_append]
  simp
theorem preW_end (s : Sk) : preW s s.items.length ++ [125, 10] = printW s := by
  unfold preW printW
  rw [List.take_length]
theorem preW_le (s : Sk) (k : Nat) : (preW s k).length + 2 ≤ (printW s).length := by
  rw [← preW_end]
  unfold preW
  rw [List.take_length]
  have h : (s.items.flatMap lineW).length = ((s.items.take k).flatMap lineW).length + ((s.items.drop k).flatMap lineW).length := by
    conv => lhs; rw [← List.take_append_drop k s.items]
    rw [List.flatMap_append, List.length_append]
  simp only [List.length_append, List.length_cons, List.length_nil]
  omega
/-- How the document's text stands to the full one. -/
def Cut (L F : List UInt8) (m : Nat) : Prop := L = F ∨ 1048576 < m ∧ 1048576 < F.length
theorem cut_line {Lb F L l : List UInt8} {m n : Nat} (h : Cut Lb F m) (hm : m ≤ 1048576) (hl : L = l ∨ 1048576 < n ∧ 1048576 < l.length) : Cut (Lb ++ L) (F ++ l) (m + n) := by
  rcases h with rfl | ⟨h, _⟩
  · rcases hl with rfl | ⟨h1, h2⟩
    · exact .inl rfl
    · exact .inr ⟨by omega, by rw [List.length_append]; omega⟩
  · omega
theorem cut_end {s : Sk} {Lb : List UInt8} {k m n : Nat} (h : Cut Lb (preW s k) m) (hl : Lb.length = m) (hk : k = s.items.length ∨ 1048576 < m) (hn : m + 2 = n) (hnm : nameB s.name = true) (hr : s.items.all rightB = true) :
    (1048576 < n ∧ printA s = ([], 2)) ∨ (n ≤ 1048576 ∧ printA s = (Lb ++ [125, 10], 0)) := by
  have hle := preW_le s k
  have hend := preW_end s
  by_cases hb : 1048576 < n
  · left
    refine ⟨hb, ?_⟩
    have hp : 1048576 < (printW s).length := by
      rcases h with rfl | ⟨_, h⟩
      · rcases hk with rfl | hk
        · rw [← hend, List.length_append, hl]; simp only [List.length_cons, List.length_nil]; omega
        · omega
      · omega
    unfold printA
    rw [hnm, hr, if_neg (by decide), if_pos hp]
  · right
    refine ⟨by omega, ?_⟩
    rcases h with rfl | ⟨h, _⟩
    · rcases hk with rfl | hk
      · have hp : ¬ 1048576 < (printW s).length := by rw [← hend, List.length_append, hl]; simp only [List.length_cons, List.length_nil]; omega
        unfold printA
        rw [hnm, hr, if_neg (by decide), if_neg hp, hend]
      · omega
    · omega
theorem it_v (x : SIt) : (Value.agg #[.int .u8 x.kind, .string x.name, .string x.tag, .slice x.a x.xs.length x.c, .string x.fn, I x.fp, I x.fa, .string x.tn, I x.tp, I x.ta, I x.at_]) = .agg (itA x) := rfl
set_option maxRecDepth 100000 in
set_option maxHeartbeats 16000000 in
theorem rprint_any (w : World) (s : Sk) (hs : SkAt w s) (hb : SBnd s) :
    Calls Tryd.prog 19 #[s.v] w fun e w' => e = .returned (.tuple #[.string ⟨(printA s).1.toArray⟩, I (printA s).2]) ∧ New w w' := by
  obtain ⟨i0, hi, hz0, hz1, hz2⟩ := info_parts infoByte
  obtain ⟨nm, hnm⟩ : ∃ n, s.name = n := ⟨_, rfl⟩
  obtain ⟨aI, hia⟩ : ∃ n, s.ia = n := ⟨_, rfl⟩
  obtain ⟨il, hil⟩ : ∃ n, s.items.length = n := ⟨_, rfl⟩
  obtain ⟨ic, hic⟩ : ∃ n, s.ic = n := ⟨_, rfl⟩
  have hv0 : s.v = .agg #[.string nm, .slice aI il ic] := by show Value.agg #[.string s.name, .slice s.ia s.items.length s.ic] = _; rw [hnm, hia, hil, hic]
  have hmax := hb.i
  have hnz := hb.n
  rw [hil] at hmax
  rw [hnm] at hnz
  rw [hv0]
  have HNM := Lib.hid hnm
  have HIA := Lib.hid hia
  have HIL := Lib.hid hil
  have HS := Lib.hid hs
  have HB := Lib.hid hb
  obtain ⟨PO, hPO⟩ : ∃ PO : Ending → World → Prop, PO = fun e w' => e = .returned (.tuple #[.string ⟨(printA s).1.toArray⟩, I (printA s).2]) ∧ New w w' := ⟨_, rfl⟩
  rw [← hPO]
  have HPO := Lib.hid hPO
  clear hnm hia hil hic hs hb hv0 hPO
  have nb : New w (w.alloc (.cells #[.string nm, .slice aI il ic] 24)) := (New.refl w).alloc _
  have hbk : (w.alloc (.cells #[.string nm, .slice aI il ic] 24)).heap[w.heap.size]? = some (.cells #[.string nm, .slice aI il ic] 24 (0, 0)) := heap_alloc_new w _
  obtain ⟨c0, c1, -, -, hX⟩ := sk_get hbk
  have hrn := rname_any (w.alloc (.cells #[.string nm, .slice aI il ic] 24)) nm hnz
  have HNB := Lib.hid nb
  have HBK := Lib.hid hbk
  obtain ⟨bn, hbn⟩ : ∃ b, nameB nm = b := ⟨_, rfl⟩
  rw [hbn] at hrn
  have HBN := Lib.hid hbn
  clear nb hbk hbn
  go_enter Tryd.func19, Tryd.ntmps19
  go_wp2_with fail
  refine hrn.mono ?_
  rintro e w1 ⟨rfl, n1⟩
  have HN1 := Lib.hid (And.intro (HNB.out.trans n1) (Keeps.heap n1 HBK.out (fun h => h)))
  clear c0 c1 hX hrn n1 HNB HBK
  cases bn with
  | false =>
    have hpa : printA s = ([], 1) := by unfold printA; rw [HNM.out, HBN.out, if_pos (by simp)]
    have HPA := Lib.hid hpa
    clear hpa
    go_wp2_with fail
    (try go_ret)
    rw [HPO.out, HPA.out]
    exact ⟨rfl, HN1.out.1⟩
  | true =>
    go_wp2_with fail
    go_loopw [4] (fun i wr => ∃ k : Nat, k ≤ il ∧ i = .int .i64 k ∧ Hid (New w wr ∧ wr.heap[w.heap.size]? = some (.cells #[.string nm, .slice aI il ic] 24 (0, 0))) ∧ Hid ((s.items.take k).all rightB = true)) (fun i _ => il - (intOf i).toNat)
    case atStart => exact ⟨0, by omega, rfl, HN1, Lib.hid rfl⟩
    case round =>
      clear HN1
      obtain ⟨k, hk, rfl, HN, HA⟩ := hrel
      obtain ⟨c0, c1, -, -, hX⟩ := sk_get HN.out.2
      by_cases hk1 : k < il
      · have hkl : k < s.items.length := by rw [HIL.out]; exact hk1
        have hkI : (k : Int) < (il : Int) := by omega
        have hkd : decide (k < il) = true := decide_eq_true hk1
        obtain ⟨b, off, hab, q0, q1, q2, q3, q4, q5, q6, q7, q8, q9, q10⟩ := items_row (HS.out.new HN.out.1).sl hkl
        have hbw := World.block_lt_of_cell? wr _ q0
        obtain rfl : aI = some ⟨b, off, none⟩ := HIA.out.symm.trans hab
        have hsz := HB.out.sz _ (List.getElem_mem hkl)
        have hbd := HB.out.bd _ (List.getElem_mem hkl)
        have hat : ∀ r, rightB s.items[k] = r → r = true → (s.items.take (k + 1)).all rightB = true := fun r h1 h2 => all_take HA.out hkl (h1.trans h2)
        have hant : ∀ r, rightB s.items[k] = r → r = false → s.items.all rightB = false := fun r h1 h2 => all_not hkl (h1.trans h2)
        have hri := fun W => rright_any W s.items[k] hsz hbd.ln
        have HAT := Lib.hid hat
        have HANT := Lib.hid hant
        clear hab hat hant
        obtain ⟨x, hx⟩ : ∃ x, s.items[k] = x := ⟨_, rfl⟩
        rw [hx] at q0 q1 q2 q3 q4 q5 q6 q7 q8 q9 q10 hsz hbd hri HAT HANT
        obtain ⟨r, hr⟩ : ∃ r, rightB x = r := ⟨_, rfl⟩
        rw [hr] at hri
        simp only [itA] at hri
        have HR := Lib.hid hr
        clear hx hr hsz hbd
        go_wp2_with fail
        refine (hri _).mono ?_
        rintro e w2 ⟨rfl, n2⟩
        have HN2 := Lib.hid (And.intro (HN.out.1.trans n2) (Keeps.heap n2 HN.out.2 (fun h => h)))
        clear c0 c1 hX q0 q1 q2 q3 q4 q5 q6 q7 q8 q9 q10 hbw n2 hri
        cases r with
        | true =>
          have HA2 := Lib.hid (HAT.out true HR.out rfl)
          go_wp2_with fail
          go_roundw
          case rel => exact ⟨k + 1, by omega, by go_num, HN2, HA2⟩
          case measure => simp [intOf]; omega
        | false =>
          have hpa : printA s = ([], 1) := by unfold printA; rw [HANT.out false HR.out rfl, if_pos (by simp)]
          have HPA := Lib.hid hpa
          clear hpa
          go_wp2_with fail
          (try go_ret)
          rw [HPO.out, HPA.out]
          exact ⟨rfl, HN2.out.1⟩
      · obtain rfl : k = il := by omega
        have hkd : decide (k < k) = false := decide_eq_false hk1
        have hall : s.items.all rightB = true := by have h := HA.out; rw [← HIL.out, List.take_length] at h; exact h
        have HALL := Lib.hid hall
        have n16 := nameB_size HBN.out
        obtain ⟨S1, hS1⟩ : ∃ X, (⟨#[103, 114, 97, 112, 104, 32]⟩ : ByteArray) ++ nm = X := ⟨_, rfl⟩
        obtain ⟨S2, hS2⟩ : ∃ X, S1 ++ (⟨#[32, 123, 10]⟩ : ByteArray) = X := ⟨_, rfl⟩
        have z1 : S1.size = 6 + nm.size := by rw [← hS1, ByteArray.size_append]; rfl
        have z2 : S2.size = S1.size + 3 := by rw [← hS2, ByteArray.size_append]; rfl
        have add1 : ∀ w : World, (Op.stringOp .add (⟨#[103, 114, 97, 112, 104, 32]⟩ : ByteArray) nm).run Tryd.prog w = .ok (.string S1) w := fun w => by rw [← hS1]; exact run_string_add_sum w _ _ (by show 6 + nm.size ≤ _; omega)
        have add2 : ∀ w : World, (Op.stringOp .add S1 (⟨#[32, 123, 10]⟩ : ByteArray)).run Tryd.prog w = .ok (.string S2) w := fun w => by rw [← hS2]; exact run_string_add_sum w _ _ (by show S1.size + 3 ≤ _; omega)
        have hpre : S2.data.toList = preW s 0 := by
          rw [← hS2, ← hS1, ByteArray.data_append, ByteArray.data_append, Array.toList_append, Array.toList_append]
          unfold preW
          rw [HNM.out]; simp
        have hz9 : S2.size ≤ 25 := by omega
        have HPRE := Lib.hid hpre
        have hszr : w.heap.size ≤ wr.heap.size := HN.out.1.size
        clear hall hS1 hS2 z1 z2 hpre HA
        go_wp2_with (at_builtin; refine wpList_appL rfl _ _ rfl w.heap.size none 0 [] 0 rfl (own_nilU wr _) S2 rfl (by omega) hszr ?_)
        intro a1 c1' w1 hown hk1'
        obtain ⟨n0, hn0⟩ : ∃ n, S2.size = n := ⟨_, rfl⟩
        (try simp only [Nat.zero_add, List.nil_append] at hown)
        (try simp only [Nat.zero_add])
        rw [hn0] at hown ⊢
        have HNB := Lib.hid (And.intro (New.keeps HN.out.1 hk1' (fun k hk hx => by obtain ⟨y, hy, _⟩ := hx; cases hy)) (keep_sk (own_nilU wr w.heap.size) hk1' HN.out.2))
        have HO0 := Lib.hid (And.intro hown (And.intro (show S2.data.toList.length = n0 by rw [toList_len]; exact hn0) (show Cut S2.data.toList (preW s 0) n0 from .inl HPRE.out)))
        have hn9 : n0 ≤ 25 := by omega
        clear hown hk1' HN c0 c1 hX add1 add2 hn0 hz9 hkd hk hk1
        obtain ⟨il, rfl⟩ : ∃ z, z = k := ⟨_, rfl⟩
        go_wp2_with fail
        go_loopw [5, 6] (fun b i wr => ∃ (k m : Nat) (ab : Option Addr) (cb : Nat) (Lb : List UInt8), k ≤ il ∧ i = .int .i64 k ∧ b = .slice ab m cb ∧ m ≤ 2200000 ∧ Hid (New w wr ∧ wr.heap[w.heap.size]? = some (.cells #[.string nm, .slice aI il ic] 24 (0, 0))) ∧ Hid (OwnU wr w.heap.size ab m cb Lb ∧ Lb.length = m ∧ Cut Lb (preW s k) m)) (fun _ i _ => il - (intOf i).toNat)
        case atStart => exact ⟨0, n0, a1, c1', _, by omega, rfl, rfl, by omega, HNB, HO0⟩
        case round =>
          clear HNB HO0 hn9
          obtain ⟨k, m, ab, cb, Lb, hk, rfl, rfl, hm, HN, HO⟩ := hrel
          obtain ⟨c0, c1, -, -, hX⟩ := sk_get HN.out.2
          have hszr : w.heap.size ≤ wr.heap.size := HN.out.1.size
          by_cases hc : k < il ∧ m ≤ 1048576
          · obtain ⟨hk1, hm2⟩ := hc
            have hkl : k < s.items.length := by rw [HIL.out]; exact hk1
            have hkI : (k : Int) < (il : Int) := by omega
            have hkd : decide (k < il) = true := decide_eq_true hk1
            have hmI : (m : Int) ≤ (1048576 : Int) := by omega
            have hmd : decide (m ≤ 1048576) = true := decide_eq_true hm2
            obtain ⟨b, off, hab, q0, q1, q2, q3, q4, q5, q6, q7, q8, q9, q10⟩ := items_row (HS.out.new HN.out.1).sl hkl
            have hbw := World.block_lt_of_cell? wr _ q0
            obtain rfl : aI = some ⟨b, off, none⟩ := HIA.out.symm.trans hab
            have hbd := HB.out.bd _ (List.getElem_mem hkl)
            have hrr := List.all_eq_true.1 HALL.out _ (List.getElem_mem hkl)
            have hxs := (HS.out.new HN.out.1).nx _ (List.getElem_mem hkl)
            have hln := rline_any wr s.items[k] hxs hrr hbd
            have hpn := preW_succ s k hkl
            clear hab hbd hrr hxs
            obtain ⟨x, hx⟩ : ∃ x, s.items[k] = x := ⟨_, rfl⟩
            rw [hx] at q0 q1 q2 q3 q4 q5 q6 q7 q8 q9 q10 hln hpn
            simp only [itA] at hln
            have HPN := Lib.hid hpn
            clear hx hpn
            go_wp2_with fail
            refine hln.mono ?_
            rintro e w2 ⟨al, cl, nl, Ll, rfl, hol, hll, halt, hnl, n2⟩
            have HOL := Lib.hid (And.intro hol (And.intro hll halt))
            have HN2 := Lib.hid (And.intro (HN.out.1.trans n2) (Keeps.heap n2 HN.out.2 (fun h => h)))
            have HO2 := Lib.hid (n2.owns HO.out.1)
            have hsz2 := Nat.le_trans hszr n2.size
            clear hol hll halt n2 hln c0 c1 hX q0 q1 q2 q3 q4 q5 q6 q7 q8 q9 q10 hbw
            go_wp2_with (at_builtin; refine wpList_app rfl _ _ 47 rfl w.heap.size 5 i0 _ 1 1 Tryd.underlying47 hi hz0 hz1 hz2 rfl (by decide) ab m cb (bCells Lb) rfl HO2.out al nl cl (bCells Ll) rfl (by rw [← HOL.out.2.1]; unfold bCells; simp) (SlAt.of_owns HOL.out.1) (bCells_one _) (by unfold maxLen; omega) (by omega) hsz2 ?_)
            intro a5 c5 w5 hown5 hk5 _ _
            have HN5 := Lib.hid (And.intro (New.keeps HN2.out.1 hk5 (fun i hi hx => by have := (own_of_blk HO2.out hx).1; omega)) (keep_sk HO2.out hk5 HN2.out.2))
            have HO5 : Hid (OwnU w5 w.heap.size a5 (m + nl) c5 (Lb ++ Ll) ∧ (Lb ++ Ll).length = m + nl ∧ Cut (Lb ++ Ll) (preW s (k + 1)) (m + nl)) := Lib.hid ⟨by unfold OwnU; rw [bCells_app]; exact hown5, by rw [List.length_append, HO.out.2.1, HOL.out.2.1], by rw [HPN.out]; exact cut_line HO.out.2.2 hm2 HOL.out.2.2⟩
            clear hown5 hk5
            go_wp2_with fail
            go_roundw
            case rel => exact ⟨k + 1, m + nl, a5, c5, _, by omega, by go_num, by first | rfl | (congr 1), by omega, HN5, HO5⟩
            case measure => simp [intOf]; omega
          · have hce : ∀ n, m + 2 = n → (1048576 < n ∧ printA s = ([], 2)) ∨ (n ≤ 1048576 ∧ printA s = (Lb ++ [125, 10], 0)) := fun n hn => cut_end HO.out.2.2 HO.out.2.1 (by rw [HIL.out]; omega) hn (by rw [HNM.out]; exact HBN.out) HALL.out
            have HCE := Lib.hid hce
            clear hce
            by_cases hk1 : k < il
            case' pos =>
              have hkI : (k : Int) < (il : Int) := by omega
              have hkd : decide (k < il) = true := decide_eq_true hk1
              have hmI : ¬ (m : Int) ≤ (1048576 : Int) := by omega
              have hmd : decide (m ≤ 1048576) = false := decide_eq_false (by omega)
            case' neg =>
              have hkI : (il : Int) ≤ (k : Int) := by omega
              have hkd : decide (k < il) = false := decide_eq_false hk1
            all_goals
              (clear hc
               go_wp2_with (at_builtin; refine wpList_appL rfl _ _ rfl w.heap.size ab cb Lb m rfl HO.out.1 (⟨#[125, 10]⟩ : ByteArray) rfl (by show m + 2 ≤ _; omega) hszr ?_)
               intro a5 c5 w5 hown5 hk5
               have HN5 := Lib.hid (New.keeps HN.out.1 hk5 (fun i hi hx => by have := (own_of_blk HO.out.1 hx).1; omega))
               have hown6 : OwnU w5 w.heap.size a5 (m + 2) c5 (Lb ++ [125, 10]) := by simpa using hown5
               clear hown5
               (try simp only [show (⟨#[125, 10]⟩ : ByteArray).size = 2 from rfl])
               have hn6 : (Lb ++ [125, 10]).length = m + 2 := by rw [List.length_append, HO.out.2.1]; rfl
               obtain ⟨m6, hm6⟩ : ∃ z, m + 2 = z := ⟨_, rfl⟩
               rw [hm6] at hown6 hn6 ⊢
               obtain ⟨L6, hL6⟩ : ∃ z, Lb ++ [125, 10] = z := ⟨_, rfl⟩
               have hcase := HCE.out m6 hm6
               rw [hL6] at hown6 hn6 hcase
               obtain ⟨X, hX6⟩ : ∃ X : ByteArray, (⟨L6.toArray⟩ : ByteArray) = X := ⟨_, rfl⟩
               have hXl : X.data.toList = L6 := by rw [← hX6]
               have hcv := conv_bytes w5 w.heap.size a5 c5 L6 m6 hn6 hown6 X hXl
               have HX6 := Lib.hid hX6
               clear hm6 hL6 hX6 hXl hown6 hn6 hk5 hkI hkd hk1 c0 c1 hX
               rcases hcase with ⟨h1, h2⟩ | ⟨h1, h2⟩
               · have hd1 : decide (1048576 < m6) = true := decide_eq_true h1
                 have hi1 : (1048576 : Int) < (m6 : Int) := by omega
                 have HPA := Lib.hid h2
                 clear h2
                 go_wp2_with fail
                 (try go_ret)
                 rw [HPO.out, HPA.out]
                 exact ⟨rfl, HN5.out⟩
               · have hd1 : decide (1048576 < m6) = false := decide_eq_false (by omega)
                 have hi1 : ¬ (1048576 : Int) < (m6 : Int) := by omega
                 have HPA := Lib.hid h2
                 clear h2
                 go_wp2_with fail
                 (try go_ret)
                 rw [HPO.out, HPA.out, HX6.out]
                 exact ⟨rfl, HN5.out⟩)
end Go.Proofs.YtohalcbhckahmaaDoor
namespace Go.Proofs.YtohalcbhckahmaaDoor
open Go Go.RowKit Go.Joins
set_option linter.all false

set_option maxRecDepth 100000 in
set_option maxHeartbeats 16000000 in
theorem same_yes (w : World) (p q : Sk) (hp : SkAt w p) (hq : SkAt w q) (h : p.bare = q.bare) (hli : p.items.length ≤ 9223372036854775807) (hlx : ∀ x ∈ p.items, x.xs.length ≤ 9223372036854775807) :
    Calls Tryd.prog 13 #[p.v, q.v] w fun e w' => e = .returned (.bool true) ∧ New w w' := by
  have h1 : p.name = q.name := by have := congrArg Sk.name h; exact this
  have h2 : p.items.map SIt.bare = q.items.map SIt.bare := by have := congrArg Sk.items h; exact this
  clear h
  have l2 := (map_len h2).symm
  have HP := Lib.hid hp
  have HQ := Lib.hid hq
  have HL := Lib.hid hlx
  clear hp hq hlx
  obtain ⟨pn, pa, pc, pits⟩ := p
  obtain ⟨qn, qa, qc, qits⟩ := q
  simp only at h1 h2 l2 hli HL
  subst h1
  simp only [Sk.v, Sk.cs]
  rw [l2]
  have H2 := Lib.hid h2
  have HL2 := Lib.hid l2
  clear h2 l2
  go_enter Tryd.func13, Tryd.ntmps13
  have na : New w (w.alloc (.cells #[.string pn, .slice pa pits.length pc] 24)) := (New.refl w).alloc _
  have ha : (w.alloc (.cells #[.string pn, .slice pa pits.length pc] 24)).heap[w.heap.size]? = some (.cells #[.string pn, .slice pa pits.length pc] 24 (0, 0)) := heap_alloc_new w _
  have sa : (w.alloc (.cells #[.string pn, .slice pa pits.length pc] 24)).heap.size = w.heap.size + 1 := by simp
  have nb : New (w.alloc (.cells #[.string pn, .slice pa pits.length pc] 24)) ((w.alloc (.cells #[.string pn, .slice pa pits.length pc] 24)).alloc (.cells #[.string pn, .slice qa pits.length qc] 24)) := (New.refl _).alloc _
  have hb : ((w.alloc (.cells #[.string pn, .slice pa pits.length pc] 24)).alloc (.cells #[.string pn, .slice qa pits.length qc] 24)).heap[w.heap.size + 1]? = some (.cells #[.string pn, .slice qa pits.length qc] 24 (0, 0)) := by
    have := heap_alloc_new (w.alloc (.cells #[.string pn, .slice pa pits.length pc] 24)) (.cells #[.string pn, .slice qa pits.length qc] 24); rwa [sa] at this
  replace ha := Keeps.heap nb ha (fun h => h)
  have kA := na.trans nb
  clear na nb sa
  go_wp2_with fail
  generalize ((w.alloc (.cells #[.string pn, .slice pa pits.length pc] 24)).alloc (.cells #[.string pn, .slice qa pits.length qc] 24)) = W at kA ha hb ⊢
  have HA := Lib.hid ha
  have HB := Lib.hid hb
  clear ha hb
  obtain ⟨PB, hPB⟩ : ∃ b, w.heap.size = b := ⟨_, rfl⟩
  rw [hPB] at HA HB ⊢
  obtain ⟨QB, hQB⟩ : ∃ b, PB + 1 = b := ⟨_, rfl⟩
  rw [hQB] at HB ⊢
  clear hPB hQB
  go_loopw [5] (fun i wr => ∃ k : Nat, k ≤ pits.length ∧ i = .int .i64 k ∧ New W wr) (fun i _ => pits.length - (intOf i).toNat)
  case atStart => exact ⟨0, by omega, rfl, New.refl _⟩
  case round =>
    obtain ⟨k, hk, rfl, hN⟩ := hrel
    obtain ⟨-, c1, -, -, hCl⟩ := sk_get (Keeps.heap hN HA.out (fun h => h))
    obtain ⟨-, d1, -, -, hDl⟩ := sk_get (Keeps.heap hN HB.out (fun h => h))
    have hNw := kA.trans hN
    by_cases hk1 : k < pits.length
    · have hk2 : k < qits.length := by have := HL2.out; omega
      have hsx : SlAt wr pa (pits.flatMap itCells) := (HP.out.new hNw).sl
      have hsy : SlAt wr qa (qits.flatMap itCells) := (HQ.out.new hNw).sl
      obtain ⟨b1, o1, e1, q0, q1, q2, q3, q4, q5, q6, q7, q8, q9, q10⟩ := items_row hsx hk1
      obtain ⟨b2, o2, e2, p0, p1, p2, p3, p4, p5, p6, p7, p8, p9, p10⟩ := items_row hsy hk2
      have hx := (HP.out.new hNw).nx _ (List.getElem_mem hk1)
      have hy := (HQ.out.new hNw).nx _ (List.getElem_mem hk2)
      have he := map_at H2.out k hk1 hk2
      have hxl := HL.out _ (List.getElem_mem hk1)
      clear hsx hsy
      subst e1 e2
      have hk0 : (k : Int) < (pits.length : Int) := by omega
      have hkd : decide (k < pits.length) = true := decide_eq_true hk1
      generalize pits[k] = x at q0 q1 q2 q3 q4 q5 q6 q7 q8 q9 q10 hx he hxl
      generalize qits[k] = y at p0 p1 p2 p3 p4 p5 p6 p7 p8 p9 p10 hy he
      obtain ⟨kd, nm, tg, xa, xc, xs, fn, fp, fa, tn, tp, ta, at_⟩ := x
      obtain ⟨kd2, nm2, tg2, ya, yc, ys, fn2, fp2, fa2, tn2, tp2, ta2, at2⟩ := y
      simp only [SIt.bare, SIt.mk.injEq, true_and, and_true] at he
      obtain ⟨rfl, rfl, rfl, rfl, rfl, rfl, rfl, rfl, rfl, rfl, rfl⟩ := he
      simp only at q0 q1 q2 q3 q4 q5 q6 q7 q8 q9 q10 p0 p1 p2 p3 p4 p5 p6 p7 p8 p9 p10 hx hy hxl
      have hsm : ∀ W, New wr W → Calls Tryd.prog 36 #[.agg #[.int .u8 kd, .string nm, .string tg, .slice xa xs.length xc, .string fn, I fp, I fa, .string tn, I tp, I ta, I at_], .agg #[.int .u8 kd, .string nm, .string tg, .slice ya xs.length yc, .string fn, I fp, I fa, .string tn, I tp, I ta, I at_]] W fun e w' => e = .returned (.bool true) ∧ New W w' := fun W n => sameItem_raw W kd nm tg xa ya xc yc xs fn fp fa tn tp ta at_ (hx.new n) (hy.new n) hxl
      clear hx hy
      have hB1 := World.block_lt_of_cell? _ _ q0
      have hB2 := World.block_lt_of_cell? _ _ p0
      go_wp2_with fail
      have hS0 : (fun w' : World => w'.cell? ⟨PB, 1, none⟩ = some (.slice (some ⟨b1, o1, none⟩) pits.length pc) ∧ w'.cell? ⟨QB, 1, none⟩ = some (.slice (some ⟨b2, o2, none⟩) pits.length qc) ∧ w'.cell? ⟨b1, o1 + k * 11, none⟩ = some (.int .u8 kd) ∧ w'.cell? ⟨b1, o1 + k * 11 + 1, none⟩ = some (.string nm) ∧ w'.cell? ⟨b1, o1 + k * 11 + 2, none⟩ = some (.string tg) ∧ w'.cell? ⟨b1, o1 + k * 11 + 3, none⟩ = some (.slice xa xs.length xc) ∧ w'.cell? ⟨b1, o1 + k * 11 + 4, none⟩ = some (.string fn) ∧ w'.cell? ⟨b1, o1 + k * 11 + 5, none⟩ = some (I fp) ∧ w'.cell? ⟨b1, o1 + k * 11 + 6, none⟩ = some (I fa) ∧ w'.cell? ⟨b1, o1 + k * 11 + 7, none⟩ = some (.string tn) ∧ w'.cell? ⟨b1, o1 + k * 11 + 8, none⟩ = some (I tp) ∧ w'.cell? ⟨b1, o1 + k * 11 + 9, none⟩ = some (I ta) ∧ w'.cell? ⟨b1, o1 + k * 11 + 10, none⟩ = some (I at_) ∧ w'.cell? ⟨b2, o2 + k * 11, none⟩ = some (.int .u8 kd) ∧ w'.cell? ⟨b2, o2 + k * 11 + 1, none⟩ = some (.string nm) ∧ w'.cell? ⟨b2, o2 + k * 11 + 2, none⟩ = some (.string tg) ∧ w'.cell? ⟨b2, o2 + k * 11 + 3, none⟩ = some (.slice ya xs.length yc) ∧ w'.cell? ⟨b2, o2 + k * 11 + 4, none⟩ = some (.string fn) ∧ w'.cell? ⟨b2, o2 + k * 11 + 5, none⟩ = some (I fp) ∧ w'.cell? ⟨b2, o2 + k * 11 + 6, none⟩ = some (I fa) ∧ w'.cell? ⟨b2, o2 + k * 11 + 7, none⟩ = some (.string tn) ∧ w'.cell? ⟨b2, o2 + k * 11 + 8, none⟩ = some (I tp) ∧ w'.cell? ⟨b2, o2 + k * 11 + 9, none⟩ = some (I ta) ∧ w'.cell? ⟨b2, o2 + k * 11 + 10, none⟩ = some (I at_)) wr.drew := ⟨New.cell (New.refl wr).drew c1, New.cell (New.refl wr).drew d1, New.cell (New.refl wr).drew q0, New.cell (New.refl wr).drew q1, New.cell (New.refl wr).drew q2, New.cell (New.refl wr).drew q3, New.cell (New.refl wr).drew q4, New.cell (New.refl wr).drew q5, New.cell (New.refl wr).drew q6, New.cell (New.refl wr).drew q7, New.cell (New.refl wr).drew q8, New.cell (New.refl wr).drew q9, New.cell (New.refl wr).drew q10, New.cell (New.refl wr).drew p0, New.cell (New.refl wr).drew p1, New.cell (New.refl wr).drew p2, New.cell (New.refl wr).drew p3, New.cell (New.refl wr).drew p4, New.cell (New.refl wr).drew p5, New.cell (New.refl wr).drew p6, New.cell (New.refl wr).drew p7, New.cell (New.refl wr).drew p8, New.cell (New.refl wr).drew p9, New.cell (New.refl wr).drew p10⟩
      refine wp_region_X (fun w' : World => w'.cell? ⟨PB, 1, none⟩ = some (.slice (some ⟨b1, o1, none⟩) pits.length pc) ∧ w'.cell? ⟨QB, 1, none⟩ = some (.slice (some ⟨b2, o2, none⟩) pits.length qc) ∧ w'.cell? ⟨b1, o1 + k * 11, none⟩ = some (.int .u8 kd) ∧ w'.cell? ⟨b1, o1 + k * 11 + 1, none⟩ = some (.string nm) ∧ w'.cell? ⟨b1, o1 + k * 11 + 2, none⟩ = some (.string tg) ∧ w'.cell? ⟨b1, o1 + k * 11 + 3, none⟩ = some (.slice xa xs.length xc) ∧ w'.cell? ⟨b1, o1 + k * 11 + 4, none⟩ = some (.string fn) ∧ w'.cell? ⟨b1, o1 + k * 11 + 5, none⟩ = some (I fp) ∧ w'.cell? ⟨b1, o1 + k * 11 + 6, none⟩ = some (I fa) ∧ w'.cell? ⟨b1, o1 + k * 11 + 7, none⟩ = some (.string tn) ∧ w'.cell? ⟨b1, o1 + k * 11 + 8, none⟩ = some (I tp) ∧ w'.cell? ⟨b1, o1 + k * 11 + 9, none⟩ = some (I ta) ∧ w'.cell? ⟨b1, o1 + k * 11 + 10, none⟩ = some (I at_) ∧ w'.cell? ⟨b2, o2 + k * 11, none⟩ = some (.int .u8 kd) ∧ w'.cell? ⟨b2, o2 + k * 11 + 1, none⟩ = some (.string nm) ∧ w'.cell? ⟨b2, o2 + k * 11 + 2, none⟩ = some (.string tg) ∧ w'.cell? ⟨b2, o2 + k * 11 + 3, none⟩ = some (.slice ya xs.length yc) ∧ w'.cell? ⟨b2, o2 + k * 11 + 4, none⟩ = some (.string fn) ∧ w'.cell? ⟨b2, o2 + k * 11 + 5, none⟩ = some (I fp) ∧ w'.cell? ⟨b2, o2 + k * 11 + 6, none⟩ = some (I fa) ∧ w'.cell? ⟨b2, o2 + k * 11 + 7, none⟩ = some (.string tn) ∧ w'.cell? ⟨b2, o2 + k * 11 + 8, none⟩ = some (I tp) ∧ w'.cell? ⟨b2, o2 + k * 11 + 9, none⟩ = some (I ta) ∧ w'.cell? ⟨b2, o2 + k * 11 + 10, none⟩ = some (I at_)) [] (by kernel_rfl) hS0 ?_
      refine anyX_take 0 (by kernel_rfl) (by kernel_rfl) (by kernel_rfl) (by kernel_rfl) (by kernel_rfl) hS0 ?_
      intro oi ho; simp only [List.getElem?_toArray, List.getElem?_cons_succ, List.getElem?_cons_zero, Option.some.injEq] at ho; subst ho
      refine ⟨?_, fun _ _ _ h => h, Or.inl ⟨by rfl, ?_⟩, ?_⟩; rotate_left 1
      · (intro wS hSw; (try dsimp only at hSw); go_simp; try with_reducible rfl)
      simp only [Act.put, List.setIfInBounds_toArray, List.set_cons_zero, List.set_cons_succ]
      refine anyX_take 1 (by kernel_rfl) (by kernel_rfl) (by kernel_rfl) (by kernel_rfl) (by kernel_rfl) hS0 ?_
      intro oi ho; simp only [List.getElem?_toArray, List.getElem?_cons_succ, List.getElem?_cons_zero, Option.some.injEq] at ho; subst ho
      refine ⟨?_, fun _ _ _ h => h, Or.inl ⟨by rfl, ?_⟩, ?_⟩; rotate_left 1
      · (intro wS hSw; (try dsimp only at hSw); go_simp; try with_reducible rfl)
      simp only [Act.put, List.setIfInBounds_toArray, List.set_cons_zero, List.set_cons_succ]
      refine anyX_take 2 (by kernel_rfl) (by kernel_rfl) (by kernel_rfl) (by kernel_rfl) (by kernel_rfl) hS0 ?_
      intro oi ho; simp only [List.getElem?_toArray, List.getElem?_cons_succ, List.getElem?_cons_zero, Option.some.injEq] at ho; subst ho
      refine ⟨?_, fun _ _ _ h => h, Or.inl ⟨by rfl, ?_⟩, ?_⟩; rotate_left 1
      · (intro wS hSw; (try dsimp only at hSw); go_simp; try with_reducible rfl)
      simp only [Act.put, List.setIfInBounds_toArray, List.set_cons_zero, List.set_cons_succ]
      refine anyX_take 3 (by kernel_rfl) (by kernel_rfl) (by kernel_rfl) (by kernel_rfl) (by kernel_rfl) hS0 ?_
      intro oi ho; simp only [List.getElem?_toArray, List.getElem?_cons_succ, List.getElem?_cons_zero, Option.some.injEq] at ho; subst ho
      refine ⟨?_, fun _ _ _ h => h, Or.inl ⟨by rfl, ?_⟩, ?_⟩; rotate_left 1
      · (intro wS hSw; (try dsimp only at hSw); go_simp; try with_reducible rfl)
      simp only [Act.put, List.setIfInBounds_toArray, List.set_cons_zero, List.set_cons_succ]
      refine anyX_take 4 (by kernel_rfl) (by kernel_rfl) (by kernel_rfl) (by kernel_rfl) (by kernel_rfl) hS0 ?_
      intro oi ho; simp only [List.getElem?_toArray, List.getElem?_cons_succ, List.getElem?_cons_zero, Option.some.injEq] at ho; subst ho
      refine ⟨?_, fun _ _ _ h => h, Or.inl ⟨by rfl, ?_⟩, ?_⟩; rotate_left 1
      · (intro wS hSw; (try dsimp only at hSw); go_simp; try with_reducible rfl)
      simp only [Act.put, List.setIfInBounds_toArray, List.set_cons_zero, List.set_cons_succ]
      refine anyX_take 5 (by kernel_rfl) (by kernel_rfl) (by kernel_rfl) (by kernel_rfl) (by kernel_rfl) hS0 ?_
      intro oi ho; simp only [List.getElem?_toArray, List.getElem?_cons_succ, List.getElem?_cons_zero, Option.some.injEq] at ho; subst ho
      refine ⟨?_, fun _ _ _ h => h, Or.inl ⟨by rfl, ?_⟩, ?_⟩; rotate_left 1
      · (intro wS hSw; (try dsimp only at hSw); go_simp; try with_reducible rfl)
      simp only [Act.put, List.setIfInBounds_toArray, List.set_cons_zero, List.set_cons_succ]
      refine anyX_take 6 (by kernel_rfl) (by kernel_rfl) (by kernel_rfl) (by kernel_rfl) (by kernel_rfl) hS0 ?_
      intro oi ho; simp only [List.getElem?_toArray, List.getElem?_cons_succ, List.getElem?_cons_zero, Option.some.injEq] at ho; subst ho
      refine ⟨?_, fun _ _ _ h => h, Or.inl ⟨by rfl, ?_⟩, ?_⟩; rotate_left 1
      · (intro wS hSw; (try dsimp only at hSw); go_simp; try with_reducible rfl)
      simp only [Act.put, List.setIfInBounds_toArray, List.set_cons_zero, List.set_cons_succ]
      refine anyX_take 7 (by kernel_rfl) (by kernel_rfl) (by kernel_rfl) (by kernel_rfl) (by kernel_rfl) hS0 ?_
      intro oi ho; simp only [List.getElem?_toArray, List.getElem?_cons_succ, List.getElem?_cons_zero, Option.some.injEq] at ho; subst ho
      refine ⟨?_, fun _ _ _ h => h, Or.inl ⟨by rfl, ?_⟩, ?_⟩; rotate_left 1
      · (intro wS hSw; (try dsimp only at hSw); go_simp; try with_reducible rfl)
      simp only [Act.put, List.setIfInBounds_toArray, List.set_cons_zero, List.set_cons_succ]
      refine anyX_take 8 (by kernel_rfl) (by kernel_rfl) (by kernel_rfl) (by kernel_rfl) (by kernel_rfl) hS0 ?_
      intro oi ho; simp only [List.getElem?_toArray, List.getElem?_cons_succ, List.getElem?_cons_zero, Option.some.injEq] at ho; subst ho
      refine ⟨?_, fun _ _ _ h => h, Or.inl ⟨by rfl, ?_⟩, ?_⟩; rotate_left 1
      · (intro wS hSw; (try dsimp only at hSw); go_simp; try with_reducible rfl)
      simp only [Act.put, List.setIfInBounds_toArray, List.set_cons_zero, List.set_cons_succ]
      refine anyX_take 9 (by kernel_rfl) (by kernel_rfl) (by kernel_rfl) (by kernel_rfl) (by kernel_rfl) hS0 ?_
      intro oi ho; simp only [List.getElem?_toArray, List.getElem?_cons_succ, List.getElem?_cons_zero, Option.some.injEq] at ho; subst ho
      refine ⟨?_, fun _ _ _ h => h, Or.inl ⟨by rfl, ?_⟩, ?_⟩; rotate_left 1
      · (intro wS hSw; (try dsimp only at hSw); go_simp; try with_reducible rfl)
      simp only [Act.put, List.setIfInBounds_toArray, List.set_cons_zero, List.set_cons_succ]
      refine anyX_one 10 (by kernel_rfl) ?_
      intro oi ho; simp only [List.getElem?_toArray, List.getElem?_cons_succ, List.getElem?_cons_zero, Option.some.injEq] at ho; subst ho; intro K hK
      (try simp only [Act.put, List.setIfInBounds_toArray, List.set_cons_zero, List.set_cons_succ])
      go_simp
      refine (hsm _ (New.refl wr).drew).mono ?_
      rintro e w5 ⟨rfl, n5'⟩
      have n5 : New wr w5 := (New.refl wr).drew.trans n5'
      clear n5'
      have hw5 : (fun w' : World => w'.cell? ⟨PB, 1, none⟩ = some (.slice (some ⟨b1, o1, none⟩) pits.length pc) ∧ w'.cell? ⟨QB, 1, none⟩ = some (.slice (some ⟨b2, o2, none⟩) pits.length qc) ∧ w'.cell? ⟨b1, o1 + k * 11, none⟩ = some (.int .u8 kd) ∧ w'.cell? ⟨b1, o1 + k * 11 + 1, none⟩ = some (.string nm) ∧ w'.cell? ⟨b1, o1 + k * 11 + 2, none⟩ = some (.string tg) ∧ w'.cell? ⟨b1, o1 + k * 11 + 3, none⟩ = some (.slice xa xs.length xc) ∧ w'.cell? ⟨b1, o1 + k * 11 + 4, none⟩ = some (.string fn) ∧ w'.cell? ⟨b1, o1 + k * 11 + 5, none⟩ = some (I fp) ∧ w'.cell? ⟨b1, o1 + k * 11 + 6, none⟩ = some (I fa) ∧ w'.cell? ⟨b1, o1 + k * 11 + 7, none⟩ = some (.string tn) ∧ w'.cell? ⟨b1, o1 + k * 11 + 8, none⟩ = some (I tp) ∧ w'.cell? ⟨b1, o1 + k * 11 + 9, none⟩ = some (I ta) ∧ w'.cell? ⟨b1, o1 + k * 11 + 10, none⟩ = some (I at_) ∧ w'.cell? ⟨b2, o2 + k * 11, none⟩ = some (.int .u8 kd) ∧ w'.cell? ⟨b2, o2 + k * 11 + 1, none⟩ = some (.string nm) ∧ w'.cell? ⟨b2, o2 + k * 11 + 2, none⟩ = some (.string tg) ∧ w'.cell? ⟨b2, o2 + k * 11 + 3, none⟩ = some (.slice ya xs.length yc) ∧ w'.cell? ⟨b2, o2 + k * 11 + 4, none⟩ = some (.string fn) ∧ w'.cell? ⟨b2, o2 + k * 11 + 5, none⟩ = some (I fp) ∧ w'.cell? ⟨b2, o2 + k * 11 + 6, none⟩ = some (I fa) ∧ w'.cell? ⟨b2, o2 + k * 11 + 7, none⟩ = some (.string tn) ∧ w'.cell? ⟨b2, o2 + k * 11 + 8, none⟩ = some (I tp) ∧ w'.cell? ⟨b2, o2 + k * 11 + 9, none⟩ = some (I ta) ∧ w'.cell? ⟨b2, o2 + k * 11 + 10, none⟩ = some (I at_)) w5 := ⟨New.cell n5 c1, New.cell n5 d1, New.cell n5 q0, New.cell n5 q1, New.cell n5 q2, New.cell n5 q3, New.cell n5 q4, New.cell n5 q5, New.cell n5 q6, New.cell n5 q7, New.cell n5 q8, New.cell n5 q9, New.cell n5 q10, New.cell n5 p0, New.cell n5 p1, New.cell n5 p2, New.cell n5 p3, New.cell n5 p4, New.cell n5 p5, New.cell n5 p6, New.cell n5 p7, New.cell n5 p8, New.cell n5 p9, New.cell n5 p10⟩
      refine hK _ _ (fun _ => hw5) ?_
      clear hK K
      refine anyX_take 11 (by kernel_rfl) (by kernel_rfl) (by kernel_rfl) (by kernel_rfl) (by kernel_rfl) hw5 ?_
      intro oi ho; simp only [List.getElem?_toArray, List.getElem?_cons_succ, List.getElem?_cons_zero, Option.some.injEq] at ho; subst ho
      refine ⟨?_, fun _ _ _ h => h, Or.inl ⟨by rfl, ?_⟩, ?_⟩; rotate_left 1
      · (intro wS hSw; (try dsimp only at hSw); go_simp; try with_reducible rfl)
      simp only [Act.put, List.setIfInBounds_toArray, List.set_cons_zero, List.set_cons_succ]
      refine anyX_done (by kernel_rfl) ?_
      (try simp only [Act.put, List.setIfInBounds_toArray, List.set_cons_zero, List.set_cons_succ])
      have hN3 := hN.trans n5
      clear c1 d1 q0 q1 q2 q3 q4 q5 q6 q7 q8 q9 q10 p0 p1 p2 p3 p4 p5 p6 p7 p8 p9 p10 hsm hS0 hw5 n5
      (try simp only [Exit.then])
      go_wp2_with fail
      go_roundw
      case rel => exact ⟨k + 1, by omega, by go_num, by first | exact hN3 | exact hN3.drew⟩
      case measure => simp [intOf]; omega
    · have hkd : decide (k < pits.length) = false := decide_eq_false hk1
      have hkI : (pits.length : Int) ≤ (k : Int) := by omega
      go_wp2_with fail
      go_ret
      exact ⟨rfl, hNw⟩
theorem mark_row {w : World} {B : Nat} {a : Option Addr} {c : Nat} {l : List SIt} (h : w.ownsRow B 42 11 (.slice a (l.length + 1) c) (l.length + 1) ((l ++ [mkIt]).flatMap itCells)) :
    ∃ b, a = some ⟨b, 0, none⟩ ∧ l.length + 1 ≤ c ∧ w.cell? ⟨b, l.length * 11, none⟩ = some (.int .u8 99) ∧ w.cell? ⟨b, l.length * 11 + 1, none⟩ = some (.string ⟨#[109, 97, 114, 107]⟩) := by
  have hS := SlAt.of_owns h
  rcases h.2 with ⟨h0, -⟩ | ⟨g9, cap, cur, h0, hb, hg, hnc, -⟩
  · simp at h0
  · simp only [Value.slice.injEq] at h0
    obtain ⟨rfl, -, rfl⟩ := h0
    obtain ⟨b, off, e, q0, q1, -⟩ := items_row (i := l.length) hS (by simp)
    cases e
    refine ⟨g9, rfl, hnc, ?_, ?_⟩
    · simpa [mkIt] using q0
    · simpa [mkIt] using q1
set_option maxRecDepth 100000 in
set_option maxHeartbeats 16000000 in
theorem keptS_any (w : World) (B : Nat) (s p : Sk) (hp : LendedS w B s p) (hs : SkAt w s) (hf : SFew s) :
    Calls Tryd.prog 20 #[p.v, s.v] w fun e w' => e = .returned (.bool true) ∧ New w w' := by
  obtain ⟨nm, hnm⟩ : ∃ n, s.name = n := ⟨_, rfl⟩
  obtain ⟨aI, hia⟩ : ∃ n, s.ia = n := ⟨_, rfl⟩
  obtain ⟨il, hil⟩ : ∃ n, s.items.length = n := ⟨_, rfl⟩
  obtain ⟨ic, hic⟩ : ∃ n, s.ic = n := ⟨_, rfl⟩
  obtain ⟨pa, hpa⟩ : ∃ n, p.ia = n := ⟨_, rfl⟩
  obtain ⟨pc, hpc⟩ : ∃ n, p.ic = n := ⟨_, rfl⟩
  have hbi : p.items.map SIt.bare = s.items.map SIt.bare := by have := congrArg Sk.items hp.bare; exact this
  have hpl : p.items.length = il := by rw [map_len hbi, hil]
  have hpn : p.name = nm := by rw [← hnm]; have := congrArg Sk.name hp.bare; exact this
  have hfn := hf.n
  rw [hil] at hfn
  have hmk := mark_row (l := p.items) (a := p.ia) (c := p.ic) (by have h := hp.ow.io; simpa using h)
  obtain ⟨b1, e1, hcap, m0, m1⟩ := hmk
  have hv0 : s.v = .agg #[.string nm, .slice aI il ic] := by show Value.agg #[.string s.name, .slice s.ia s.items.length s.ic] = _; rw [hnm, hia, hil, hic]
  obtain rfl : pa = some ⟨b1, 0, none⟩ := hpa.symm.trans e1
  have hv1 : p.v = .agg #[.string nm, .slice (some ⟨b1, 0, none⟩) il pc] := by show Value.agg #[.string p.name, .slice p.ia p.items.length p.ic] = _; rw [hpn, hpa, hpl, hpc]
  rw [hpl, hpc] at hcap
  rw [hpl] at m0 m1
  have hsm := fun W (n : New w W) => same_yes W p s (hp.at.new n) (hs.new n) hp.bare (by rw [hpl]; omega) (fun x hx => by
    have hm : x.bare ∈ s.items.map SIt.bare := hbi ▸ List.mem_map_of_mem hx
    obtain ⟨y, hy, he⟩ := List.mem_map.1 hm
    have e3 : y.xs = x.xs := by have := congrArg SIt.xs he; exact this
    rw [← e3]; have := hf.ix y hy; omega)
  rw [hv0, hv1] at hsm ⊢
  have HP := Lib.hid hp
  have HS := Lib.hid hs
  have HF := Lib.hid hf.ix
  have HBI := Lib.hid hbi
  have HPL := Lib.hid hpl
  have HIL := Lib.hid hil
  have HIA := Lib.hid hia
  have HPA := Lib.hid hpa
  have HM := Lib.hid (And.intro m0 m1)
  have hcI : (il : Int) + 1 ≤ (pc : Int) := by omega
  clear hp hs hf hbi hpl hil hia hpa hnm hic hpc hpn e1 m0 m1 hv0 hv1
  go_enter Tryd.func20, Tryd.ntmps20
  have na : New w (w.alloc (.cells #[.string nm, .slice (some ⟨b1, 0, none⟩) il pc] 24)) := (New.refl w).alloc _
  have ha : (w.alloc (.cells #[.string nm, .slice (some ⟨b1, 0, none⟩) il pc] 24)).heap[w.heap.size]? = some (.cells #[.string nm, .slice (some ⟨b1, 0, none⟩) il pc] 24 (0, 0)) := heap_alloc_new w _
  have sa : (w.alloc (.cells #[.string nm, .slice (some ⟨b1, 0, none⟩) il pc] 24)).heap.size = w.heap.size + 1 := by simp
  have nb : New (w.alloc (.cells #[.string nm, .slice (some ⟨b1, 0, none⟩) il pc] 24)) ((w.alloc (.cells #[.string nm, .slice (some ⟨b1, 0, none⟩) il pc] 24)).alloc (.cells #[.string nm, .slice aI il ic] 24)) := (New.refl _).alloc _
  have hb : ((w.alloc (.cells #[.string nm, .slice (some ⟨b1, 0, none⟩) il pc] 24)).alloc (.cells #[.string nm, .slice aI il ic] 24)).heap[w.heap.size + 1]? = some (.cells #[.string nm, .slice aI il ic] 24 (0, 0)) := by
    have := heap_alloc_new (w.alloc (.cells #[.string nm, .slice (some ⟨b1, 0, none⟩) il pc] 24)) (.cells #[.string nm, .slice aI il ic] 24); rwa [sa] at this
  replace ha := Keeps.heap nb ha (fun h => h)
  have kA := na.trans nb
  clear na nb sa
  obtain ⟨-, x1, -, -, hx2⟩ := sk_get ha
  obtain ⟨-, y1, -, -, hy2⟩ := sk_get hb
  obtain ⟨x0, -, -, -, -⟩ := sk_get ha
  obtain ⟨y0, -, -, -, -⟩ := sk_get hb
  have HA := Lib.hid ha
  have HB := Lib.hid hb
  have hh1 := hsm _ kA
  have KA := Lib.hid kA
  clear ha hb hsm kA
  go_upto_region 1 with (fail)
  obtain ⟨W, hW⟩ : ∃ W, W = ((w.alloc (.cells #[.string nm, .slice (some ⟨b1, 0, none⟩) il pc] 24)).alloc (.cells #[.string nm, .slice aI il ic] 24)) := ⟨_, rfl⟩
  rw [← hW] at HA HB x0 x1 y0 y1 hx2 hy2 hh1 KA ⊢
  clear hW
  obtain ⟨PB, hPB⟩ : ∃ b, w.heap.size = b := ⟨_, rfl⟩
  rw [hPB] at HA HB x0 x1 y0 y1 hx2 hy2 ⊢
  obtain ⟨QB, hQB⟩ : ∃ b, PB + 1 = b := ⟨_, rfl⟩
  rw [hQB] at HB y0 y1 hy2 ⊢
  clear hPB hQB
  go_wp2_with fail
  refine hh1.mono ?_
  rintro e w2 ⟨rfl, n2⟩
  have N2 := Lib.hid (And.intro (KA.out.trans n2) (And.intro (Keeps.heap n2 HA.out (fun h => h)) (Keeps.heap n2 HB.out (fun h => h))))
  clear x0 x1 y0 y1 hx2 hy2 hh1 n2 HA HB KA
  go_wp2_with fail
  go_loopw [5] (fun i wr => ∃ k : Nat, k ≤ il ∧ i = .int .i64 k ∧ Hid (New w wr ∧ wr.heap[PB]? = some (.cells #[.string nm, .slice (some ⟨b1, 0, none⟩) il pc] 24 (0, 0)) ∧ wr.heap[QB]? = some (.cells #[.string nm, .slice aI il ic] 24 (0, 0)))) (fun i _ => il - (intOf i).toNat)
  case atStart => exact ⟨0, by omega, rfl, N2⟩
  case round =>
    clear N2
    obtain ⟨k, hk, rfl, HN⟩ := hrel
    obtain ⟨-, c1, -, -, hCl⟩ := sk_get HN.out.2.1
    obtain ⟨-, d1, -, -, hDl⟩ := sk_get HN.out.2.2
    by_cases hk1 : k < il
    · have hkp : k < p.items.length := by rw [HPL.out]; exact hk1
      have hks : k < s.items.length := by rw [HIL.out]; exact hk1
      obtain ⟨bq, oq, e1, q0, q1, q2, q3, q4, q5, q6, q7, q8, q9, q10⟩ := items_row (HP.out.new HN.out.1).at.sl hkp
      obtain ⟨bg, og, e2, p0, p1, p2, p3, p4, p5, p6, p7, p8, p9, p10⟩ := items_row (HS.out.new HN.out.1).sl hks
      cases HPA.out.symm.trans e1
      obtain rfl : aI = some ⟨bg, og, none⟩ := HIA.out.symm.trans e2
      obtain ⟨lb, la, lc, lh⟩ := ((HP.out.new HN.out.1).la _ (List.getElem_mem hkp))
      have hgs := (HS.out.new HN.out.1).nx _ (List.getElem_mem hks)
      have he := map_at HBI.out k hkp hks
      have hxl := HF.out _ (List.getElem_mem hks)
      have hkI : (k : Int) < (il : Int) := by omega
      have hkd : decide (k < il) = true := decide_eq_true hk1
      clear e1 e2
      generalize p.items[k] = x at q0 q1 q2 q3 q4 q5 q6 q7 q8 q9 q10 la lc lh he
      generalize s.items[k] = y at p0 p1 p2 p3 p4 p5 p6 p7 p8 p9 p10 hgs he hxl
      obtain ⟨kd, nm', tg, xa, xc, xs, fn, fp, fa, tn, tp, ta, at_⟩ := x
      obtain ⟨kd2, nm2, tg2, ya, yc, ys, fn2, fp2, fa2, tn2, tp2, ta2, at2⟩ := y
      simp only [SIt.bare, SIt.mk.injEq, true_and, and_true] at he
      obtain ⟨rfl, rfl, rfl, rfl, rfl, rfl, rfl, rfl, rfl, rfl, rfl⟩ := he
      simp only [Nat.zero_add] at q0 q1 q2 q3 q4 q5 q6 q7 q8 q9 q10 p0 p1 p2 p3 p4 p5 p6 p7 p8 p9 p10 la lc lh hgs hxl
      subst la lc
      have hbq : b1 < wr.heap.size := World.block_lt_of_cell? wr _ q0
      have hbg : bg < wr.heap.size := World.block_lt_of_cell? wr _ p0
      have hkc := fun n => kept_any lb ya yc xs (wr.drewN n) (Keeps.heap ((New.refl wr).drewN n) lh (fun h => h)) (hgs.new ((New.refl wr).drewN n)) (by omega)
      clear lh hgs
      go_wp2_with fail
      go_quiet ((go_at_call 48; exact Calls.quiet_of (hkc _)))
      have hnq : New wr (wr.drewN nq) := (New.refl wr).drewN _
      have HN2 := Lib.hid (And.intro (HN.out.1.trans hnq) (And.intro (Keeps.heap hnq HN.out.2.1 (fun h => h)) (Keeps.heap hnq HN.out.2.2 (fun h => h))))
      clear hnq
      go_wp2_with fail
      go_roundw
      case rel => exact ⟨k + 1, by omega, by go_num, HN2⟩
      case measure => simp [intOf]; omega
    · obtain rfl : k = il := by omega
      have hkd : decide (k < k) = false := decide_eq_false hk1
      have mA := New.cell HN.out.1 HM.out.1
      have mB := New.cell HN.out.1 HM.out.2
      have hb1 := World.block_lt_of_cell? _ _ mA
      clear hk1 hk
      go_wp2_with fail
      (try go_ret)
      exact ⟨rfl, HN.out.1⟩
end Go.Proofs.YtohalcbhckahmaaDoor
