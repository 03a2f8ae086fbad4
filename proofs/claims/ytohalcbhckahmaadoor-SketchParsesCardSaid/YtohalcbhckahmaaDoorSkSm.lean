/-
  Layer 5: two sketches that are the same.
-/
import Derived.Test.YtohalcbhckahmaaDoorSkK
namespace Go.Proofs.YtohalcbhckahmaaDoor
open Go Go.RowKit Go.Joins
set_option linter.all false

theorem sameInts_is (w : World) (ao bo : Option Addr) (xs ys : List Int) (n m c d : Nat) (hx : SlAt w ao (Is xs)) (hy : SlAt w bo (Is ys)) (hn : n = xs.length) (hm : m = ys.length) (b : Bool) (hb : decide (xs = ys) = b)
   (lx : xs.length ≤ 9223372036854775807) :
    Calls Tryd.prog 62 #[.slice ao n c, .slice bo m d] w fun e w' => e = .returned (.bool b) ∧ ∃ n, w' = w.drewN n := by
  subst hn hm hb
  exact sameInts_any w ao bo xs ys c d hx hy lx
set_option maxRecDepth 100000 in
set_option maxHeartbeats 4000000 in
theorem sameItem_raw (w : World) (kd : Int) (nm tg : ByteArray) (xa ya : Option Addr) (xc yc : Nat) (xs : List Int) (fn : ByteArray) (fp fa : Int) (tn : ByteArray) (tp ta at_ : Int) (hx : SlAt w xa (Is xs)) (hy : SlAt w ya (Is xs)) (hl : xs.length ≤ 9223372036854775807) :
    Calls Tryd.prog 36 #[.agg #[.int .u8 kd, .string nm, .string tg, .slice xa xs.length xc, .string fn, I fp, I fa, .string tn, I tp, I ta, I at_], .agg #[.int .u8 kd, .string nm, .string tg, .slice ya xs.length yc, .string fn, I fp, I fa, .string tn, I tp, I ta, I at_]] w fun e w' => e = .returned (.bool true) ∧ New w w' := by
  have hsi : ∀ W (n : New w W), Calls Tryd.prog 62 #[.slice xa xs.length xc, .slice ya xs.length yc] W fun e w' => e = .returned (.bool true) ∧ ∃ n, w' = W.drewN n := fun W n => sameInts_is W _ _ _ _ _ _ _ _ (hx.new n) (hy.new n) rfl rfl true (decide_eq_true rfl) hl
  clear hx hy
  go_enter Tryd.func36, Tryd.ntmps36
  go_wp2_with fail
  refine (hsi _ (((New.refl w).alloc _).alloc _)).mono ?_
  rintro e w2 ⟨rfl, n2, rfl⟩
  go_wp2_with fail
  go_ret
  exact ⟨rfl, (((New.refl w).alloc _).alloc _).drewN _⟩
set_option maxRecDepth 100000 in
set_option maxHeartbeats 16000000 in
theorem same_yes (w : World) (p q : Sk) (hp : SkAt w p) (hq : SkAt w q) (h : p.bare = q.bare) (hli : p.items.length ≤ 9223372036854775807) (hlx : ∀ x ∈ p.items, x.xs.length ≤ 9223372036854775807) :
    Calls Tryd.prog 13 #[p.v, q.v] w fun e w' => e = .returned (.bool true) ∧ New w w' := by
  have h1 : p.name = q.name := by have := congrArg Sk.name h; exact this
  have h2 : p.items.map SIt.bare = q.items.map SIt.bare := by have := congrArg Sk.items h; exact this
  clear h
  have l2 := (map_len h2).symm
  have HP := Lib.hid hp
  have HQ := Lib.hid hq
  have HL := Lib.hid hlx
  clear hp hq hlx
  obtain ⟨pn, pa, pc, pits⟩ := p
  obtain ⟨qn, qa, qc, qits⟩ := q
  simp only at h1 h2 l2 hli HL
  subst h1
  simp only [Sk.v, Sk.cs]
  rw [l2]
  have H2 := Lib.hid h2
  have HL2 := Lib.hid l2
  clear h2 l2
  go_enter Tryd.func13, Tryd.ntmps13
  have na : New w (w.alloc (.cells #[.string pn, .slice pa pits.length pc] 24)) := (New.refl w).alloc _
  have ha : (w.alloc (.cells #[.string pn, .slice pa pits.length pc] 24)).heap[w.heap.size]? = some (.cells #[.string pn, .slice pa pits.length pc] 24 (0, 0)) := heap_alloc_new w _
  have sa : (w.alloc (.cells #[.string pn, .slice pa pits.length pc] 24)).heap.size = w.heap.size + 1 := by simp
  have nb : New (w.alloc (.cells #[.string pn, .slice pa pits.length pc] 24)) ((w.alloc (.cells #[.string pn, .slice pa pits.length pc] 24)).alloc (.cells #[.string pn, .slice qa pits.length qc] 24)) := (New.refl _).alloc _
  have hb : ((w.alloc (.cells #[.string pn, .slice pa pits.length pc] 24)).alloc (.cells #[.string pn, .slice qa pits.length qc] 24)).heap[w.heap.size + 1]? = some (.cells #[.string pn, .slice qa pits.length qc] 24 (0, 0)) := by
    have := heap_alloc_new (w.alloc (.cells #[.string pn, .slice pa pits.length pc] 24)) (.cells #[.string pn, .slice qa pits.length qc] 24); rwa [sa] at this
  replace ha := Keeps.heap nb ha (fun h => h)
  have kA := na.trans nb
  clear na nb sa
  go_wp2_with fail
  generalize ((w.alloc (.cells #[.string pn, .slice pa pits.length pc] 24)).alloc (.cells #[.string pn, .slice qa pits.length qc] 24)) = W at kA ha hb ⊢
  have HA := Lib.hid ha
  have HB := Lib.hid hb
  clear ha hb
  obtain ⟨PB, hPB⟩ : ∃ b, w.heap.size = b := ⟨_, rfl⟩
  rw [hPB] at HA HB ⊢
  obtain ⟨QB, hQB⟩ : ∃ b, PB + 1 = b := ⟨_, rfl⟩
  rw [hQB] at HB ⊢
  clear hPB hQB
  go_loopw [5] (fun i wr => ∃ k : Nat, k ≤ pits.length ∧ i = .int .i64 k ∧ New W wr) (fun i _ => pits.length - (intOf i).toNat)
  case atStart => exact ⟨0, by omega, rfl, New.refl _⟩
  case round =>
    obtain ⟨k, hk, rfl, hN⟩ := hrel
    obtain ⟨-, c1, -, -, hCl⟩ := sk_get (Keeps.heap hN HA.out (fun h => h))
    obtain ⟨-, d1, -, -, hDl⟩ := sk_get (Keeps.heap hN HB.out (fun h => h))
    have hNw := kA.trans hN
    by_cases hk1 : k < pits.length
    · have hk2 : k < qits.length := by have := HL2.out; omega
      have hsx : SlAt wr pa (pits.flatMap itCells) := (HP.out.new hNw).sl
      have hsy : SlAt wr qa (qits.flatMap itCells) := (HQ.out.new hNw).sl
      obtain ⟨b1, o1, e1, q0, q1, q2, q3, q4, q5, q6, q7, q8, q9, q10⟩ := items_row hsx hk1
      obtain ⟨b2, o2, e2, p0, p1, p2, p3, p4, p5, p6, p7, p8, p9, p10⟩ := items_row hsy hk2
      have hx := (HP.out.new hNw).nx _ (List.getElem_mem hk1)
      have hy := (HQ.out.new hNw).nx _ (List.getElem_mem hk2)
      have he := map_at H2.out k hk1 hk2
      have hxl := HL.out _ (List.getElem_mem hk1)
      clear hsx hsy
      subst e1 e2
      have hk0 : (k : Int) < (pits.length : Int) := by omega
      have hkd : decide (k < pits.length) = true := decide_eq_true hk1
      generalize pits[k] = x at q0 q1 q2 q3 q4 q5 q6 q7 q8 q9 q10 hx he hxl
      generalize qits[k] = y at p0 p1 p2 p3 p4 p5 p6 p7 p8 p9 p10 hy he
      obtain ⟨kd, nm, tg, xa, xc, xs, fn, fp, fa, tn, tp, ta, at_⟩ := x
      obtain ⟨kd2, nm2, tg2, ya, yc, ys, fn2, fp2, fa2, tn2, tp2, ta2, at2⟩ := y
      simp only [SIt.bare, SIt.mk.injEq, true_and, and_true] at he
      obtain ⟨rfl, rfl, rfl, rfl, rfl, rfl, rfl, rfl, rfl, rfl, rfl⟩ := he
      simp only at q0 q1 q2 q3 q4 q5 q6 q7 q8 q9 q10 p0 p1 p2 p3 p4 p5 p6 p7 p8 p9 p10 hx hy hxl
      have hsm : ∀ W, New wr W → Calls Tryd.prog 36 #[.agg #[.int .u8 kd, .string nm, .string tg, .slice xa xs.length xc, .string fn, I fp, I fa, .string tn, I tp, I ta, I at_], .agg #[.int .u8 kd, .string nm, .string tg, .slice ya xs.length yc, .string fn, I fp, I fa, .string tn, I tp, I ta, I at_]] W fun e w' => e = .returned (.bool true) ∧ New W w' := fun W n => sameItem_raw W kd nm tg xa ya xc yc xs fn fp fa tn tp ta at_ (hx.new n) (hy.new n) hxl
      clear hx hy
      have hB1 := World.block_lt_of_cell? _ _ q0
      have hB2 := World.block_lt_of_cell? _ _ p0
      go_wp2_with fail
      have hS0 : (fun w' : World => w'.cell? ⟨PB, 1, none⟩ = some (.slice (some ⟨b1, o1, none⟩) pits.length pc) ∧ w'.cell? ⟨QB, 1, none⟩ = some (.slice (some ⟨b2, o2, none⟩) pits.length qc) ∧ w'.cell? ⟨b1, o1 + k * 11, none⟩ = some (.int .u8 kd) ∧ w'.cell? ⟨b1, o1 + k * 11 + 1, none⟩ = some (.string nm) ∧ w'.cell? ⟨b1, o1 + k * 11 + 2, none⟩ = some (.string tg) ∧ w'.cell? ⟨b1, o1 + k * 11 + 3, none⟩ = some (.slice xa xs.length xc) ∧ w'.cell? ⟨b1, o1 + k * 11 + 4, none⟩ = some (.string fn) ∧ w'.cell? ⟨b1, o1 + k * 11 + 5, none⟩ = some (I fp) ∧ w'.cell? ⟨b1, o1 + k * 11 + 6, none⟩ = some (I fa) ∧ w'.cell? ⟨b1, o1 + k * 11 + 7, none⟩ = some (.string tn) ∧ w'.cell? ⟨b1, o1 + k * 11 + 8, none⟩ = some (I tp) ∧ w'.cell? ⟨b1, o1 + k * 11 + 9, none⟩ = some (I ta) ∧ w'.cell? ⟨b1, o1 + k * 11 + 10, none⟩ = some (I at_) ∧ w'.cell? ⟨b2, o2 + k * 11, none⟩ = some (.int .u8 kd) ∧ w'.cell? ⟨b2, o2 + k * 11 + 1, none⟩ = some (.string nm) ∧ w'.cell? ⟨b2, o2 + k * 11 + 2, none⟩ = some (.string tg) ∧ w'.cell? ⟨b2, o2 + k * 11 + 3, none⟩ = some (.slice ya xs.length yc) ∧ w'.cell? ⟨b2, o2 + k * 11 + 4, none⟩ = some (.string fn) ∧ w'.cell? ⟨b2, o2 + k * 11 + 5, none⟩ = some (I fp) ∧ w'.cell? ⟨b2, o2 + k * 11 + 6, none⟩ = some (I fa) ∧ w'.cell? ⟨b2, o2 + k * 11 + 7, none⟩ = some (.string tn) ∧ w'.cell? ⟨b2, o2 + k * 11 + 8, none⟩ = some (I tp) ∧ w'.cell? ⟨b2, o2 + k * 11 + 9, none⟩ = some (I ta) ∧ w'.cell? ⟨b2, o2 + k * 11 + 10, none⟩ = some (I at_)) wr.drew := ⟨New.cell (New.refl wr).drew c1, New.cell (New.refl wr).drew d1, New.cell (New.refl wr).drew q0, New.cell (New.refl wr).drew q1, New.cell (New.refl wr).drew q2, New.cell (New.refl wr).drew q3, New.cell (New.refl wr).drew q4, New.cell (New.refl wr).drew q5, New.cell (New.refl wr).drew q6, New.cell (New.refl wr).drew q7, New.cell (New.refl wr).drew q8, New.cell (New.refl wr).drew q9, New.cell (New.refl wr).drew q10, New.cell (New.refl wr).drew p0, New.cell (New.refl wr).drew p1, New.cell (New.refl wr).drew p2, New.cell (New.refl wr).drew p3, New.cell (New.refl wr).drew p4, New.cell (New.refl wr).drew p5, New.cell (New.refl wr).drew p6, New.cell (New.refl wr).drew p7, New.cell (New.refl wr).drew p8, New.cell (New.refl wr).drew p9, New.cell (New.refl wr).drew p10⟩
      refine wp_region_X (fun w' : World => w'.cell? ⟨PB, 1, none⟩ = some (.slice (some ⟨b1, o1, none⟩) pits.length pc) ∧ w'.cell? ⟨QB, 1, none⟩ = some (.slice (some ⟨b2, o2, none⟩) pits.length qc) ∧ w'.cell? ⟨b1, o1 + k * 11, none⟩ = some (.int .u8 kd) ∧ w'.cell? ⟨b1, o1 + k * 11 + 1, none⟩ = some (.string nm) ∧ w'.cell? ⟨b1, o1 + k * 11 + 2, none⟩ = some (.string tg) ∧ w'.cell? ⟨b1, o1 + k * 11 + 3, none⟩ = some (.slice xa xs.length xc) ∧ w'.cell? ⟨b1, o1 + k * 11 + 4, none⟩ = some (.string fn) ∧ w'.cell? ⟨b1, o1 + k * 11 + 5, none⟩ = some (I fp) ∧ w'.cell? ⟨b1, o1 + k * 11 + 6, none⟩ = some (I fa) ∧ w'.cell? ⟨b1, o1 + k * 11 + 7, none⟩ = some (.string tn) ∧ w'.cell? ⟨b1, o1 + k * 11 + 8, none⟩ = some (I tp) ∧ w'.cell? ⟨b1, o1 + k * 11 + 9, none⟩ = some (I ta) ∧ w'.cell? ⟨b1, o1 + k * 11 + 10, none⟩ = some (I at_) ∧ w'.cell? ⟨b2, o2 + k * 11, none⟩ = some (.int .u8 kd) ∧ w'.cell? ⟨b2, o2 + k * 11 + 1, none⟩ = some (.string nm) ∧ w'.cell? ⟨b2, o2 + k * 11 + 2, none⟩ = some (.string tg) ∧ w'.cell? ⟨b2, o2 + k * 11 + 3, none⟩ = some (.slice ya xs.length yc) ∧ w'.cell? ⟨b2, o2 + k * 11 + 4, none⟩ = some (.string fn) ∧ w'.cell? ⟨b2, o2 + k * 11 + 5, none⟩ = some (I fp) ∧ w'.cell? ⟨b2, o2 + k * 11 + 6, none⟩ = some (I fa) ∧ w'.cell? ⟨b2, o2 + k * 11 + 7, none⟩ = some (.string tn) ∧ w'.cell? ⟨b2, o2 + k * 11 + 8, none⟩ = some (I tp) ∧ w'.cell? ⟨b2, o2 + k * 11 + 9, none⟩ = some (I ta) ∧ w'.cell? ⟨b2, o2 + k * 11 + 10, none⟩ = some (I at_)) [] (by kernel_rfl) hS0 ?_
      refine anyX_take 0 (by kernel_rfl) (by kernel_rfl) (by kernel_rfl) (by kernel_rfl) (by kernel_rfl) hS0 ?_
      intro oi ho; simp only [List.getElem?_toArray, List.getElem?_cons_succ, List.getElem?_cons_zero, Option.some.injEq] at ho; subst ho
      refine ⟨?_, fun _ _ _ h => h, Or.inl ⟨by rfl, ?_⟩, ?_⟩; rotate_left 1
      · (intro wS hSw; (try dsimp only at hSw); go_simp; try with_reducible rfl)
      simp only [Act.put, List.setIfInBounds_toArray, List.set_cons_zero, List.set_cons_succ]
      refine anyX_take 1 (by kernel_rfl) (by kernel_rfl) (by kernel_rfl) (by kernel_rfl) (by kernel_rfl) hS0 ?_
      intro oi ho; simp only [List.getElem?_toArray, List.getElem?_cons_succ, List.getElem?_cons_zero, Option.some.injEq] at ho; subst ho
      refine ⟨?_, fun _ _ _ h => h, Or.inl ⟨by rfl, ?_⟩, ?_⟩; rotate_left 1
      · (intro wS hSw; (try dsimp only at hSw); go_simp; try with_reducible rfl)
      simp only [Act.put, List.setIfInBounds_toArray, List.set_cons_zero, List.set_cons_succ]
      refine anyX_take 2 (by kernel_rfl) (by kernel_rfl) (by kernel_rfl) (by kernel_rfl) (by kernel_rfl) hS0 ?_
      intro oi ho; simp only [List.getElem?_toArray, List.getElem?_cons_succ, List.getElem?_cons_zero, Option.some.injEq] at ho; subst ho
      refine ⟨?_, fun _ _ _ h => h, Or.inl ⟨by rfl, ?_⟩, ?_⟩; rotate_left 1
      · (intro wS hSw; (try dsimp only at hSw); go_simp; try with_reducible rfl)
      simp only [Act.put, List.setIfInBounds_toArray, List.set_cons_zero, List.set_cons_succ]
      refine anyX_take 3 (by kernel_rfl) (by kernel_rfl) (by kernel_rfl) (by kernel_rfl) (by kernel_rfl) hS0 ?_
      intro oi ho; simp only [List.getElem?_toArray, List.getElem?_cons_succ, List.getElem?_cons_zero, Option.some.injEq] at ho; subst ho
      refine ⟨?_, fun _ _ _ h => h, Or.inl ⟨by rfl, ?_⟩, ?_⟩; rotate_left 1
      · (intro wS hSw; (try dsimp only at hSw); go_simp; try with_reducible rfl)
      simp only [Act.put, List.setIfInBounds_toArray, List.set_cons_zero, List.set_cons_succ]
      refine anyX_take 4 (by kernel_rfl) (by kernel_rfl) (by kernel_rfl) (by kernel_rfl) (by kernel_rfl) hS0 ?_
      intro oi ho; simp only [List.getElem?_toArray, List.getElem?_cons_succ, List.getElem?_cons_zero, Option.some.injEq] at ho; subst ho
      refine ⟨?_, fun _ _ _ h => h, Or.inl ⟨by rfl, ?_⟩, ?_⟩; rotate_left 1
      · (intro wS hSw; (try dsimp only at hSw); go_simp; try with_reducible rfl)
      simp only [Act.put, List.setIfInBounds_toArray, List.set_cons_zero, List.set_cons_succ]
      refine anyX_take 5 (by kernel_rfl) (by kernel_rfl) (by kernel_rfl) (by kernel_rfl) (by kernel_rfl) hS0 ?_
      intro oi ho; simp only [List.getElem?_toArray, List.getElem?_cons_succ, List.getElem?_cons_zero, Option.some.injEq] at ho; subst ho
      refine ⟨?_, fun _ _ _ h => h, Or.inl ⟨by rfl, ?_⟩, ?_⟩; rotate_left 1
      · (intro wS hSw; (try dsimp only at hSw); go_simp; try with_reducible rfl)
      simp only [Act.put, List.setIfInBounds_toArray, List.set_cons_zero, List.set_cons_succ]
      refine anyX_take 6 (by kernel_rfl) (by kernel_rfl) (by kernel_rfl) (by kernel_rfl) (by kernel_rfl) hS0 ?_
      intro oi ho; simp only [List.getElem?_toArray, List.getElem?_cons_succ, List.getElem?_cons_zero, Option.some.injEq] at ho; subst ho
      refine ⟨?_, fun _ _ _ h => h, Or.inl ⟨by rfl, ?_⟩, ?_⟩; rotate_left 1
      · (intro wS hSw; (try dsimp only at hSw); go_simp; try with_reducible rfl)
      simp only [Act.put, List.setIfInBounds_toArray, List.set_cons_zero, List.set_cons_succ]
      refine anyX_take 7 (by kernel_rfl) (by kernel_rfl) (by kernel_rfl) (by kernel_rfl) (by kernel_rfl) hS0 ?_
      intro oi ho; simp only [List.getElem?_toArray, List.getElem?_cons_succ, List.getElem?_cons_zero, Option.some.injEq] at ho; subst ho
      refine ⟨?_, fun _ _ _ h => h, Or.inl ⟨by rfl, ?_⟩, ?_⟩; rotate_left 1
      · (intro wS hSw; (try dsimp only at hSw); go_simp; try with_reducible rfl)
      simp only [Act.put, List.setIfInBounds_toArray, List.set_cons_zero, List.set_cons_succ]
      refine anyX_take 8 (by kernel_rfl) (by kernel_rfl) (by kernel_rfl) (by kernel_rfl) (by kernel_rfl) hS0 ?_
      intro oi ho; simp only [List.getElem?_toArray, List.getElem?_cons_succ, List.getElem?_cons_zero, Option.some.injEq] at ho; subst ho
      refine ⟨?_, fun _ _ _ h => h, Or.inl ⟨by rfl, ?_⟩, ?_⟩; rotate_left 1
      · (intro wS hSw; (try dsimp only at hSw); go_simp; try with_reducible rfl)
      simp only [Act.put, List.setIfInBounds_toArray, List.set_cons_zero, List.set_cons_succ]
      refine anyX_take 9 (by kernel_rfl) (by kernel_rfl) (by kernel_rfl) (by kernel_rfl) (by kernel_rfl) hS0 ?_
      intro oi ho; simp only [List.getElem?_toArray, List.getElem?_cons_succ, List.getElem?_cons_zero, Option.some.injEq] at ho; subst ho
      refine ⟨?_, fun _ _ _ h => h, Or.inl ⟨by rfl, ?_⟩, ?_⟩; rotate_left 1
      · (intro wS hSw; (try dsimp only at hSw); go_simp; try with_reducible rfl)
      simp only [Act.put, List.setIfInBounds_toArray, List.set_cons_zero, List.set_cons_succ]
      refine anyX_one 10 (by kernel_rfl) ?_
      intro oi ho; simp only [List.getElem?_toArray, List.getElem?_cons_succ, List.getElem?_cons_zero, Option.some.injEq] at ho; subst ho; intro K hK
      (try simp only [Act.put, List.setIfInBounds_toArray, List.set_cons_zero, List.set_cons_succ])
      go_simp
      refine (hsm _ (New.refl wr).drew).mono ?_
      rintro e w5 ⟨rfl, n5'⟩
      have n5 : New wr w5 := (New.refl wr).drew.trans n5'
      clear n5'
      have hw5 : (fun w' : World => w'.cell? ⟨PB, 1, none⟩ = some (.slice (some ⟨b1, o1, none⟩) pits.length pc) ∧ w'.cell? ⟨QB, 1, none⟩ = some (.slice (some ⟨b2, o2, none⟩) pits.length qc) ∧ w'.cell? ⟨b1, o1 + k * 11, none⟩ = some (.int .u8 kd) ∧ w'.cell? ⟨b1, o1 + k * 11 + 1, none⟩ = some (.string nm) ∧ w'.cell? ⟨b1, o1 + k * 11 + 2, none⟩ = some (.string tg) ∧ w'.cell? ⟨b1, o1 + k * 11 + 3, none⟩ = some (.slice xa xs.length xc) ∧ w'.cell? ⟨b1, o1 + k * 11 + 4, none⟩ = some (.string fn) ∧ w'.cell? ⟨b1, o1 + k * 11 + 5, none⟩ = some (I fp) ∧ w'.cell? ⟨b1, o1 + k * 11 + 6, none⟩ = some (I fa) ∧ w'.cell? ⟨b1, o1 + k * 11 + 7, none⟩ = some (.string tn) ∧ w'.cell? ⟨b1, o1 + k * 11 + 8, none⟩ = some (I tp) ∧ w'.cell? ⟨b1, o1 + k * 11 + 9, none⟩ = some (I ta) ∧ w'.cell? ⟨b1, o1 + k * 11 + 10, none⟩ = some (I at_) ∧ w'.cell? ⟨b2, o2 + k * 11, none⟩ = some (.int .u8 kd) ∧ w'.cell? ⟨b2, o2 + k * 11 + 1, none⟩ = some (.string nm) ∧ w'.cell? ⟨b2, o2 + k * 11 + 2, none⟩ = some (.string tg) ∧ w'.cell? ⟨b2, o2 + k * 11 + 3, none⟩ = some (.slice ya xs.length yc) ∧ w'.cell? ⟨b2, o2 + k * 11 + 4, none⟩ = some (.string fn) ∧ w'.cell? ⟨b2, o2 + k * 11 + 5, none⟩ = some (I fp) ∧ w'.cell? ⟨b2, o2 + k * 11 + 6, none⟩ = some (I fa) ∧ w'.cell? ⟨b2, o2 + k * 11 + 7, none⟩ = some (.string tn) ∧ w'.cell? ⟨b2, o2 + k * 11 + 8, none⟩ = some (I tp) ∧ w'.cell? ⟨b2, o2 + k * 11 + 9, none⟩ = some (I ta) ∧ w'.cell? ⟨b2, o2 + k * 11 + 10, none⟩ = some (I at_)) w5 := ⟨New.cell n5 c1, New.cell n5 d1, New.cell n5 q0, New.cell n5 q1, New.cell n5 q2, New.cell n5 q3, New.cell n5 q4, New.cell n5 q5, New.cell n5 q6, New.cell n5 q7, New.cell n5 q8, New.cell n5 q9, New.cell n5 q10, New.cell n5 p0, New.cell n5 p1, New.cell n5 p2, New.cell n5 p3, New.cell n5 p4, New.cell n5 p5, New.cell n5 p6, New.cell n5 p7, New.cell n5 p8, New.cell n5 p9, New.cell n5 p10⟩
      refine hK _ _ (fun _ => hw5) ?_
      clear hK K
      refine anyX_take 11 (by kernel_rfl) (by kernel_rfl) (by kernel_rfl) (by kernel_rfl) (by kernel_rfl) hw5 ?_
      intro oi ho; simp only [List.getElem?_toArray, List.getElem?_cons_succ, List.getElem?_cons_zero, Option.some.injEq] at ho; subst ho
      refine ⟨?_, fun _ _ _ h => h, Or.inl ⟨by rfl, ?_⟩, ?_⟩; rotate_left 1
      · (intro wS hSw; (try dsimp only at hSw); go_simp; try with_reducible rfl)
      simp only [Act.put, List.setIfInBounds_toArray, List.set_cons_zero, List.set_cons_succ]
      refine anyX_done (by kernel_rfl) ?_
      (try simp only [Act.put, List.setIfInBounds_toArray, List.set_cons_zero, List.set_cons_succ])
      have hN3 := hN.trans n5
      clear c1 d1 q0 q1 q2 q3 q4 q5 q6 q7 q8 q9 q10 p0 p1 p2 p3 p4 p5 p6 p7 p8 p9 p10 hsm hS0 hw5 n5
      (try simp only [Exit.then])
      go_wp2_with fail
      go_roundw
      case rel => exact ⟨k + 1, by omega, by go_num, by first | exact hN3 | exact hN3.drew⟩
      case measure => simp [intOf]; omega
    · have hkd : decide (k < pits.length) = false := decide_eq_false hk1
      have hkI : (pits.length : Int) ≤ (k : Int) := by omega
      go_wp2_with fail
      go_ret
      exact ⟨rfl, hNw⟩
end Go.Proofs.YtohalcbhckahmaaDoor
