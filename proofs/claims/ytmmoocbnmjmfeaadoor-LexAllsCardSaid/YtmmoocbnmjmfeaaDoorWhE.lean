/-
  The document's whole numbers: Int.
-/
import Derived.Test.YtmmoocbnmjmfeaaDoorWhD
namespace Go.Proofs.YtmmoocbnmjmfeaaDoor
open Go Go.RowKit Go.Joins
set_option linter.all false

/-- A whole number as an int, if it fits. -/
def intW (b : Bool) (v : Nat) : Option Int := if b then (if v ≤ 9223372036854775808 then some (-(v : Int)) else none) else (if v < 9223372036854775808 then some (v : Int) else none)
set_option maxRecDepth 100000 in
set_option maxHeartbeats 8000000 in
theorem int_tbig (w : World) (a : Option Addr) (c v : Nat) (hs : SlAt w a (Is (dgs v))) (hv : v < whTop) (hgt : 9223372036854775808 < v) :
    Calls Tryd.prog 46 #[.agg #[.bool true, .slice a (nd v) c]] w fun e w' => e = .returned (.tuple #[I 0, .bool false]) ∧ New w w' := by
  have hnv := nd_le v
  have hof1 : ∀ W, Calls Tryd.prog 44 #[I (-9223372036854775808)] W (WhRes W true 9223372036854775808) := fun W => of_any W (-9223372036854775808) (by omega) (by omega)
  have hof2 : ∀ W, Calls Tryd.prog 44 #[I 9223372036854775807] W (WhRes W false 9223372036854775807) := fun W => of_any W 9223372036854775807 (by omega) (by omega)
  have hc1 := fun W (n : New w W) a2 c2 s2 => cmp_any W true true a a2 c c2 v 9223372036854775808 (hs.new n) s2 hv (by unfold whTop; omega)
  have hc2 := fun W (n : New w W) a2 c2 s2 => cmp_any W true false a a2 c c2 v 9223372036854775807 (hs.new n) s2 hv (by unfold whTop; omega)
  have v1 : cmpW true v true 9223372036854775808 = -(cmpN v 9223372036854775808) := rfl
  have v2 : cmpW true v false 9223372036854775807 = -1 := rfl
  obtain ⟨k1, hk1⟩ : ∃ k1 : Int, -(cmpN v 9223372036854775808) = k1 := ⟨_, rfl⟩
  obtain ⟨k2, hk2⟩ : ∃ k2 : Int, (-1 : Int) = k2 := ⟨_, rfl⟩
  rw [hk1] at v1
  rw [hk2] at v2
  have d1 : decide (k1 < 0) = true := by
    rw [← hk1]; unfold cmpN
    rw [if_neg (by omega), if_neg (by omega)]; rfl
  have d2 : decide (0 < k2) = false := decide_eq_false (by omega)
  rw [v1] at hc1
  rw [v2] at hc2
  clear v1 v2 hk1 hk2
  have HS := Lib.hid hs
  unfold dgs at HS
  have HXD : Hid (hiD v (nd v) = 0) := Lib.hid (hiD_nd (by unfold whTop at hv; exact hv))
  obtain ⟨n, hn⟩ : ∃ n, nd v = n := ⟨_, rfl⟩
  rw [hn] at HS HXD hnv hc1 hc2 ⊢
  have w0 : IntKind.i64.wrap ((n : Int) - 1) = (n : Int) - 1 := IntWalk.i64_in _ (by omega)
  clear hs hn
  go_enter Tryd.func46, Tryd.ntmps46
  go_wp2_with fail
  have g0 := wh_new w (.bool true) (.slice a n c)
  obtain ⟨p0, p1, _, _, pB⟩ := wh_cells g0
  obtain ⟨W1, hW1⟩ : ∃ W1, w.alloc (.cells #[.bool true, .slice a n c] 64) = W1 := ⟨_, rfl⟩
  have HN1 : Hid (New w W1) := Lib.hid (by rw [← hW1]; exact (New.refl w).alloc _)
  rw [hW1] at p0 p1 pB ⊢
  clear hW1 g0
  have hS0 : (fun w' : World => w'.cell? ⟨w.heap.size, 0, none⟩ = some (.bool true) ∧ w'.cell? ⟨w.heap.size, 1, none⟩ = some (.slice a n c) ∧ w.heap.size < w'.heap.size) W1.drew :=
    ⟨New.cell ((New.refl W1).drew) p0, New.cell ((New.refl W1).drew) p1, pB⟩
  refine wp_region_X (fun w' : World => w'.cell? ⟨w.heap.size, 0, none⟩ = some (.bool true) ∧ w'.cell? ⟨w.heap.size, 1, none⟩ = some (.slice a n c) ∧ w.heap.size < w'.heap.size) [] (by kernel_rfl) hS0 ?_
  have m0 : New w W1.drew := HN1.out.drew
  refine anyX_take 0 (by kernel_rfl) (by kernel_rfl) (by kernel_rfl) (by kernel_rfl) (by kernel_rfl) hS0 ?_
  intro oi ho; simp only [List.getElem?_toArray, List.getElem?_cons_succ, List.getElem?_cons_zero, Option.some.injEq] at ho; subst ho
  refine ⟨?_, fun _ _ _ h => h, Or.inl ⟨by rfl, ?_⟩, ?_⟩; rotate_left 1
  · (intro wS hSw; (try dsimp only at hSw); go_simp; try with_reducible rfl)
  simp only [Act.put, List.setIfInBounds_toArray, List.set_cons_zero, List.set_cons_succ]
  refine anyX_one 1 (by kernel_rfl) ?_
  intro oi ho; simp only [List.getElem?_toArray, List.getElem?_cons_succ, List.getElem?_cons_zero, Option.some.injEq] at ho; subst ho; intro K hK
  (try simp only [Act.put, List.setIfInBounds_toArray, List.set_cons_zero, List.set_cons_succ])
  go_simp
  refine (hof1 _).mono ?_
  rintro e w2 ⟨a2, c2, rfl, n2, s2, -⟩
  have hS2 : (fun w' : World => w'.cell? ⟨w.heap.size, 0, none⟩ = some (.bool true) ∧ w'.cell? ⟨w.heap.size, 1, none⟩ = some (.slice a n c) ∧ w.heap.size < w'.heap.size) w2 := ⟨New.cell n2 hS0.1, New.cell n2 hS0.2.1, Nat.lt_of_lt_of_le hS0.2.2 n2.size⟩
  have m2 := m0.trans n2
  refine hK _ _ (fun _ => hS2) ?_
  clear hK K hS0 n2
  refine anyX_one 2 (by kernel_rfl) ?_
  intro oi ho; simp only [List.getElem?_toArray, List.getElem?_cons_succ, List.getElem?_cons_zero, Option.some.injEq] at ho; subst ho; intro K hK
  (try simp only [Act.put, List.setIfInBounds_toArray, List.set_cons_zero, List.set_cons_succ])
  go_simp
  refine (hc1 _ m2 _ _ s2).mono ?_
  rintro e w3 ⟨rfl, n3⟩
  have hS3 : (fun w' : World => w'.cell? ⟨w.heap.size, 0, none⟩ = some (.bool true) ∧ w'.cell? ⟨w.heap.size, 1, none⟩ = some (.slice a n c) ∧ w.heap.size < w'.heap.size) w3 := ⟨New.cell n3 hS2.1, New.cell n3 hS2.2.1, Nat.lt_of_lt_of_le hS2.2.2 n3.size⟩
  have m3 := m2.trans n3
  refine hK _ _ (fun _ => hS3) ?_
  clear hK K hS2 n3 s2
  refine anyX_take 3 (by kernel_rfl) (by kernel_rfl) (by kernel_rfl) (by kernel_rfl) (by kernel_rfl) hS3 ?_
  intro oi ho; simp only [List.getElem?_toArray, List.getElem?_cons_succ, List.getElem?_cons_zero, Option.some.injEq] at ho; subst ho
  refine ⟨?_, fun _ _ _ h => h, Or.inl ⟨by rfl, ?_⟩, ?_⟩; rotate_left 1
  · (intro wS hSw; (try dsimp only at hSw); go_simp; try with_reducible rfl)
  simp only [Act.put, List.setIfInBounds_toArray, List.set_cons_zero, List.set_cons_succ]
  refine anyX_take 4 (by kernel_rfl) (by kernel_rfl) (by kernel_rfl) (by kernel_rfl) (by kernel_rfl) hS3 ?_
  intro oi ho; simp only [List.getElem?_toArray, List.getElem?_cons_succ, List.getElem?_cons_zero, Option.some.injEq] at ho; subst ho
  refine ⟨?_, fun _ _ _ h => h, Or.inl ⟨by rfl, ?_⟩, ?_⟩; rotate_left 1
  · (intro wS hSw; (try dsimp only at hSw); go_simp; try with_reducible rfl)
  simp only [Act.put, List.setIfInBounds_toArray, List.set_cons_zero, List.set_cons_succ]
  refine anyX_take 5 (by kernel_rfl) (by kernel_rfl) (by kernel_rfl) (by kernel_rfl) (by kernel_rfl) hS3 ?_
  intro oi ho; simp only [List.getElem?_toArray, List.getElem?_cons_succ, List.getElem?_cons_zero, Option.some.injEq] at ho; subst ho
  refine ⟨undef, fun _ _ _ h => h, Or.inr ⟨by simp [Region.wanted, yielded, d1], rfl⟩, ?_⟩
  simp only [Act.put, List.setIfInBounds_toArray, List.set_cons_zero, List.set_cons_succ]
  refine anyX_take 6 (by kernel_rfl) (by kernel_rfl) (by kernel_rfl) (by kernel_rfl) (by kernel_rfl) hS3 ?_
  intro oi ho; simp only [List.getElem?_toArray, List.getElem?_cons_succ, List.getElem?_cons_zero, Option.some.injEq] at ho; subst ho
  refine ⟨undef, fun _ _ _ h => h, Or.inr ⟨by simp [Region.wanted, yielded, d1], rfl⟩, ?_⟩
  simp only [Act.put, List.setIfInBounds_toArray, List.set_cons_zero, List.set_cons_succ]
  refine anyX_take 7 (by kernel_rfl) (by kernel_rfl) (by kernel_rfl) (by kernel_rfl) (by kernel_rfl) hS3 ?_
  intro oi ho; simp only [List.getElem?_toArray, List.getElem?_cons_succ, List.getElem?_cons_zero, Option.some.injEq] at ho; subst ho
  refine ⟨undef, fun _ _ _ h => h, Or.inr ⟨by simp [Region.wanted, yielded, d1], rfl⟩, ?_⟩
  simp only [Act.put, List.setIfInBounds_toArray, List.set_cons_zero, List.set_cons_succ]
  refine anyX_take 8 (by kernel_rfl) (by kernel_rfl) (by kernel_rfl) (by kernel_rfl) (by kernel_rfl) hS3 ?_
  intro oi ho; simp only [List.getElem?_toArray, List.getElem?_cons_succ, List.getElem?_cons_zero, Option.some.injEq] at ho; subst ho
  refine ⟨undef, fun _ _ _ h => h, Or.inr ⟨by simp [Region.wanted, yielded, d1], rfl⟩, ?_⟩
  simp only [Act.put, List.setIfInBounds_toArray, List.set_cons_zero, List.set_cons_succ]
  refine anyX_take 9 (by kernel_rfl) (by kernel_rfl) (by kernel_rfl) (by kernel_rfl) (by kernel_rfl) hS3 ?_
  intro oi ho; simp only [List.getElem?_toArray, List.getElem?_cons_succ, List.getElem?_cons_zero, Option.some.injEq] at ho; subst ho
  refine ⟨?_, fun _ _ _ h => h, Or.inl ⟨by rfl, ?_⟩, ?_⟩; rotate_left 1
  · (intro wS hSw; (try dsimp only at hSw); go_simp; try with_reducible rfl)
  simp only [Act.put, List.setIfInBounds_toArray, List.set_cons_zero, List.set_cons_succ]
  refine anyX_done (by kernel_rfl) ?_
  (try simp only [Act.put, List.setIfInBounds_toArray, List.set_cons_zero, List.set_cons_succ])
  obtain ⟨x0, x1, xB⟩ := hS3
  have HM := Lib.hid m3
  simp only [Exit.then]
  go_wp2_with fail
  go_ret2
  exact ⟨rfl, HM.out⟩
set_option maxRecDepth 100000 in
set_option maxHeartbeats 8000000 in
theorem int_tfit (w : World) (a : Option Addr) (c v : Nat) (hs : SlAt w a (Is (dgs v))) (hv : v < whTop) (hle : v ≤ 9223372036854775808) :
    Calls Tryd.prog 46 #[.agg #[.bool true, .slice a (nd v) c]] w fun e w' => e = .returned (.tuple #[I (-(v : Int)), .bool true]) ∧ New w w' := by
  have hnv := nd_le v
  have hof1 : ∀ W, Calls Tryd.prog 44 #[I (-9223372036854775808)] W (WhRes W true 9223372036854775808) := fun W => of_any W (-9223372036854775808) (by omega) (by omega)
  have hof2 : ∀ W, Calls Tryd.prog 44 #[I 9223372036854775807] W (WhRes W false 9223372036854775807) := fun W => of_any W 9223372036854775807 (by omega) (by omega)
  have hc1 := fun W (n : New w W) a2 c2 s2 => cmp_any W true true a a2 c c2 v 9223372036854775808 (hs.new n) s2 hv (by unfold whTop; omega)
  have hc2 := fun W (n : New w W) a2 c2 s2 => cmp_any W true false a a2 c c2 v 9223372036854775807 (hs.new n) s2 hv (by unfold whTop; omega)
  have v1 : cmpW true v true 9223372036854775808 = -(cmpN v 9223372036854775808) := rfl
  have v2 : cmpW true v false 9223372036854775807 = -1 := rfl
  obtain ⟨k1, hk1⟩ : ∃ k1 : Int, -(cmpN v 9223372036854775808) = k1 := ⟨_, rfl⟩
  obtain ⟨k2, hk2⟩ : ∃ k2 : Int, (-1 : Int) = k2 := ⟨_, rfl⟩
  rw [hk1] at v1
  rw [hk2] at v2
  have d1 : decide (k1 < 0) = false := by
    rw [← hk1]; unfold cmpN
    exact decide_eq_false (by split <;> (try split) <;> omega)
  have d2 : decide (0 < k2) = false := decide_eq_false (by omega)
  rw [v1] at hc1
  rw [v2] at hc2
  clear v1 v2 hk1 hk2
  have HS := Lib.hid hs
  unfold dgs at HS
  have HXD : Hid (hiD v (nd v) = 0) := Lib.hid (hiD_nd (by unfold whTop at hv; exact hv))
  obtain ⟨n, hn⟩ : ∃ n, nd v = n := ⟨_, rfl⟩
  rw [hn] at HS HXD hnv hc1 hc2 ⊢
  have w0 : IntKind.i64.wrap ((n : Int) - 1) = (n : Int) - 1 := IntWalk.i64_in _ (by omega)
  clear hs hn
  go_enter Tryd.func46, Tryd.ntmps46
  go_wp2_with fail
  have g0 := wh_new w (.bool true) (.slice a n c)
  obtain ⟨p0, p1, _, _, pB⟩ := wh_cells g0
  obtain ⟨W1, hW1⟩ : ∃ W1, w.alloc (.cells #[.bool true, .slice a n c] 64) = W1 := ⟨_, rfl⟩
  have HN1 : Hid (New w W1) := Lib.hid (by rw [← hW1]; exact (New.refl w).alloc _)
  rw [hW1] at p0 p1 pB ⊢
  clear hW1 g0
  have hS0 : (fun w' : World => w'.cell? ⟨w.heap.size, 0, none⟩ = some (.bool true) ∧ w'.cell? ⟨w.heap.size, 1, none⟩ = some (.slice a n c) ∧ w.heap.size < w'.heap.size) W1.drew :=
    ⟨New.cell ((New.refl W1).drew) p0, New.cell ((New.refl W1).drew) p1, pB⟩
  refine wp_region_X (fun w' : World => w'.cell? ⟨w.heap.size, 0, none⟩ = some (.bool true) ∧ w'.cell? ⟨w.heap.size, 1, none⟩ = some (.slice a n c) ∧ w.heap.size < w'.heap.size) [] (by kernel_rfl) hS0 ?_
  have m0 : New w W1.drew := HN1.out.drew
  refine anyX_take 0 (by kernel_rfl) (by kernel_rfl) (by kernel_rfl) (by kernel_rfl) (by kernel_rfl) hS0 ?_
  intro oi ho; simp only [List.getElem?_toArray, List.getElem?_cons_succ, List.getElem?_cons_zero, Option.some.injEq] at ho; subst ho
  refine ⟨?_, fun _ _ _ h => h, Or.inl ⟨by rfl, ?_⟩, ?_⟩; rotate_left 1
  · (intro wS hSw; (try dsimp only at hSw); go_simp; try with_reducible rfl)
  simp only [Act.put, List.setIfInBounds_toArray, List.set_cons_zero, List.set_cons_succ]
  refine anyX_one 1 (by kernel_rfl) ?_
  intro oi ho; simp only [List.getElem?_toArray, List.getElem?_cons_succ, List.getElem?_cons_zero, Option.some.injEq] at ho; subst ho; intro K hK
  (try simp only [Act.put, List.setIfInBounds_toArray, List.set_cons_zero, List.set_cons_succ])
  go_simp
  refine (hof1 _).mono ?_
  rintro e w2 ⟨a2, c2, rfl, n2, s2, -⟩
  have hS2 : (fun w' : World => w'.cell? ⟨w.heap.size, 0, none⟩ = some (.bool true) ∧ w'.cell? ⟨w.heap.size, 1, none⟩ = some (.slice a n c) ∧ w.heap.size < w'.heap.size) w2 := ⟨New.cell n2 hS0.1, New.cell n2 hS0.2.1, Nat.lt_of_lt_of_le hS0.2.2 n2.size⟩
  have m2 := m0.trans n2
  refine hK _ _ (fun _ => hS2) ?_
  clear hK K hS0 n2
  refine anyX_one 2 (by kernel_rfl) ?_
  intro oi ho; simp only [List.getElem?_toArray, List.getElem?_cons_succ, List.getElem?_cons_zero, Option.some.injEq] at ho; subst ho; intro K hK
  (try simp only [Act.put, List.setIfInBounds_toArray, List.set_cons_zero, List.set_cons_succ])
  go_simp
  refine (hc1 _ m2 _ _ s2).mono ?_
  rintro e w3 ⟨rfl, n3⟩
  have hS3 : (fun w' : World => w'.cell? ⟨w.heap.size, 0, none⟩ = some (.bool true) ∧ w'.cell? ⟨w.heap.size, 1, none⟩ = some (.slice a n c) ∧ w.heap.size < w'.heap.size) w3 := ⟨New.cell n3 hS2.1, New.cell n3 hS2.2.1, Nat.lt_of_lt_of_le hS2.2.2 n3.size⟩
  have m3 := m2.trans n3
  refine hK _ _ (fun _ => hS3) ?_
  clear hK K hS2 n3 s2
  refine anyX_take 3 (by kernel_rfl) (by kernel_rfl) (by kernel_rfl) (by kernel_rfl) (by kernel_rfl) hS3 ?_
  intro oi ho; simp only [List.getElem?_toArray, List.getElem?_cons_succ, List.getElem?_cons_zero, Option.some.injEq] at ho; subst ho
  refine ⟨?_, fun _ _ _ h => h, Or.inl ⟨by rfl, ?_⟩, ?_⟩; rotate_left 1
  · (intro wS hSw; (try dsimp only at hSw); go_simp; try with_reducible rfl)
  simp only [Act.put, List.setIfInBounds_toArray, List.set_cons_zero, List.set_cons_succ]
  refine anyX_take 4 (by kernel_rfl) (by kernel_rfl) (by kernel_rfl) (by kernel_rfl) (by kernel_rfl) hS3 ?_
  intro oi ho; simp only [List.getElem?_toArray, List.getElem?_cons_succ, List.getElem?_cons_zero, Option.some.injEq] at ho; subst ho
  refine ⟨?_, fun _ _ _ h => h, Or.inl ⟨by rfl, ?_⟩, ?_⟩; rotate_left 1
  · (intro wS hSw; (try dsimp only at hSw); go_simp; try with_reducible rfl)
  simp only [Act.put, List.setIfInBounds_toArray, List.set_cons_zero, List.set_cons_succ]
  refine anyX_take 5 (by kernel_rfl) (by kernel_rfl) (by kernel_rfl) (by kernel_rfl) (by kernel_rfl) hS3 ?_
  intro oi ho; simp only [List.getElem?_toArray, List.getElem?_cons_succ, List.getElem?_cons_zero, Option.some.injEq] at ho; subst ho
  refine ⟨?_, fun _ _ _ h => h, Or.inl ⟨by rfl, ?_⟩, ?_⟩; rotate_left 1
  · (intro wS hSw; (try dsimp only at hSw); go_simp; try with_reducible rfl)
  simp only [Act.put, List.setIfInBounds_toArray, List.set_cons_zero, List.set_cons_succ]
  refine anyX_one 6 (by kernel_rfl) ?_
  intro oi ho; simp only [List.getElem?_toArray, List.getElem?_cons_succ, List.getElem?_cons_zero, Option.some.injEq] at ho; subst ho; intro K hK
  (try simp only [Act.put, List.setIfInBounds_toArray, List.set_cons_zero, List.set_cons_succ])
  go_simp
  refine (hof2 _).mono ?_
  rintro e w4 ⟨a4, c4, rfl, n4, s4, -⟩
  have hS4 : (fun w' : World => w'.cell? ⟨w.heap.size, 0, none⟩ = some (.bool true) ∧ w'.cell? ⟨w.heap.size, 1, none⟩ = some (.slice a n c) ∧ w.heap.size < w'.heap.size) w4 := ⟨New.cell n4 hS3.1, New.cell n4 hS3.2.1, Nat.lt_of_lt_of_le hS3.2.2 n4.size⟩
  have m4 := m3.trans n4
  refine hK _ _ (fun _ => hS4) ?_
  clear hK K hS3 n4
  refine anyX_one 7 (by kernel_rfl) ?_
  intro oi ho; simp only [List.getElem?_toArray, List.getElem?_cons_succ, List.getElem?_cons_zero, Option.some.injEq] at ho; subst ho; intro K hK
  (try simp only [Act.put, List.setIfInBounds_toArray, List.set_cons_zero, List.set_cons_succ])
  go_simp
  refine (hc2 _ m4 _ _ s4).mono ?_
  rintro e w5 ⟨rfl, n5⟩
  have hS5 : (fun w' : World => w'.cell? ⟨w.heap.size, 0, none⟩ = some (.bool true) ∧ w'.cell? ⟨w.heap.size, 1, none⟩ = some (.slice a n c) ∧ w.heap.size < w'.heap.size) w5 := ⟨New.cell n5 hS4.1, New.cell n5 hS4.2.1, Nat.lt_of_lt_of_le hS4.2.2 n5.size⟩
  have m5 := m4.trans n5
  refine hK _ _ (fun _ => hS5) ?_
  clear hK K hS4 n5 s4
  refine anyX_take 8 (by kernel_rfl) (by kernel_rfl) (by kernel_rfl) (by kernel_rfl) (by kernel_rfl) hS5 ?_
  intro oi ho; simp only [List.getElem?_toArray, List.getElem?_cons_succ, List.getElem?_cons_zero, Option.some.injEq] at ho; subst ho
  refine ⟨?_, fun _ _ _ h => h, Or.inl ⟨by rfl, ?_⟩, ?_⟩; rotate_left 1
  · (intro wS hSw; (try dsimp only at hSw); go_simp; try with_reducible rfl)
  simp only [Act.put, List.setIfInBounds_toArray, List.set_cons_zero, List.set_cons_succ]
  refine anyX_take 9 (by kernel_rfl) (by kernel_rfl) (by kernel_rfl) (by kernel_rfl) (by kernel_rfl) hS5 ?_
  intro oi ho; simp only [List.getElem?_toArray, List.getElem?_cons_succ, List.getElem?_cons_zero, Option.some.injEq] at ho; subst ho
  refine ⟨?_, fun _ _ _ h => h, Or.inl ⟨by rfl, ?_⟩, ?_⟩; rotate_left 1
  · (intro wS hSw; (try dsimp only at hSw); go_simp; try with_reducible rfl)
  simp only [Act.put, List.setIfInBounds_toArray, List.set_cons_zero, List.set_cons_succ]
  refine anyX_done (by kernel_rfl) ?_
  (try simp only [Act.put, List.setIfInBounds_toArray, List.set_cons_zero, List.set_cons_succ])
  obtain ⟨x0, x1, xB⟩ := hS5
  have HM := Lib.hid m5
  simp only [Exit.then]
  go_wp2_with fail
  obtain ⟨Wz, hWz⟩ : ∃ Wz : World, Wz = w5 := ⟨_, rfl⟩
  rw [← hWz] at x0 x1 xB HM ⊢
  clear hWz
  go_loopw [4, 5] (fun xn xi wr => ∃ j : Nat, j ≤ n ∧ xi = .int .i64 ((j : Int) - 1) ∧ xn = I (-((hiD v j : Nat) : Int)) ∧ New Wz wr) (fun _ xi _ => (intOf xi + 1).toNat)
  case atStart => exact ⟨n, Nat.le_refl _, rfl, by rw [HXD.out]; rfl, New.refl _⟩
  case round =>
    obtain ⟨j, hj, rfl, rfl, hN⟩ := hrel
    have y0 := New.cell hN x0
    have y1 := New.cell hN x1
    have yB := Nat.lt_of_lt_of_le xB hN.size
    cases j with
    | zero =>
      have HV : Hid ((-((hiD v 0 : Nat) : Int)) = (-(v : Int))) := Lib.hid (by rw [hiD_zero])
      go_wp2_with fail
      go_ret2
      exact ⟨by rw [← HV.out]; rfl, HM.out.trans hN⟩
    | succ p =>
      obtain ⟨b1, o1, e1, q1⟩ := is_at HS.out (j := p) (by omega)
      replace q1 := New.cell (HM.out.trans hN) q1
      subst e1
      have l1 := World.block_lt_of_cell? wr _ q1
      have hE := hiD_eq v p
      have hD := dig_lt v p
      have hle : hiD v p ≤ v := by unfold hiD; exact Nat.div_le_self _ _
      have hcast : (((p + 1 : Nat) : Int) - 1) = (p : Int) := by omega
      rw [hcast]
      have hpI : (p : Int) < (n : Int) := by omega
      have hw : IntKind.i64.wrap ((p : Int) - 1) = (p : Int) - 1 := IntWalk.i64_in _ (by omega)
      obtain ⟨u, hu⟩ : ∃ u, dig v p = u := ⟨_, rfl⟩
      obtain ⟨h, hh⟩ : ∃ h, hiD v (p + 1) = h := ⟨_, rfl⟩
      obtain ⟨z, hz⟩ : ∃ z, hiD v p = z := ⟨_, rfl⟩
      rw [hu] at q1 hE hD
      rw [hh] at hE ⊢
      rw [hz] at hE hle
      obtain ⟨H, hH⟩ : ∃ H : Int, (-(h : Int)) = H := ⟨_, rfl⟩
      obtain ⟨M, hM⟩ : ∃ M : Int, H * 1073741824 = M := ⟨_, rfl⟩
      rw [hH]
      have w1 : IntKind.i64.wrap (H * 1073741824) = M := by rw [IntWalk.i64_in _ (by omega)]; exact hM
      have w2 : IntKind.i64.wrap (M - (u : Int)) = (-(z : Int)) := by rw [IntWalk.i64_in _ (by omega)]; omega
      have HZ : Hid (z = hiD v p) := Lib.hid hz.symm
      obtain ⟨Z, hZ⟩ : ∃ Z : Int, (-(z : Int)) = Z := ⟨_, rfl⟩
      rw [hZ] at w2
      have HZZ := Lib.hid hZ
      clear hu hh hz hE hD hle hcast hM hH hZ
      go_wp2_with fail
      go_roundw
      case rel => exact ⟨p, by omega, by first | rfl | (congr 1), by rw [← HZ.out, HZZ.out], hN⟩
      case measure => simp [intOf]; try omega
set_option maxRecDepth 100000 in
set_option maxHeartbeats 8000000 in
theorem int_ffit (w : World) (a : Option Addr) (c v : Nat) (hs : SlAt w a (Is (dgs v))) (hv : v < whTop) (hlt : v < 9223372036854775808) :
    Calls Tryd.prog 46 #[.agg #[.bool false, .slice a (nd v) c]] w fun e w' => e = .returned (.tuple #[I (v : Int), .bool true]) ∧ New w w' := by
  have hnv := nd_le v
  have hof1 : ∀ W, Calls Tryd.prog 44 #[I (-9223372036854775808)] W (WhRes W true 9223372036854775808) := fun W => of_any W (-9223372036854775808) (by omega) (by omega)
  have hof2 : ∀ W, Calls Tryd.prog 44 #[I 9223372036854775807] W (WhRes W false 9223372036854775807) := fun W => of_any W 9223372036854775807 (by omega) (by omega)
  have hc1 := fun W (n : New w W) a2 c2 s2 => cmp_any W false true a a2 c c2 v 9223372036854775808 (hs.new n) s2 hv (by unfold whTop; omega)
  have hc2 := fun W (n : New w W) a2 c2 s2 => cmp_any W false false a a2 c c2 v 9223372036854775807 (hs.new n) s2 hv (by unfold whTop; omega)
  have v1 : cmpW false v true 9223372036854775808 = 1 := rfl
  have v2 : cmpW false v false 9223372036854775807 = (if v < 9223372036854775807 then -1 else if v = 9223372036854775807 then 0 else 1) := rfl
  obtain ⟨k1, hk1⟩ : ∃ k1 : Int, (1 : Int) = k1 := ⟨_, rfl⟩
  obtain ⟨k2, hk2⟩ : ∃ k2 : Int, (if v < 9223372036854775807 then -1 else if v = 9223372036854775807 then 0 else 1 : Int) = k2 := ⟨_, rfl⟩
  rw [hk1] at v1
  rw [hk2] at v2
  have d1 : decide (k1 < 0) = false := decide_eq_false (by omega)
  have d2 : decide (0 < k2) = false := by
    rw [← hk2]
    exact decide_eq_false (by split <;> (try split) <;> omega)
  rw [v1] at hc1
  rw [v2] at hc2
  clear v1 v2 hk1 hk2
  have HS := Lib.hid hs
  unfold dgs at HS
  have HXD : Hid (hiD v (nd v) = 0) := Lib.hid (hiD_nd (by unfold whTop at hv; exact hv))
  obtain ⟨n, hn⟩ : ∃ n, nd v = n := ⟨_, rfl⟩
  rw [hn] at HS HXD hnv hc1 hc2 ⊢
  have w0 : IntKind.i64.wrap ((n : Int) - 1) = (n : Int) - 1 := IntWalk.i64_in _ (by omega)
  clear hs hn
  go_enter Tryd.func46, Tryd.ntmps46
  go_wp2_with fail
  have g0 := wh_new w (.bool false) (.slice a n c)
  obtain ⟨p0, p1, _, _, pB⟩ := wh_cells g0
  obtain ⟨W1, hW1⟩ : ∃ W1, w.alloc (.cells #[.bool false, .slice a n c] 64) = W1 := ⟨_, rfl⟩
  have HN1 : Hid (New w W1) := Lib.hid (by rw [← hW1]; exact (New.refl w).alloc _)
  rw [hW1] at p0 p1 pB ⊢
  clear hW1 g0
  have hS0 : (fun w' : World => w'.cell? ⟨w.heap.size, 0, none⟩ = some (.bool false) ∧ w'.cell? ⟨w.heap.size, 1, none⟩ = some (.slice a n c) ∧ w.heap.size < w'.heap.size) W1.drew :=
    ⟨New.cell ((New.refl W1).drew) p0, New.cell ((New.refl W1).drew) p1, pB⟩
  refine wp_region_X (fun w' : World => w'.cell? ⟨w.heap.size, 0, none⟩ = some (.bool false) ∧ w'.cell? ⟨w.heap.size, 1, none⟩ = some (.slice a n c) ∧ w.heap.size < w'.heap.size) [] (by kernel_rfl) hS0 ?_
  have m0 : New w W1.drew := HN1.out.drew
  refine anyX_take 0 (by kernel_rfl) (by kernel_rfl) (by kernel_rfl) (by kernel_rfl) (by kernel_rfl) hS0 ?_
  intro oi ho; simp only [List.getElem?_toArray, List.getElem?_cons_succ, List.getElem?_cons_zero, Option.some.injEq] at ho; subst ho
  refine ⟨?_, fun _ _ _ h => h, Or.inl ⟨by rfl, ?_⟩, ?_⟩; rotate_left 1
  · (intro wS hSw; (try dsimp only at hSw); go_simp; try with_reducible rfl)
  simp only [Act.put, List.setIfInBounds_toArray, List.set_cons_zero, List.set_cons_succ]
  refine anyX_one 1 (by kernel_rfl) ?_
  intro oi ho; simp only [List.getElem?_toArray, List.getElem?_cons_succ, List.getElem?_cons_zero, Option.some.injEq] at ho; subst ho; intro K hK
  (try simp only [Act.put, List.setIfInBounds_toArray, List.set_cons_zero, List.set_cons_succ])
  go_simp
  refine (hof1 _).mono ?_
  rintro e w2 ⟨a2, c2, rfl, n2, s2, -⟩
  have hS2 : (fun w' : World => w'.cell? ⟨w.heap.size, 0, none⟩ = some (.bool false) ∧ w'.cell? ⟨w.heap.size, 1, none⟩ = some (.slice a n c) ∧ w.heap.size < w'.heap.size) w2 := ⟨New.cell n2 hS0.1, New.cell n2 hS0.2.1, Nat.lt_of_lt_of_le hS0.2.2 n2.size⟩
  have m2 := m0.trans n2
  refine hK _ _ (fun _ => hS2) ?_
  clear hK K hS0 n2
  refine anyX_one 2 (by kernel_rfl) ?_
  intro oi ho; simp only [List.getElem?_toArray, List.getElem?_cons_succ, List.getElem?_cons_zero, Option.some.injEq] at ho; subst ho; intro K hK
  (try simp only [Act.put, List.setIfInBounds_toArray, List.set_cons_zero, List.set_cons_succ])
  go_simp
  refine (hc1 _ m2 _ _ s2).mono ?_
  rintro e w3 ⟨rfl, n3⟩
  have hS3 : (fun w' : World => w'.cell? ⟨w.heap.size, 0, none⟩ = some (.bool false) ∧ w'.cell? ⟨w.heap.size, 1, none⟩ = some (.slice a n c) ∧ w.heap.size < w'.heap.size) w3 := ⟨New.cell n3 hS2.1, New.cell n3 hS2.2.1, Nat.lt_of_lt_of_le hS2.2.2 n3.size⟩
  have m3 := m2.trans n3
  refine hK _ _ (fun _ => hS3) ?_
  clear hK K hS2 n3 s2
  refine anyX_take 3 (by kernel_rfl) (by kernel_rfl) (by kernel_rfl) (by kernel_rfl) (by kernel_rfl) hS3 ?_
  intro oi ho; simp only [List.getElem?_toArray, List.getElem?_cons_succ, List.getElem?_cons_zero, Option.some.injEq] at ho; subst ho
  refine ⟨?_, fun _ _ _ h => h, Or.inl ⟨by rfl, ?_⟩, ?_⟩; rotate_left 1
  · (intro wS hSw; (try dsimp only at hSw); go_simp; try with_reducible rfl)
  simp only [Act.put, List.setIfInBounds_toArray, List.set_cons_zero, List.set_cons_succ]
  refine anyX_take 4 (by kernel_rfl) (by kernel_rfl) (by kernel_rfl) (by kernel_rfl) (by kernel_rfl) hS3 ?_
  intro oi ho; simp only [List.getElem?_toArray, List.getElem?_cons_succ, List.getElem?_cons_zero, Option.some.injEq] at ho; subst ho
  refine ⟨?_, fun _ _ _ h => h, Or.inl ⟨by rfl, ?_⟩, ?_⟩; rotate_left 1
  · (intro wS hSw; (try dsimp only at hSw); go_simp; try with_reducible rfl)
  simp only [Act.put, List.setIfInBounds_toArray, List.set_cons_zero, List.set_cons_succ]
  refine anyX_take 5 (by kernel_rfl) (by kernel_rfl) (by kernel_rfl) (by kernel_rfl) (by kernel_rfl) hS3 ?_
  intro oi ho; simp only [List.getElem?_toArray, List.getElem?_cons_succ, List.getElem?_cons_zero, Option.some.injEq] at ho; subst ho
  refine ⟨?_, fun _ _ _ h => h, Or.inl ⟨by rfl, ?_⟩, ?_⟩; rotate_left 1
  · (intro wS hSw; (try dsimp only at hSw); go_simp; try with_reducible rfl)
  simp only [Act.put, List.setIfInBounds_toArray, List.set_cons_zero, List.set_cons_succ]
  refine anyX_one 6 (by kernel_rfl) ?_
  intro oi ho; simp only [List.getElem?_toArray, List.getElem?_cons_succ, List.getElem?_cons_zero, Option.some.injEq] at ho; subst ho; intro K hK
  (try simp only [Act.put, List.setIfInBounds_toArray, List.set_cons_zero, List.set_cons_succ])
  go_simp
  refine (hof2 _).mono ?_
  rintro e w4 ⟨a4, c4, rfl, n4, s4, -⟩
  have hS4 : (fun w' : World => w'.cell? ⟨w.heap.size, 0, none⟩ = some (.bool false) ∧ w'.cell? ⟨w.heap.size, 1, none⟩ = some (.slice a n c) ∧ w.heap.size < w'.heap.size) w4 := ⟨New.cell n4 hS3.1, New.cell n4 hS3.2.1, Nat.lt_of_lt_of_le hS3.2.2 n4.size⟩
  have m4 := m3.trans n4
  refine hK _ _ (fun _ => hS4) ?_
  clear hK K hS3 n4
  refine anyX_one 7 (by kernel_rfl) ?_
  intro oi ho; simp only [List.getElem?_toArray, List.getElem?_cons_succ, List.getElem?_cons_zero, Option.some.injEq] at ho; subst ho; intro K hK
  (try simp only [Act.put, List.setIfInBounds_toArray, List.set_cons_zero, List.set_cons_succ])
  go_simp
  refine (hc2 _ m4 _ _ s4).mono ?_
  rintro e w5 ⟨rfl, n5⟩
  have hS5 : (fun w' : World => w'.cell? ⟨w.heap.size, 0, none⟩ = some (.bool false) ∧ w'.cell? ⟨w.heap.size, 1, none⟩ = some (.slice a n c) ∧ w.heap.size < w'.heap.size) w5 := ⟨New.cell n5 hS4.1, New.cell n5 hS4.2.1, Nat.lt_of_lt_of_le hS4.2.2 n5.size⟩
  have m5 := m4.trans n5
  refine hK _ _ (fun _ => hS5) ?_
  clear hK K hS4 n5 s4
  refine anyX_take 8 (by kernel_rfl) (by kernel_rfl) (by kernel_rfl) (by kernel_rfl) (by kernel_rfl) hS5 ?_
  intro oi ho; simp only [List.getElem?_toArray, List.getElem?_cons_succ, List.getElem?_cons_zero, Option.some.injEq] at ho; subst ho
  refine ⟨?_, fun _ _ _ h => h, Or.inl ⟨by rfl, ?_⟩, ?_⟩; rotate_left 1
  · (intro wS hSw; (try dsimp only at hSw); go_simp; try with_reducible rfl)
  simp only [Act.put, List.setIfInBounds_toArray, List.set_cons_zero, List.set_cons_succ]
  refine anyX_take 9 (by kernel_rfl) (by kernel_rfl) (by kernel_rfl) (by kernel_rfl) (by kernel_rfl) hS5 ?_
  intro oi ho; simp only [List.getElem?_toArray, List.getElem?_cons_succ, List.getElem?_cons_zero, Option.some.injEq] at ho; subst ho
  refine ⟨?_, fun _ _ _ h => h, Or.inl ⟨by rfl, ?_⟩, ?_⟩; rotate_left 1
  · (intro wS hSw; (try dsimp only at hSw); go_simp; try with_reducible rfl)
  simp only [Act.put, List.setIfInBounds_toArray, List.set_cons_zero, List.set_cons_succ]
  refine anyX_done (by kernel_rfl) ?_
  (try simp only [Act.put, List.setIfInBounds_toArray, List.set_cons_zero, List.set_cons_succ])
  obtain ⟨x0, x1, xB⟩ := hS5
  have HM := Lib.hid m5
  simp only [Exit.then]
  go_wp2_with fail
  obtain ⟨Wz, hWz⟩ : ∃ Wz : World, Wz = w5 := ⟨_, rfl⟩
  rw [← hWz] at x0 x1 xB HM ⊢
  clear hWz
  go_loopw [4, 5] (fun xn xi wr => ∃ j : Nat, j ≤ n ∧ xi = .int .i64 ((j : Int) - 1) ∧ xn = I ((hiD v j : Nat) : Int) ∧ New Wz wr) (fun _ xi _ => (intOf xi + 1).toNat)
  case atStart => exact ⟨n, Nat.le_refl _, rfl, by rw [HXD.out]; rfl, New.refl _⟩
  case round =>
    obtain ⟨j, hj, rfl, rfl, hN⟩ := hrel
    have y0 := New.cell hN x0
    have y1 := New.cell hN x1
    have yB := Nat.lt_of_lt_of_le xB hN.size
    cases j with
    | zero =>
      have HV : Hid (((hiD v 0 : Nat) : Int) = (v : Int)) := Lib.hid (by rw [hiD_zero])
      go_wp2_with fail
      go_ret2
      exact ⟨by rw [← HV.out]; rfl, HM.out.trans hN⟩
    | succ p =>
      obtain ⟨b1, o1, e1, q1⟩ := is_at HS.out (j := p) (by omega)
      replace q1 := New.cell (HM.out.trans hN) q1
      subst e1
      have l1 := World.block_lt_of_cell? wr _ q1
      have hE := hiD_eq v p
      have hD := dig_lt v p
      have hle : hiD v p ≤ v := by unfold hiD; exact Nat.div_le_self _ _
      have hcast : (((p + 1 : Nat) : Int) - 1) = (p : Int) := by omega
      rw [hcast]
      have hpI : (p : Int) < (n : Int) := by omega
      have hw : IntKind.i64.wrap ((p : Int) - 1) = (p : Int) - 1 := IntWalk.i64_in _ (by omega)
      obtain ⟨u, hu⟩ : ∃ u, dig v p = u := ⟨_, rfl⟩
      obtain ⟨h, hh⟩ : ∃ h, hiD v (p + 1) = h := ⟨_, rfl⟩
      obtain ⟨z, hz⟩ : ∃ z, hiD v p = z := ⟨_, rfl⟩
      rw [hu] at q1 hE hD
      rw [hh] at hE ⊢
      rw [hz] at hE hle
      obtain ⟨H, hH⟩ : ∃ H : Int, (h : Int) = H := ⟨_, rfl⟩
      obtain ⟨M, hM⟩ : ∃ M : Int, H * 1073741824 = M := ⟨_, rfl⟩
      rw [hH]
      have w1 : IntKind.i64.wrap (H * 1073741824) = M := by rw [IntWalk.i64_in _ (by omega)]; exact hM
      have w2 : IntKind.i64.wrap (M + (u : Int)) = (z : Int) := by rw [IntWalk.i64_in _ (by omega)]; omega
      have HZ : Hid (z = hiD v p) := Lib.hid hz.symm
      obtain ⟨Z, hZ⟩ : ∃ Z : Int, (z : Int) = Z := ⟨_, rfl⟩
      rw [hZ] at w2
      have HZZ := Lib.hid hZ
      clear hu hh hz hE hD hle hcast hM hH hZ
      go_wp2_with fail
      go_roundw
      case rel => exact ⟨p, by omega, by first | rfl | (congr 1), by rw [← HZ.out, HZZ.out], hN⟩
      case measure => simp [intOf]; try omega
set_option maxRecDepth 100000 in
set_option maxHeartbeats 8000000 in
theorem int_fbig (w : World) (a : Option Addr) (c v : Nat) (hs : SlAt w a (Is (dgs v))) (hv : v < whTop) (hge : ¬ v < 9223372036854775808) :
    Calls Tryd.prog 46 #[.agg #[.bool false, .slice a (nd v) c]] w fun e w' => e = .returned (.tuple #[I 0, .bool false]) ∧ New w w' := by
  have hnv := nd_le v
  have hof1 : ∀ W, Calls Tryd.prog 44 #[I (-9223372036854775808)] W (WhRes W true 9223372036854775808) := fun W => of_any W (-9223372036854775808) (by omega) (by omega)
  have hof2 : ∀ W, Calls Tryd.prog 44 #[I 9223372036854775807] W (WhRes W false 9223372036854775807) := fun W => of_any W 9223372036854775807 (by omega) (by omega)
  have hc1 := fun W (n : New w W) a2 c2 s2 => cmp_any W false true a a2 c c2 v 9223372036854775808 (hs.new n) s2 hv (by unfold whTop; omega)
  have hc2 := fun W (n : New w W) a2 c2 s2 => cmp_any W false false a a2 c c2 v 9223372036854775807 (hs.new n) s2 hv (by unfold whTop; omega)
  have v1 : cmpW false v true 9223372036854775808 = 1 := rfl
  have v2 : cmpW false v false 9223372036854775807 = (if v < 9223372036854775807 then -1 else if v = 9223372036854775807 then 0 else 1) := rfl
  obtain ⟨k1, hk1⟩ : ∃ k1 : Int, (1 : Int) = k1 := ⟨_, rfl⟩
  obtain ⟨k2, hk2⟩ : ∃ k2 : Int, (if v < 9223372036854775807 then -1 else if v = 9223372036854775807 then 0 else 1 : Int) = k2 := ⟨_, rfl⟩
  rw [hk1] at v1
  rw [hk2] at v2
  have d1 : decide (k1 < 0) = false := decide_eq_false (by omega)
  have d2 : decide (0 < k2) = true := by
    rw [← hk2]
    exact decide_eq_true (by rw [if_neg (by omega), if_neg (by omega)]; omega)
  rw [v1] at hc1
  rw [v2] at hc2
  clear v1 v2 hk1 hk2
  have HS := Lib.hid hs
  unfold dgs at HS
  have HXD : Hid (hiD v (nd v) = 0) := Lib.hid (hiD_nd (by unfold whTop at hv; exact hv))
  obtain ⟨n, hn⟩ : ∃ n, nd v = n := ⟨_, rfl⟩
  rw [hn] at HS HXD hnv hc1 hc2 ⊢
  have w0 : IntKind.i64.wrap ((n : Int) - 1) = (n : Int) - 1 := IntWalk.i64_in _ (by omega)
  clear hs hn
  go_enter Tryd.func46, Tryd.ntmps46
  go_wp2_with fail
  have g0 := wh_new w (.bool false) (.slice a n c)
  obtain ⟨p0, p1, _, _, pB⟩ := wh_cells g0
  obtain ⟨W1, hW1⟩ : ∃ W1, w.alloc (.cells #[.bool false, .slice a n c] 64) = W1 := ⟨_, rfl⟩
  have HN1 : Hid (New w W1) := Lib.hid (by rw [← hW1]; exact (New.refl w).alloc _)
  rw [hW1] at p0 p1 pB ⊢
  clear hW1 g0
  have hS0 : (fun w' : World => w'.cell? ⟨w.heap.size, 0, none⟩ = some (.bool false) ∧ w'.cell? ⟨w.heap.size, 1, none⟩ = some (.slice a n c) ∧ w.heap.size < w'.heap.size) W1.drew :=
    ⟨New.cell ((New.refl W1).drew) p0, New.cell ((New.refl W1).drew) p1, pB⟩
  refine wp_region_X (fun w' : World => w'.cell? ⟨w.heap.size, 0, none⟩ = some (.bool false) ∧ w'.cell? ⟨w.heap.size, 1, none⟩ = some (.slice a n c) ∧ w.heap.size < w'.heap.size) [] (by kernel_rfl) hS0 ?_
  have m0 : New w W1.drew := HN1.out.drew
  refine anyX_take 0 (by kernel_rfl) (by kernel_rfl) (by kernel_rfl) (by kernel_rfl) (by kernel_rfl) hS0 ?_
  intro oi ho; simp only [List.getElem?_toArray, List.getElem?_cons_succ, List.getElem?_cons_zero, Option.some.injEq] at ho; subst ho
  refine ⟨?_, fun _ _ _ h => h, Or.inl ⟨by rfl, ?_⟩, ?_⟩; rotate_left 1
  · (intro wS hSw; (try dsimp only at hSw); go_simp; try with_reducible rfl)
  simp only [Act.put, List.setIfInBounds_toArray, List.set_cons_zero, List.set_cons_succ]
  refine anyX_one 1 (by kernel_rfl) ?_
  intro oi ho; simp only [List.getElem?_toArray, List.getElem?_cons_succ, List.getElem?_cons_zero, Option.some.injEq] at ho; subst ho; intro K hK
  (try simp only [Act.put, List.setIfInBounds_toArray, List.set_cons_zero, List.set_cons_succ])
  go_simp
  refine (hof1 _).mono ?_
  rintro e w2 ⟨a2, c2, rfl, n2, s2, -⟩
  have hS2 : (fun w' : World => w'.cell? ⟨w.heap.size, 0, none⟩ = some (.bool false) ∧ w'.cell? ⟨w.heap.size, 1, none⟩ = some (.slice a n c) ∧ w.heap.size < w'.heap.size) w2 := ⟨New.cell n2 hS0.1, New.cell n2 hS0.2.1, Nat.lt_of_lt_of_le hS0.2.2 n2.size⟩
  have m2 := m0.trans n2
  refine hK _ _ (fun _ => hS2) ?_
  clear hK K hS0 n2
  refine anyX_one 2 (by kernel_rfl) ?_
  intro oi ho; simp only [List.getElem?_toArray, List.getElem?_cons_succ, List.getElem?_cons_zero, Option.some.injEq] at ho; subst ho; intro K hK
  (try simp only [Act.put, List.setIfInBounds_toArray, List.set_cons_zero, List.set_cons_succ])
  go_simp
  refine (hc1 _ m2 _ _ s2).mono ?_
  rintro e w3 ⟨rfl, n3⟩
  have hS3 : (fun w' : World => w'.cell? ⟨w.heap.size, 0, none⟩ = some (.bool false) ∧ w'.cell? ⟨w.heap.size, 1, none⟩ = some (.slice a n c) ∧ w.heap.size < w'.heap.size) w3 := ⟨New.cell n3 hS2.1, New.cell n3 hS2.2.1, Nat.lt_of_lt_of_le hS2.2.2 n3.size⟩
  have m3 := m2.trans n3
  refine hK _ _ (fun _ => hS3) ?_
  clear hK K hS2 n3 s2
  refine anyX_take 3 (by kernel_rfl) (by kernel_rfl) (by kernel_rfl) (by kernel_rfl) (by kernel_rfl) hS3 ?_
  intro oi ho; simp only [List.getElem?_toArray, List.getElem?_cons_succ, List.getElem?_cons_zero, Option.some.injEq] at ho; subst ho
  refine ⟨?_, fun _ _ _ h => h, Or.inl ⟨by rfl, ?_⟩, ?_⟩; rotate_left 1
  · (intro wS hSw; (try dsimp only at hSw); go_simp; try with_reducible rfl)
  simp only [Act.put, List.setIfInBounds_toArray, List.set_cons_zero, List.set_cons_succ]
  refine anyX_take 4 (by kernel_rfl) (by kernel_rfl) (by kernel_rfl) (by kernel_rfl) (by kernel_rfl) hS3 ?_
  intro oi ho; simp only [List.getElem?_toArray, List.getElem?_cons_succ, List.getElem?_cons_zero, Option.some.injEq] at ho; subst ho
  refine ⟨?_, fun _ _ _ h => h, Or.inl ⟨by rfl, ?_⟩, ?_⟩; rotate_left 1
  · (intro wS hSw; (try dsimp only at hSw); go_simp; try with_reducible rfl)
  simp only [Act.put, List.setIfInBounds_toArray, List.set_cons_zero, List.set_cons_succ]
  refine anyX_take 5 (by kernel_rfl) (by kernel_rfl) (by kernel_rfl) (by kernel_rfl) (by kernel_rfl) hS3 ?_
  intro oi ho; simp only [List.getElem?_toArray, List.getElem?_cons_succ, List.getElem?_cons_zero, Option.some.injEq] at ho; subst ho
  refine ⟨?_, fun _ _ _ h => h, Or.inl ⟨by rfl, ?_⟩, ?_⟩; rotate_left 1
  · (intro wS hSw; (try dsimp only at hSw); go_simp; try with_reducible rfl)
  simp only [Act.put, List.setIfInBounds_toArray, List.set_cons_zero, List.set_cons_succ]
  refine anyX_one 6 (by kernel_rfl) ?_
  intro oi ho; simp only [List.getElem?_toArray, List.getElem?_cons_succ, List.getElem?_cons_zero, Option.some.injEq] at ho; subst ho; intro K hK
  (try simp only [Act.put, List.setIfInBounds_toArray, List.set_cons_zero, List.set_cons_succ])
  go_simp
  refine (hof2 _).mono ?_
  rintro e w4 ⟨a4, c4, rfl, n4, s4, -⟩
  have hS4 : (fun w' : World => w'.cell? ⟨w.heap.size, 0, none⟩ = some (.bool false) ∧ w'.cell? ⟨w.heap.size, 1, none⟩ = some (.slice a n c) ∧ w.heap.size < w'.heap.size) w4 := ⟨New.cell n4 hS3.1, New.cell n4 hS3.2.1, Nat.lt_of_lt_of_le hS3.2.2 n4.size⟩
  have m4 := m3.trans n4
  refine hK _ _ (fun _ => hS4) ?_
  clear hK K hS3 n4
  refine anyX_one 7 (by kernel_rfl) ?_
  intro oi ho; simp only [List.getElem?_toArray, List.getElem?_cons_succ, List.getElem?_cons_zero, Option.some.injEq] at ho; subst ho; intro K hK
  (try simp only [Act.put, List.setIfInBounds_toArray, List.set_cons_zero, List.set_cons_succ])
  go_simp
  refine (hc2 _ m4 _ _ s4).mono ?_
  rintro e w5 ⟨rfl, n5⟩
  have hS5 : (fun w' : World => w'.cell? ⟨w.heap.size, 0, none⟩ = some (.bool false) ∧ w'.cell? ⟨w.heap.size, 1, none⟩ = some (.slice a n c) ∧ w.heap.size < w'.heap.size) w5 := ⟨New.cell n5 hS4.1, New.cell n5 hS4.2.1, Nat.lt_of_lt_of_le hS4.2.2 n5.size⟩
  have m5 := m4.trans n5
  refine hK _ _ (fun _ => hS5) ?_
  clear hK K hS4 n5 s4
  refine anyX_take 8 (by kernel_rfl) (by kernel_rfl) (by kernel_rfl) (by kernel_rfl) (by kernel_rfl) hS5 ?_
  intro oi ho; simp only [List.getElem?_toArray, List.getElem?_cons_succ, List.getElem?_cons_zero, Option.some.injEq] at ho; subst ho
  refine ⟨?_, fun _ _ _ h => h, Or.inl ⟨by rfl, ?_⟩, ?_⟩; rotate_left 1
  · (intro wS hSw; (try dsimp only at hSw); go_simp; try with_reducible rfl)
  simp only [Act.put, List.setIfInBounds_toArray, List.set_cons_zero, List.set_cons_succ]
  refine anyX_take 9 (by kernel_rfl) (by kernel_rfl) (by kernel_rfl) (by kernel_rfl) (by kernel_rfl) hS5 ?_
  intro oi ho; simp only [List.getElem?_toArray, List.getElem?_cons_succ, List.getElem?_cons_zero, Option.some.injEq] at ho; subst ho
  refine ⟨?_, fun _ _ _ h => h, Or.inl ⟨by rfl, ?_⟩, ?_⟩; rotate_left 1
  · (intro wS hSw; (try dsimp only at hSw); go_simp; try with_reducible rfl)
  simp only [Act.put, List.setIfInBounds_toArray, List.set_cons_zero, List.set_cons_succ]
  refine anyX_done (by kernel_rfl) ?_
  (try simp only [Act.put, List.setIfInBounds_toArray, List.set_cons_zero, List.set_cons_succ])
  obtain ⟨x0, x1, xB⟩ := hS5
  have HM := Lib.hid m5
  simp only [Exit.then]
  go_wp2_with fail
  go_ret2
  exact ⟨rfl, HM.out⟩
theorem int_any (w : World) (b : Bool) (a : Option Addr) (c v : Nat) (hs : SlAt w a (Is (dgs v))) (hv : v < whTop) :
    Calls Tryd.prog 46 #[.agg #[.bool b, .slice a (nd v) c]] w fun e w' => (match intW b v with
      | some n => e = .returned (.tuple #[I n, .bool true])
      | none => e = .returned (.tuple #[I 0, .bool false])) ∧ New w w' := by
  cases b with
  | true =>
    by_cases h : v ≤ 9223372036854775808
    · have e : intW true v = some (-(v : Int)) := by unfold intW; rw [if_pos rfl, if_pos h]
      rw [e]; exact int_tfit w a c v hs hv h
    · have e : intW true v = none := by unfold intW; rw [if_pos rfl, if_neg h]
      rw [e]; exact int_tbig w a c v hs hv (by omega)
  | false =>
    by_cases h : v < 9223372036854775808
    · have e : intW false v = some (v : Int) := by unfold intW; rw [if_neg (by simp), if_pos h]
      rw [e]; exact int_ffit w a c v hs hv h
    · have e : intW false v = none := by unfold intW; rw [if_neg (by simp), if_neg h]
      rw [e]; exact int_fbig w a c v hs hv h
end Go.Proofs.YtmmoocbnmjmfeaaDoor
