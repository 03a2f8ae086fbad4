/-
  Layer 20: Show, both sides.
-/
import Derived.Test.YtfmpjbiaamkobaaDoorShowA
import Derived.Test.YtfmpjbiaamkobaaDoorShelf
import Derived.Lib.LaidTab
import Derived.Lib.SmallJoins
namespace Go.Proofs.YtfmpjbiaamkobaaDoor
open Go Go.RowKit Go.Joins
set_option linter.all false

theorem new_grow (w : World) (os : Array Obj) : New w (Sort.grow w os) := ⟨rfl, rfl, rfl, by simp [Sort.grow], fun k hk _ => by simp [Sort.grow, Array.getElem?_append, hk]⟩
theorem tab_new {w w' : World} {n : String} {k : IntKind} {zs : List Int} (h : Lib.TabIs Tryd.prog w n k zs) (hk : New w w') : Lib.TabIs Tryd.prog w' n k zs := by
  unfold Lib.TabIs World.var? at h ⊢
  obtain ⟨g, hg, h2⟩ := Option.bind_eq_some_iff.1 h
  rw [hg]
  simp only [Option.bind_some]
  cases hb : w.heap[g]? with
  | none => rw [hb] at h2; cases h2
  | some o => rw [Keeps.heap hk hb (fun h => h)]; rw [hb] at h2; exact h2
theorem itoa_any (w : World) (n : Int) (h0 : -9223372036854775808 ≤ n) (h1 : n ≤ 9223372036854775807) (ht : Lib.TabIs Tryd.prog w "internal/strconv.uint64pow10" .u64 Lib.pow10Tab) :
    Calls Tryd.prog 8 #[I n] w fun e w' => e = .returned (.string (decS n)) ∧ New w w' := by
  refine (Tryd.strconv_Itoa n h0 h1 w ht).mono ?_
  rintro e w' ⟨rfl, k, os, rfl⟩
  exact ⟨rfl, ((New.refl w).drewN k).trans (new_grow _ os)⟩

set_option maxRecDepth 100000 in
set_option maxHeartbeats 4000000 in
theorem rshow_0 (w : World) (a b : Int) (ha0 : -9223372036854775808 ≤ a) (ha1 : a ≤ 9223372036854775807) (hb0 : -9223372036854775808 ≤ b) (hb1 : b ≤ 9223372036854775807) :
    Calls Tryd.prog 4 #[.agg #[.int .u8 0, I a, I b]] w fun e w' => e = .returned (.tuple #[.string (⟨#[101, 110, 100]⟩ : ByteArray), I 0]) ∧ New w w' := by
  go_enter Tryd.func4, Tryd.ntmps4
  go_wp2_with fail
  exact bodyPost_ret (v := .tuple #[.string (⟨#[101, 110, 100]⟩ : ByteArray), I 0]) (by simp [results, Tryd.results4, go_sem]) rfl ⟨rfl, ((New.refl w).alloc _).alloc _⟩
set_option maxRecDepth 100000 in
set_option maxHeartbeats 4000000 in
theorem rshow_1 (w : World) (a b : Int) (ha0 : -9223372036854775808 ≤ a) (ha1 : a ≤ 9223372036854775807) (hb0 : -9223372036854775808 ≤ b) (hb1 : b ≤ 9223372036854775807) :
    Calls Tryd.prog 4 #[.agg #[.int .u8 1, I a, I b]] w fun e w' => e = .returned (.tuple #[.string (((⟨#[104, 101, 97, 100]⟩ : ByteArray) ++ ((⟨#[32]⟩ : ByteArray) ++ decS a)) ++ ((⟨#[32]⟩ : ByteArray) ++ decS b)), I 0]) ∧ New w w' := by
  have sa := decS_size a ha0 ha1
  have sb := decS_size b hb0 hb1
  have z1 : (⟨#[104, 101, 97, 100]⟩ : ByteArray).size = 4 := rfl
  have z2 : (⟨#[32]⟩ : ByteArray).size = 1 := rfl
  have h1 : ∀ w : World, (Op.stringOp .add (⟨#[104, 101, 97, 100]⟩ : ByteArray) (⟨#[32]⟩ : ByteArray)).run Tryd.prog w = .ok (.string ((⟨#[104, 101, 97, 100]⟩ : ByteArray) ++ (⟨#[32]⟩ : ByteArray))) w := fun w => run_string_add_sum w _ _ (by omega)
  have h2 : ∀ w : World, (Op.stringOp .add ((⟨#[104, 101, 97, 100]⟩ : ByteArray) ++ (⟨#[32]⟩ : ByteArray)) (decS a)).run Tryd.prog w = .ok (.string (((⟨#[104, 101, 97, 100]⟩ : ByteArray) ++ (⟨#[32]⟩ : ByteArray)) ++ (decS a))) w := fun w => run_string_add_sum w _ _ (by rw [ByteArray.size_append]; omega)
  have h3 : ∀ w : World, (Op.stringOp .add (((⟨#[104, 101, 97, 100]⟩ : ByteArray) ++ (⟨#[32]⟩ : ByteArray)) ++ decS a) (⟨#[32]⟩ : ByteArray)).run Tryd.prog w = .ok (.string ((((⟨#[104, 101, 97, 100]⟩ : ByteArray) ++ (⟨#[32]⟩ : ByteArray)) ++ decS a) ++ (⟨#[32]⟩ : ByteArray))) w := fun w => run_string_add_sum w _ _ (by rw [ByteArray.size_append, ByteArray.size_append]; omega)
  have h4 : ∀ w : World, (Op.stringOp .add ((((⟨#[104, 101, 97, 100]⟩ : ByteArray) ++ (⟨#[32]⟩ : ByteArray)) ++ decS a) ++ (⟨#[32]⟩ : ByteArray)) (decS b)).run Tryd.prog w = .ok (.string (((((⟨#[104, 101, 97, 100]⟩ : ByteArray) ++ (⟨#[32]⟩ : ByteArray)) ++ decS a) ++ (⟨#[32]⟩ : ByteArray)) ++ (decS b))) w := fun w => run_string_add_sum w _ _ (by rw [ByteArray.size_append, ByteArray.size_append, ByteArray.size_append]; omega)
  have hDa := fun w => decimal_any w a ha0 ha1
  have hDb := fun w => decimal_any w b hb0 hb1
  have hE : ((⟨#[104, 101, 97, 100]⟩ : ByteArray) ++ ((⟨#[32]⟩ : ByteArray) ++ decS a)) ++ ((⟨#[32]⟩ : ByteArray) ++ decS b) = ((((⟨#[104, 101, 97, 100]⟩ : ByteArray) ++ (⟨#[32]⟩ : ByteArray)) ++ decS a) ++ (⟨#[32]⟩ : ByteArray)) ++ decS b := by simp only [ByteArray.append_assoc]
  rw [hE]
  generalize decS a = da at h2 h3 h4 hDa
  generalize decS b = db at h4 hDb
  clear hE sa sb ha0 ha1 hb0 hb1 z1 z2
  go_enter Tryd.func4, Tryd.ntmps4
  go_wp2_with fail
  have hwk : IntKind.i64.wrap (1 : Int) = 1 := IntWalk.i64_in _ (by omega)
  have hc : (fun w' : World => w'.cell? ⟨w.heap.size, 0, none⟩ = some (.int .u8 1) ∧ w'.cell? ⟨w.heap.size, 1, none⟩ = some (I a) ∧ w'.cell? ⟨w.heap.size, 2, none⟩ = some (I b) ∧ w'.cell? ⟨w.heap.size + 1, 1, none⟩ = some (.string (⟨#[104, 101, 97, 100]⟩ : ByteArray))) ((w.alloc (.cells #[.int .u8 1, I a, I b] 24)).alloc (.cells #[.string (⟨#[101, 110, 100]⟩ : ByteArray), .string (⟨#[104, 101, 97, 100]⟩ : ByteArray), .string (⟨#[98, 97, 99, 107]⟩ : ByteArray), .string (⟨#[116, 97, 107, 101]⟩ : ByteArray), .string (⟨#[114, 101, 97, 100]⟩ : ByteArray), .string (⟨#[99, 97, 108, 108]⟩ : ByteArray), .string (⟨#[103, 105, 118, 101]⟩ : ByteArray), .string (⟨#[119, 114, 105, 116, 101]⟩ : ByteArray)] 9)) := by
    refine ⟨?_, ?_, ?_, ?_⟩
    · exact New.cell ((New.refl (w.alloc (.cells #[.int .u8 1, I a, I b] 24))).alloc _) (by rw [cell_of_block (heap_alloc_new w _) 0]; simp)
    · exact New.cell ((New.refl (w.alloc (.cells #[.int .u8 1, I a, I b] 24))).alloc _) (by rw [cell_of_block (heap_alloc_new w _) 1]; simp)
    · exact New.cell ((New.refl (w.alloc (.cells #[.int .u8 1, I a, I b] 24))).alloc _) (by rw [cell_of_block (heap_alloc_new w _) 2]; simp)
    · have hh := heap_alloc_new (w.alloc (.cells #[.int .u8 1, I a, I b] 24)) (.cells #[.string (⟨#[101, 110, 100]⟩ : ByteArray), .string (⟨#[104, 101, 97, 100]⟩ : ByteArray), .string (⟨#[98, 97, 99, 107]⟩ : ByteArray), .string (⟨#[116, 97, 107, 101]⟩ : ByteArray), .string (⟨#[114, 101, 97, 100]⟩ : ByteArray), .string (⟨#[99, 97, 108, 108]⟩ : ByteArray), .string (⟨#[103, 105, 118, 101]⟩ : ByteArray), .string (⟨#[119, 114, 105, 116, 101]⟩ : ByteArray)] 9)
      rw [show (w.alloc (.cells #[.int .u8 1, I a, I b] 24)).heap.size = w.heap.size + 1 by simp] at hh
      rw [cell_of_block hh 1]; simp
  have hN : New w ((w.alloc (.cells #[.int .u8 1, I a, I b] 24)).alloc (.cells #[.string (⟨#[101, 110, 100]⟩ : ByteArray), .string (⟨#[104, 101, 97, 100]⟩ : ByteArray), .string (⟨#[98, 97, 99, 107]⟩ : ByteArray), .string (⟨#[116, 97, 107, 101]⟩ : ByteArray), .string (⟨#[114, 101, 97, 100]⟩ : ByteArray), .string (⟨#[99, 97, 108, 108]⟩ : ByteArray), .string (⟨#[103, 105, 118, 101]⟩ : ByteArray), .string (⟨#[119, 114, 105, 116, 101]⟩ : ByteArray)] 9)) := ((New.refl w).alloc _).alloc _
  generalize ((w.alloc (.cells #[.int .u8 1, I a, I b] 24)).alloc (.cells #[.string (⟨#[101, 110, 100]⟩ : ByteArray), .string (⟨#[104, 101, 97, 100]⟩ : ByteArray), .string (⟨#[98, 97, 99, 107]⟩ : ByteArray), .string (⟨#[116, 97, 107, 101]⟩ : ByteArray), .string (⟨#[114, 101, 97, 100]⟩ : ByteArray), .string (⟨#[99, 97, 108, 108]⟩ : ByteArray), .string (⟨#[103, 105, 118, 101]⟩ : ByteArray), .string (⟨#[119, 114, 105, 116, 101]⟩ : ByteArray)] 9)) = w1 at hc hN ⊢
  have hS0 : (fun w' : World => w'.cell? ⟨w.heap.size, 0, none⟩ = some (.int .u8 1) ∧ w'.cell? ⟨w.heap.size, 1, none⟩ = some (I a) ∧ w'.cell? ⟨w.heap.size, 2, none⟩ = some (I b) ∧ w'.cell? ⟨w.heap.size + 1, 1, none⟩ = some (.string (⟨#[104, 101, 97, 100]⟩ : ByteArray))) w1.drew := ⟨New.cell ((New.refl w1).drew) hc.1, New.cell ((New.refl w1).drew) hc.2.1, New.cell ((New.refl w1).drew) hc.2.2.1, New.cell ((New.refl w1).drew) hc.2.2.2⟩
  refine wp_region_X (fun w' : World => w'.cell? ⟨w.heap.size, 0, none⟩ = some (.int .u8 1) ∧ w'.cell? ⟨w.heap.size, 1, none⟩ = some (I a) ∧ w'.cell? ⟨w.heap.size, 2, none⟩ = some (I b) ∧ w'.cell? ⟨w.heap.size + 1, 1, none⟩ = some (.string (⟨#[104, 101, 97, 100]⟩ : ByteArray))) [] (by kernel_rfl) hS0 ?_
  refine anyX_take 0 (by kernel_rfl) (by kernel_rfl) (by kernel_rfl) (by kernel_rfl) (by kernel_rfl) hS0 ?_
  intro oi ho; cases ho
  refine ⟨?_, fun _ _ _ h => h, Or.inl ⟨by rfl, ?_⟩, ?_⟩; rotate_left 1
  · (intro wS hSw; (try dsimp only at hSw); obtain ⟨hz0, hz1, hz2, hz3⟩ := hSw; go_simp; try with_reducible rfl)
  simp only [Act.put, List.setIfInBounds_toArray, List.set_cons_zero, List.set_cons_succ]
  refine anyX_take 1 (by kernel_rfl) (by kernel_rfl) (by kernel_rfl) (by kernel_rfl) (by kernel_rfl) hS0 ?_
  intro oi ho; cases ho
  refine ⟨?_, fun _ _ _ h => h, Or.inl ⟨by rfl, ?_⟩, ?_⟩; rotate_left 1
  · (intro wS hSw; (try dsimp only at hSw); obtain ⟨hz0, hz1, hz2, hz3⟩ := hSw; go_simp; try with_reducible rfl)
  simp only [Act.put, List.setIfInBounds_toArray, List.set_cons_zero, List.set_cons_succ]
  refine anyX_take 2 (by kernel_rfl) (by kernel_rfl) (by kernel_rfl) (by kernel_rfl) (by kernel_rfl) hS0 ?_
  intro oi ho; cases ho
  refine ⟨?_, fun _ _ _ h => h, Or.inl ⟨by rfl, ?_⟩, ?_⟩; rotate_left 1
  · (intro wS hSw; (try dsimp only at hSw); obtain ⟨hz0, hz1, hz2, hz3⟩ := hSw; go_simp; try with_reducible rfl)
  simp only [Act.put, List.setIfInBounds_toArray, List.set_cons_zero, List.set_cons_succ]
  refine anyX_take 3 (by kernel_rfl) (by kernel_rfl) (by kernel_rfl) (by kernel_rfl) (by kernel_rfl) hS0 ?_
  intro oi ho; cases ho
  refine ⟨?_, fun _ _ _ h => h, Or.inl ⟨by rfl, ?_⟩, ?_⟩; rotate_left 1
  · (intro wS hSw; (try dsimp only at hSw); obtain ⟨hz0, hz1, hz2, hz3⟩ := hSw; go_simp; try with_reducible rfl)
  simp only [Act.put, List.setIfInBounds_toArray, List.set_cons_zero, List.set_cons_succ]
  refine anyX_take 4 (by kernel_rfl) (by kernel_rfl) (by kernel_rfl) (by kernel_rfl) (by kernel_rfl) hS0 ?_
  intro oi ho; cases ho
  refine ⟨?_, fun _ _ _ h => h, Or.inl ⟨by rfl, ?_⟩, ?_⟩; rotate_left 1
  · (intro wS hSw; (try dsimp only at hSw); obtain ⟨hz0, hz1, hz2, hz3⟩ := hSw; go_simp; try with_reducible rfl)
  simp only [Act.put, List.setIfInBounds_toArray, List.set_cons_zero, List.set_cons_succ]
  refine anyX_take 5 (by kernel_rfl) (by kernel_rfl) (by kernel_rfl) (by kernel_rfl) (by kernel_rfl) hS0 ?_
  intro oi ho; cases ho
  refine ⟨?_, fun _ _ _ h => h, Or.inl ⟨by rfl, ?_⟩, ?_⟩; rotate_left 1
  · (intro wS hSw; (try dsimp only at hSw); obtain ⟨hz0, hz1, hz2, hz3⟩ := hSw; go_simp; try with_reducible rfl)
  simp only [Act.put, List.setIfInBounds_toArray, List.set_cons_zero, List.set_cons_succ]
  refine anyX_take 6 (by kernel_rfl) (by kernel_rfl) (by kernel_rfl) (by kernel_rfl) (by kernel_rfl) hS0 ?_
  intro oi ho; cases ho
  refine ⟨?_, fun _ _ _ h => h, Or.inl ⟨by rfl, ?_⟩, ?_⟩; rotate_left 1
  · (intro wS hSw; (try dsimp only at hSw); obtain ⟨hz0, hz1, hz2, hz3⟩ := hSw; go_simp; try with_reducible rfl)
  simp only [Act.put, List.setIfInBounds_toArray, List.set_cons_zero, List.set_cons_succ]
  refine anyX_take 7 (by kernel_rfl) (by kernel_rfl) (by kernel_rfl) (by kernel_rfl) (by kernel_rfl) hS0 ?_
  intro oi ho; cases ho
  refine ⟨?_, fun _ _ _ h => h, Or.inl ⟨by rfl, ?_⟩, ?_⟩; rotate_left 1
  · (intro wS hSw; (try dsimp only at hSw); obtain ⟨hz0, hz1, hz2, hz3⟩ := hSw; go_simp; try with_reducible rfl)
  simp only [Act.put, List.setIfInBounds_toArray, List.set_cons_zero, List.set_cons_succ]
  refine anyX_take 8 (by kernel_rfl) (by kernel_rfl) (by kernel_rfl) (by kernel_rfl) (by kernel_rfl) hS0 ?_
  intro oi ho; cases ho
  refine ⟨?_, fun _ _ _ h => h, Or.inl ⟨by rfl, ?_⟩, ?_⟩; rotate_left 1
  · (intro wS hSw; (try dsimp only at hSw); obtain ⟨hz0, hz1, hz2, hz3⟩ := hSw; go_simp; try with_reducible rfl)
  simp only [Act.put, List.setIfInBounds_toArray, List.set_cons_zero, List.set_cons_succ]
  refine anyX_take 12 (by kernel_rfl) (by kernel_rfl) (by kernel_rfl) (by kernel_rfl) (by kernel_rfl) hS0 ?_
  intro oi ho; cases ho
  refine ⟨?_, fun _ _ _ h => h, Or.inl ⟨by rfl, ?_⟩, ?_⟩; rotate_left 1
  · (intro wS hSw; (try dsimp only at hSw); obtain ⟨hz0, hz1, hz2, hz3⟩ := hSw; go_simp; try with_reducible rfl)
  simp only [Act.put, List.setIfInBounds_toArray, List.set_cons_zero, List.set_cons_succ]
  refine anyX_take 13 (by kernel_rfl) (by kernel_rfl) (by kernel_rfl) (by kernel_rfl) (by kernel_rfl) hS0 ?_
  intro oi ho; cases ho
  refine ⟨?_, fun _ _ _ h => h, Or.inl ⟨by rfl, ?_⟩, ?_⟩; rotate_left 1
  · (intro wS hSw; (try dsimp only at hSw); obtain ⟨hz0, hz1, hz2, hz3⟩ := hSw; go_simp; try with_reducible rfl)
  simp only [Act.put, List.setIfInBounds_toArray, List.set_cons_zero, List.set_cons_succ]
  refine anyX_one 9 (by kernel_rfl) ?_
  intro oi ho; cases ho; intro K hK
  (try simp only [Act.put, List.setIfInBounds_toArray, List.set_cons_zero, List.set_cons_succ])
  go_simp
  refine (hDa _).mono ?_
  rintro e w2 ⟨rfl, k2⟩
  have hS1 : (fun w' : World => w'.cell? ⟨w.heap.size, 0, none⟩ = some (.int .u8 1) ∧ w'.cell? ⟨w.heap.size, 1, none⟩ = some (I a) ∧ w'.cell? ⟨w.heap.size, 2, none⟩ = some (I b) ∧ w'.cell? ⟨w.heap.size + 1, 1, none⟩ = some (.string (⟨#[104, 101, 97, 100]⟩ : ByteArray))) w2 := ⟨New.cell k2 hS0.1, New.cell k2 hS0.2.1, New.cell k2 hS0.2.2.1, New.cell k2 hS0.2.2.2⟩
  refine hK _ _ (fun _ => hS1) ?_
  clear hK K
  refine anyX_take 10 (by kernel_rfl) (by kernel_rfl) (by kernel_rfl) (by kernel_rfl) (by kernel_rfl) hS1 ?_
  intro oi ho; cases ho
  refine ⟨?_, fun _ _ _ h => h, Or.inl ⟨by rfl, ?_⟩, ?_⟩; rotate_left 1
  · (intro wS hSw; (try dsimp only at hSw); obtain ⟨hz0, hz1, hz2, hz3⟩ := hSw; go_simp; try with_reducible rfl)
  simp only [Act.put, List.setIfInBounds_toArray, List.set_cons_zero, List.set_cons_succ]
  refine anyX_take 11 (by kernel_rfl) (by kernel_rfl) (by kernel_rfl) (by kernel_rfl) (by kernel_rfl) hS1 ?_
  intro oi ho; cases ho
  refine ⟨?_, fun _ _ _ h => h, Or.inl ⟨by rfl, ?_⟩, ?_⟩; rotate_left 1
  · (intro wS hSw; (try dsimp only at hSw); obtain ⟨hz0, hz1, hz2, hz3⟩ := hSw; go_simp; try with_reducible rfl)
  simp only [Act.put, List.setIfInBounds_toArray, List.set_cons_zero, List.set_cons_succ]
  refine anyX_one 14 (by kernel_rfl) ?_
  intro oi ho; cases ho; intro K hK
  (try simp only [Act.put, List.setIfInBounds_toArray, List.set_cons_zero, List.set_cons_succ])
  go_simp
  refine (hDb _).mono ?_
  rintro e w3 ⟨rfl, k3⟩
  have hS2 : (fun w' : World => w'.cell? ⟨w.heap.size, 0, none⟩ = some (.int .u8 1) ∧ w'.cell? ⟨w.heap.size, 1, none⟩ = some (I a) ∧ w'.cell? ⟨w.heap.size, 2, none⟩ = some (I b) ∧ w'.cell? ⟨w.heap.size + 1, 1, none⟩ = some (.string (⟨#[104, 101, 97, 100]⟩ : ByteArray))) w3 := ⟨New.cell k3 hS1.1, New.cell k3 hS1.2.1, New.cell k3 hS1.2.2.1, New.cell k3 hS1.2.2.2⟩
  refine hK _ _ (fun _ => hS2) ?_
  clear hK K
  refine anyX_one 15 (by kernel_rfl) ?_
  intro oi ho; cases ho; intro K hK
  (try simp only [Act.put, List.setIfInBounds_toArray, List.set_cons_zero, List.set_cons_succ])
  go_simp
  refine hK _ _ (fun _ => hS2) ?_
  clear hK K
  refine anyX_take 16 (by kernel_rfl) (by kernel_rfl) (by kernel_rfl) (by kernel_rfl) (by kernel_rfl) hS2 ?_
  intro oi ho; cases ho
  refine ⟨?_, fun _ _ _ h => h, Or.inl ⟨by rfl, ?_⟩, ?_⟩; rotate_left 1
  · (intro wS hSw; (try dsimp only at hSw); obtain ⟨hz0, hz1, hz2, hz3⟩ := hSw; go_simp; try with_reducible rfl)
  simp only [Act.put, List.setIfInBounds_toArray, List.set_cons_zero, List.set_cons_succ]
  refine anyX_take 17 (by kernel_rfl) (by kernel_rfl) (by kernel_rfl) (by kernel_rfl) (by kernel_rfl) hS2 ?_
  intro oi ho; cases ho
  refine ⟨?_, fun _ _ _ h => h, Or.inl ⟨by rfl, ?_⟩, ?_⟩; rotate_left 1
  · (intro wS hSw; (try dsimp only at hSw); obtain ⟨hz0, hz1, hz2, hz3⟩ := hSw; go_simp; try with_reducible rfl)
  simp only [Act.put, List.setIfInBounds_toArray, List.set_cons_zero, List.set_cons_succ]
  refine anyX_done (by kernel_rfl) ?_
  (try simp only [Act.put, List.setIfInBounds_toArray, List.set_cons_zero, List.set_cons_succ])
  (try simp only [Exit.then])
  go_wp2
  exact bodyPost_ret (v := .tuple #[.string (((((⟨#[104, 101, 97, 100]⟩ : ByteArray) ++ (⟨#[32]⟩ : ByteArray)) ++ da) ++ (⟨#[32]⟩ : ByteArray)) ++ db), I 0]) (by simp [results, Tryd.results4, go_sem]) rfl ⟨rfl, ((hN.drew).trans k2).trans k3⟩
set_option maxRecDepth 100000 in
set_option maxHeartbeats 4000000 in
theorem rshow_2 (w : World) (a b : Int) (ha0 : -9223372036854775808 ≤ a) (ha1 : a ≤ 9223372036854775807) (hb0 : -9223372036854775808 ≤ b) (hb1 : b ≤ 9223372036854775807) :
    Calls Tryd.prog 4 #[.agg #[.int .u8 2, I a, I b]] w fun e w' => e = .returned (.tuple #[.string (((⟨#[98, 97, 99, 107]⟩ : ByteArray) ++ ((⟨#[32]⟩ : ByteArray) ++ decS a)) ++ ((⟨#[32]⟩ : ByteArray) ++ decS b)), I 0]) ∧ New w w' := by
  have sa := decS_size a ha0 ha1
  have sb := decS_size b hb0 hb1
  have z1 : (⟨#[98, 97, 99, 107]⟩ : ByteArray).size = 4 := rfl
  have z2 : (⟨#[32]⟩ : ByteArray).size = 1 := rfl
  have h1 : ∀ w : World, (Op.stringOp .add (⟨#[98, 97, 99, 107]⟩ : ByteArray) (⟨#[32]⟩ : ByteArray)).run Tryd.prog w = .ok (.string ((⟨#[98, 97, 99, 107]⟩ : ByteArray) ++ (⟨#[32]⟩ : ByteArray))) w := fun w => run_string_add_sum w _ _ (by omega)
  have h2 : ∀ w : World, (Op.stringOp .add ((⟨#[98, 97, 99, 107]⟩ : ByteArray) ++ (⟨#[32]⟩ : ByteArray)) (decS a)).run Tryd.prog w = .ok (.string (((⟨#[98, 97, 99, 107]⟩ : ByteArray) ++ (⟨#[32]⟩ : ByteArray)) ++ (decS a))) w := fun w => run_string_add_sum w _ _ (by rw [ByteArray.size_append]; omega)
  have h3 : ∀ w : World, (Op.stringOp .add (((⟨#[98, 97, 99, 107]⟩ : ByteArray) ++ (⟨#[32]⟩ : ByteArray)) ++ decS a) (⟨#[32]⟩ : ByteArray)).run Tryd.prog w = .ok (.string ((((⟨#[98, 97, 99, 107]⟩ : ByteArray) ++ (⟨#[32]⟩ : ByteArray)) ++ decS a) ++ (⟨#[32]⟩ : ByteArray))) w := fun w => run_string_add_sum w _ _ (by rw [ByteArray.size_append, ByteArray.size_append]; omega)
  have h4 : ∀ w : World, (Op.stringOp .add ((((⟨#[98, 97, 99, 107]⟩ : ByteArray) ++ (⟨#[32]⟩ : ByteArray)) ++ decS a) ++ (⟨#[32]⟩ : ByteArray)) (decS b)).run Tryd.prog w = .ok (.string (((((⟨#[98, 97, 99, 107]⟩ : ByteArray) ++ (⟨#[32]⟩ : ByteArray)) ++ decS a) ++ (⟨#[32]⟩ : ByteArray)) ++ (decS b))) w := fun w => run_string_add_sum w _ _ (by rw [ByteArray.size_append, ByteArray.size_append, ByteArray.size_append]; omega)
  have hDa := fun w => decimal_any w a ha0 ha1
  have hDb := fun w => decimal_any w b hb0 hb1
  have hE : ((⟨#[98, 97, 99, 107]⟩ : ByteArray) ++ ((⟨#[32]⟩ : ByteArray) ++ decS a)) ++ ((⟨#[32]⟩ : ByteArray) ++ decS b) = ((((⟨#[98, 97, 99, 107]⟩ : ByteArray) ++ (⟨#[32]⟩ : ByteArray)) ++ decS a) ++ (⟨#[32]⟩ : ByteArray)) ++ decS b := by simp only [ByteArray.append_assoc]
  rw [hE]
  generalize decS a = da at h2 h3 h4 hDa
  generalize decS b = db at h4 hDb
  clear hE sa sb ha0 ha1 hb0 hb1 z1 z2
  go_enter Tryd.func4, Tryd.ntmps4
  go_wp2_with fail
  have hwk : IntKind.i64.wrap (2 : Int) = 2 := IntWalk.i64_in _ (by omega)
  have hc : (fun w' : World => w'.cell? ⟨w.heap.size, 0, none⟩ = some (.int .u8 2) ∧ w'.cell? ⟨w.heap.size, 1, none⟩ = some (I a) ∧ w'.cell? ⟨w.heap.size, 2, none⟩ = some (I b) ∧ w'.cell? ⟨w.heap.size + 1, 2, none⟩ = some (.string (⟨#[98, 97, 99, 107]⟩ : ByteArray))) ((w.alloc (.cells #[.int .u8 2, I a, I b] 24)).alloc (.cells #[.string (⟨#[101, 110, 100]⟩ : ByteArray), .string (⟨#[104, 101, 97, 100]⟩ : ByteArray), .string (⟨#[98, 97, 99, 107]⟩ : ByteArray), .string (⟨#[116, 97, 107, 101]⟩ : ByteArray), .string (⟨#[114, 101, 97, 100]⟩ : ByteArray), .string (⟨#[99, 97, 108, 108]⟩ : ByteArray), .string (⟨#[103, 105, 118, 101]⟩ : ByteArray), .string (⟨#[119, 114, 105, 116, 101]⟩ : ByteArray)] 9)) := by
    refine ⟨?_, ?_, ?_, ?_⟩
    · exact New.cell ((New.refl (w.alloc (.cells #[.int .u8 2, I a, I b] 24))).alloc _) (by rw [cell_of_block (heap_alloc_new w _) 0]; simp)
    · exact New.cell ((New.refl (w.alloc (.cells #[.int .u8 2, I a, I b] 24))).alloc _) (by rw [cell_of_block (heap_alloc_new w _) 1]; simp)
    · exact New.cell ((New.refl (w.alloc (.cells #[.int .u8 2, I a, I b] 24))).alloc _) (by rw [cell_of_block (heap_alloc_new w _) 2]; simp)
    · have hh := heap_alloc_new (w.alloc (.cells #[.int .u8 2, I a, I b] 24)) (.cells #[.string (⟨#[101, 110, 100]⟩ : ByteArray), .string (⟨#[104, 101, 97, 100]⟩ : ByteArray), .string (⟨#[98, 97, 99, 107]⟩ : ByteArray), .string (⟨#[116, 97, 107, 101]⟩ : ByteArray), .string (⟨#[114, 101, 97, 100]⟩ : ByteArray), .string (⟨#[99, 97, 108, 108]⟩ : ByteArray), .string (⟨#[103, 105, 118, 101]⟩ : ByteArray), .string (⟨#[119, 114, 105, 116, 101]⟩ : ByteArray)] 9)
      rw [show (w.alloc (.cells #[.int .u8 2, I a, I b] 24)).heap.size = w.heap.size + 1 by simp] at hh
      rw [cell_of_block hh 2]; simp
  have hN : New w ((w.alloc (.cells #[.int .u8 2, I a, I b] 24)).alloc (.cells #[.string (⟨#[101, 110, 100]⟩ : ByteArray), .string (⟨#[104, 101, 97, 100]⟩ : ByteArray), .string (⟨#[98, 97, 99, 107]⟩ : ByteArray), .string (⟨#[116, 97, 107, 101]⟩ : ByteArray), .string (⟨#[114, 101, 97, 100]⟩ : ByteArray), .string (⟨#[99, 97, 108, 108]⟩ : ByteArray), .string (⟨#[103, 105, 118, 101]⟩ : ByteArray), .string (⟨#[119, 114, 105, 116, 101]⟩ : ByteArray)] 9)) := ((New.refl w).alloc _).alloc _
  generalize ((w.alloc (.cells #[.int .u8 2, I a, I b] 24)).alloc (.cells #[.string (⟨#[101, 110, 100]⟩ : ByteArray), .string (⟨#[104, 101, 97, 100]⟩ : ByteArray), .string (⟨#[98, 97, 99, 107]⟩ : ByteArray), .string (⟨#[116, 97, 107, 101]⟩ : ByteArray), .string (⟨#[114, 101, 97, 100]⟩ : ByteArray), .string (⟨#[99, 97, 108, 108]⟩ : ByteArray), .string (⟨#[103, 105, 118, 101]⟩ : ByteArray), .string (⟨#[119, 114, 105, 116, 101]⟩ : ByteArray)] 9)) = w1 at hc hN ⊢
  have hS0 : (fun w' : World => w'.cell? ⟨w.heap.size, 0, none⟩ = some (.int .u8 2) ∧ w'.cell? ⟨w.heap.size, 1, none⟩ = some (I a) ∧ w'.cell? ⟨w.heap.size, 2, none⟩ = some (I b) ∧ w'.cell? ⟨w.heap.size + 1, 2, none⟩ = some (.string (⟨#[98, 97, 99, 107]⟩ : ByteArray))) w1.drew := ⟨New.cell ((New.refl w1).drew) hc.1, New.cell ((New.refl w1).drew) hc.2.1, New.cell ((New.refl w1).drew) hc.2.2.1, New.cell ((New.refl w1).drew) hc.2.2.2⟩
  refine wp_region_X (fun w' : World => w'.cell? ⟨w.heap.size, 0, none⟩ = some (.int .u8 2) ∧ w'.cell? ⟨w.heap.size, 1, none⟩ = some (I a) ∧ w'.cell? ⟨w.heap.size, 2, none⟩ = some (I b) ∧ w'.cell? ⟨w.heap.size + 1, 2, none⟩ = some (.string (⟨#[98, 97, 99, 107]⟩ : ByteArray))) [] (by kernel_rfl) hS0 ?_
  refine anyX_take 0 (by kernel_rfl) (by kernel_rfl) (by kernel_rfl) (by kernel_rfl) (by kernel_rfl) hS0 ?_
  intro oi ho; cases ho
  refine ⟨?_, fun _ _ _ h => h, Or.inl ⟨by rfl, ?_⟩, ?_⟩; rotate_left 1
  · (intro wS hSw; (try dsimp only at hSw); obtain ⟨hz0, hz1, hz2, hz3⟩ := hSw; go_simp; try with_reducible rfl)
  simp only [Act.put, List.setIfInBounds_toArray, List.set_cons_zero, List.set_cons_succ]
  refine anyX_take 1 (by kernel_rfl) (by kernel_rfl) (by kernel_rfl) (by kernel_rfl) (by kernel_rfl) hS0 ?_
  intro oi ho; cases ho
  refine ⟨?_, fun _ _ _ h => h, Or.inl ⟨by rfl, ?_⟩, ?_⟩; rotate_left 1
  · (intro wS hSw; (try dsimp only at hSw); obtain ⟨hz0, hz1, hz2, hz3⟩ := hSw; go_simp; try with_reducible rfl)
  simp only [Act.put, List.setIfInBounds_toArray, List.set_cons_zero, List.set_cons_succ]
  refine anyX_take 2 (by kernel_rfl) (by kernel_rfl) (by kernel_rfl) (by kernel_rfl) (by kernel_rfl) hS0 ?_
  intro oi ho; cases ho
  refine ⟨?_, fun _ _ _ h => h, Or.inl ⟨by rfl, ?_⟩, ?_⟩; rotate_left 1
  · (intro wS hSw; (try dsimp only at hSw); obtain ⟨hz0, hz1, hz2, hz3⟩ := hSw; go_simp; try with_reducible rfl)
  simp only [Act.put, List.setIfInBounds_toArray, List.set_cons_zero, List.set_cons_succ]
  refine anyX_take 3 (by kernel_rfl) (by kernel_rfl) (by kernel_rfl) (by kernel_rfl) (by kernel_rfl) hS0 ?_
  intro oi ho; cases ho
  refine ⟨?_, fun _ _ _ h => h, Or.inl ⟨by rfl, ?_⟩, ?_⟩; rotate_left 1
  · (intro wS hSw; (try dsimp only at hSw); obtain ⟨hz0, hz1, hz2, hz3⟩ := hSw; go_simp; try with_reducible rfl)
  simp only [Act.put, List.setIfInBounds_toArray, List.set_cons_zero, List.set_cons_succ]
  refine anyX_take 4 (by kernel_rfl) (by kernel_rfl) (by kernel_rfl) (by kernel_rfl) (by kernel_rfl) hS0 ?_
  intro oi ho; cases ho
  refine ⟨?_, fun _ _ _ h => h, Or.inl ⟨by rfl, ?_⟩, ?_⟩; rotate_left 1
  · (intro wS hSw; (try dsimp only at hSw); obtain ⟨hz0, hz1, hz2, hz3⟩ := hSw; go_simp; try with_reducible rfl)
  simp only [Act.put, List.setIfInBounds_toArray, List.set_cons_zero, List.set_cons_succ]
  refine anyX_take 5 (by kernel_rfl) (by kernel_rfl) (by kernel_rfl) (by kernel_rfl) (by kernel_rfl) hS0 ?_
  intro oi ho; cases ho
  refine ⟨?_, fun _ _ _ h => h, Or.inl ⟨by rfl, ?_⟩, ?_⟩; rotate_left 1
  · (intro wS hSw; (try dsimp only at hSw); obtain ⟨hz0, hz1, hz2, hz3⟩ := hSw; go_simp; try with_reducible rfl)
  simp only [Act.put, List.setIfInBounds_toArray, List.set_cons_zero, List.set_cons_succ]
  refine anyX_take 6 (by kernel_rfl) (by kernel_rfl) (by kernel_rfl) (by kernel_rfl) (by kernel_rfl) hS0 ?_
  intro oi ho; cases ho
  refine ⟨?_, fun _ _ _ h => h, Or.inl ⟨by rfl, ?_⟩, ?_⟩; rotate_left 1
  · (intro wS hSw; (try dsimp only at hSw); obtain ⟨hz0, hz1, hz2, hz3⟩ := hSw; go_simp; try with_reducible rfl)
  simp only [Act.put, List.setIfInBounds_toArray, List.set_cons_zero, List.set_cons_succ]
  refine anyX_take 7 (by kernel_rfl) (by kernel_rfl) (by kernel_rfl) (by kernel_rfl) (by kernel_rfl) hS0 ?_
  intro oi ho; cases ho
  refine ⟨?_, fun _ _ _ h => h, Or.inl ⟨by rfl, ?_⟩, ?_⟩; rotate_left 1
  · (intro wS hSw; (try dsimp only at hSw); obtain ⟨hz0, hz1, hz2, hz3⟩ := hSw; go_simp; try with_reducible rfl)
  simp only [Act.put, List.setIfInBounds_toArray, List.set_cons_zero, List.set_cons_succ]
  refine anyX_take 8 (by kernel_rfl) (by kernel_rfl) (by kernel_rfl) (by kernel_rfl) (by kernel_rfl) hS0 ?_
  intro oi ho; cases ho
  refine ⟨?_, fun _ _ _ h => h, Or.inl ⟨by rfl, ?_⟩, ?_⟩; rotate_left 1
  · (intro wS hSw; (try dsimp only at hSw); obtain ⟨hz0, hz1, hz2, hz3⟩ := hSw; go_simp; try with_reducible rfl)
  simp only [Act.put, List.setIfInBounds_toArray, List.set_cons_zero, List.set_cons_succ]
  refine anyX_take 12 (by kernel_rfl) (by kernel_rfl) (by kernel_rfl) (by kernel_rfl) (by kernel_rfl) hS0 ?_
  intro oi ho; cases ho
  refine ⟨?_, fun _ _ _ h => h, Or.inl ⟨by rfl, ?_⟩, ?_⟩; rotate_left 1
  · (intro wS hSw; (try dsimp only at hSw); obtain ⟨hz0, hz1, hz2, hz3⟩ := hSw; go_simp; try with_reducible rfl)
  simp only [Act.put, List.setIfInBounds_toArray, List.set_cons_zero, List.set_cons_succ]
  refine anyX_take 13 (by kernel_rfl) (by kernel_rfl) (by kernel_rfl) (by kernel_rfl) (by kernel_rfl) hS0 ?_
  intro oi ho; cases ho
  refine ⟨?_, fun _ _ _ h => h, Or.inl ⟨by rfl, ?_⟩, ?_⟩; rotate_left 1
  · (intro wS hSw; (try dsimp only at hSw); obtain ⟨hz0, hz1, hz2, hz3⟩ := hSw; go_simp; try with_reducible rfl)
  simp only [Act.put, List.setIfInBounds_toArray, List.set_cons_zero, List.set_cons_succ]
  refine anyX_one 9 (by kernel_rfl) ?_
  intro oi ho; cases ho; intro K hK
  (try simp only [Act.put, List.setIfInBounds_toArray, List.set_cons_zero, List.set_cons_succ])
  go_simp
  refine (hDa _).mono ?_
  rintro e w2 ⟨rfl, k2⟩
  have hS1 : (fun w' : World => w'.cell? ⟨w.heap.size, 0, none⟩ = some (.int .u8 2) ∧ w'.cell? ⟨w.heap.size, 1, none⟩ = some (I a) ∧ w'.cell? ⟨w.heap.size, 2, none⟩ = some (I b) ∧ w'.cell? ⟨w.heap.size + 1, 2, none⟩ = some (.string (⟨#[98, 97, 99, 107]⟩ : ByteArray))) w2 := ⟨New.cell k2 hS0.1, New.cell k2 hS0.2.1, New.cell k2 hS0.2.2.1, New.cell k2 hS0.2.2.2⟩
  refine hK _ _ (fun _ => hS1) ?_
  clear hK K
  refine anyX_take 10 (by kernel_rfl) (by kernel_rfl) (by kernel_rfl) (by kernel_rfl) (by kernel_rfl) hS1 ?_
  intro oi ho; cases ho
  refine ⟨?_, fun _ _ _ h => h, Or.inl ⟨by rfl, ?_⟩, ?_⟩; rotate_left 1
  · (intro wS hSw; (try dsimp only at hSw); obtain ⟨hz0, hz1, hz2, hz3⟩ := hSw; go_simp; try with_reducible rfl)
  simp only [Act.put, List.setIfInBounds_toArray, List.set_cons_zero, List.set_cons_succ]
  refine anyX_take 11 (by kernel_rfl) (by kernel_rfl) (by kernel_rfl) (by kernel_rfl) (by kernel_rfl) hS1 ?_
  intro oi ho; cases ho
  refine ⟨?_, fun _ _ _ h => h, Or.inl ⟨by rfl, ?_⟩, ?_⟩; rotate_left 1
  · (intro wS hSw; (try dsimp only at hSw); obtain ⟨hz0, hz1, hz2, hz3⟩ := hSw; go_simp; try with_reducible rfl)
  simp only [Act.put, List.setIfInBounds_toArray, List.set_cons_zero, List.set_cons_succ]
  refine anyX_one 14 (by kernel_rfl) ?_
  intro oi ho; cases ho; intro K hK
  (try simp only [Act.put, List.setIfInBounds_toArray, List.set_cons_zero, List.set_cons_succ])
  go_simp
  refine (hDb _).mono ?_
  rintro e w3 ⟨rfl, k3⟩
  have hS2 : (fun w' : World => w'.cell? ⟨w.heap.size, 0, none⟩ = some (.int .u8 2) ∧ w'.cell? ⟨w.heap.size, 1, none⟩ = some (I a) ∧ w'.cell? ⟨w.heap.size, 2, none⟩ = some (I b) ∧ w'.cell? ⟨w.heap.size + 1, 2, none⟩ = some (.string (⟨#[98, 97, 99, 107]⟩ : ByteArray))) w3 := ⟨New.cell k3 hS1.1, New.cell k3 hS1.2.1, New.cell k3 hS1.2.2.1, New.cell k3 hS1.2.2.2⟩
  refine hK _ _ (fun _ => hS2) ?_
  clear hK K
  refine anyX_one 15 (by kernel_rfl) ?_
  intro oi ho; cases ho; intro K hK
  (try simp only [Act.put, List.setIfInBounds_toArray, List.set_cons_zero, List.set_cons_succ])
  go_simp
  refine hK _ _ (fun _ => hS2) ?_
  clear hK K
  refine anyX_take 16 (by kernel_rfl) (by kernel_rfl) (by kernel_rfl) (by kernel_rfl) (by kernel_rfl) hS2 ?_
  intro oi ho; cases ho
  refine ⟨?_, fun _ _ _ h => h, Or.inl ⟨by rfl, ?_⟩, ?_⟩; rotate_left 1
  · (intro wS hSw; (try dsimp only at hSw); obtain ⟨hz0, hz1, hz2, hz3⟩ := hSw; go_simp; try with_reducible rfl)
  simp only [Act.put, List.setIfInBounds_toArray, List.set_cons_zero, List.set_cons_succ]
  refine anyX_take 17 (by kernel_rfl) (by kernel_rfl) (by kernel_rfl) (by kernel_rfl) (by kernel_rfl) hS2 ?_
  intro oi ho; cases ho
  refine ⟨?_, fun _ _ _ h => h, Or.inl ⟨by rfl, ?_⟩, ?_⟩; rotate_left 1
  · (intro wS hSw; (try dsimp only at hSw); obtain ⟨hz0, hz1, hz2, hz3⟩ := hSw; go_simp; try with_reducible rfl)
  simp only [Act.put, List.setIfInBounds_toArray, List.set_cons_zero, List.set_cons_succ]
  refine anyX_done (by kernel_rfl) ?_
  (try simp only [Act.put, List.setIfInBounds_toArray, List.set_cons_zero, List.set_cons_succ])
  (try simp only [Exit.then])
  go_wp2
  exact bodyPost_ret (v := .tuple #[.string (((((⟨#[98, 97, 99, 107]⟩ : ByteArray) ++ (⟨#[32]⟩ : ByteArray)) ++ da) ++ (⟨#[32]⟩ : ByteArray)) ++ db), I 0]) (by simp [results, Tryd.results4, go_sem]) rfl ⟨rfl, ((hN.drew).trans k2).trans k3⟩
set_option maxRecDepth 100000 in
set_option maxHeartbeats 4000000 in
theorem rshow_3 (w : World) (a b : Int) (ha0 : -9223372036854775808 ≤ a) (ha1 : a ≤ 9223372036854775807) (hb0 : -9223372036854775808 ≤ b) (hb1 : b ≤ 9223372036854775807) :
    Calls Tryd.prog 4 #[.agg #[.int .u8 3, I a, I b]] w fun e w' => e = .returned (.tuple #[.string (((⟨#[116, 97, 107, 101]⟩ : ByteArray) ++ ((⟨#[32]⟩ : ByteArray) ++ decS a)) ++ ((⟨#[32]⟩ : ByteArray) ++ decS b)), I 0]) ∧ New w w' := by
  have sa := decS_size a ha0 ha1
  have sb := decS_size b hb0 hb1
  have z1 : (⟨#[116, 97, 107, 101]⟩ : ByteArray).size = 4 := rfl
  have z2 : (⟨#[32]⟩ : ByteArray).size = 1 := rfl
  have h1 : ∀ w : World, (Op.stringOp .add (⟨#[116, 97, 107, 101]⟩ : ByteArray) (⟨#[32]⟩ : ByteArray)).run Tryd.prog w = .ok (.string ((⟨#[116, 97, 107, 101]⟩ : ByteArray) ++ (⟨#[32]⟩ : ByteArray))) w := fun w => run_string_add_sum w _ _ (by omega)
  have h2 : ∀ w : World, (Op.stringOp .add ((⟨#[116, 97, 107, 101]⟩ : ByteArray) ++ (⟨#[32]⟩ : ByteArray)) (decS a)).run Tryd.prog w = .ok (.string (((⟨#[116, 97, 107, 101]⟩ : ByteArray) ++ (⟨#[32]⟩ : ByteArray)) ++ (decS a))) w := fun w => run_string_add_sum w _ _ (by rw [ByteArray.size_append]; omega)
  have h3 : ∀ w : World, (Op.stringOp .add (((⟨#[116, 97, 107, 101]⟩ : ByteArray) ++ (⟨#[32]⟩ : ByteArray)) ++ decS a) (⟨#[32]⟩ : ByteArray)).run Tryd.prog w = .ok (.string ((((⟨#[116, 97, 107, 101]⟩ : ByteArray) ++ (⟨#[32]⟩ : ByteArray)) ++ decS a) ++ (⟨#[32]⟩ : ByteArray))) w := fun w => run_string_add_sum w _ _ (by rw [ByteArray.size_append, ByteArray.size_append]; omega)
  have h4 : ∀ w : World, (Op.stringOp .add ((((⟨#[116, 97, 107, 101]⟩ : ByteArray) ++ (⟨#[32]⟩ : ByteArray)) ++ decS a) ++ (⟨#[32]⟩ : ByteArray)) (decS b)).run Tryd.prog w = .ok (.string (((((⟨#[116, 97, 107, 101]⟩ : ByteArray) ++ (⟨#[32]⟩ : ByteArray)) ++ decS a) ++ (⟨#[32]⟩ : ByteArray)) ++ (decS b))) w := fun w => run_string_add_sum w _ _ (by rw [ByteArray.size_append, ByteArray.size_append, ByteArray.size_append]; omega)
  have hDa := fun w => decimal_any w a ha0 ha1
  have hDb := fun w => decimal_any w b hb0 hb1
  have hE : ((⟨#[116, 97, 107, 101]⟩ : ByteArray) ++ ((⟨#[32]⟩ : ByteArray) ++ decS a)) ++ ((⟨#[32]⟩ : ByteArray) ++ decS b) = ((((⟨#[116, 97, 107, 101]⟩ : ByteArray) ++ (⟨#[32]⟩ : ByteArray)) ++ decS a) ++ (⟨#[32]⟩ : ByteArray)) ++ decS b := by simp only [ByteArray.append_assoc]
  rw [hE]
  generalize decS a = da at h2 h3 h4 hDa
  generalize decS b = db at h4 hDb
  clear hE sa sb ha0 ha1 hb0 hb1 z1 z2
  go_enter Tryd.func4, Tryd.ntmps4
  go_wp2_with fail
  have hwk : IntKind.i64.wrap (3 : Int) = 3 := IntWalk.i64_in _ (by omega)
  have hc : (fun w' : World => w'.cell? ⟨w.heap.size, 0, none⟩ = some (.int .u8 3) ∧ w'.cell? ⟨w.heap.size, 1, none⟩ = some (I a) ∧ w'.cell? ⟨w.heap.size, 2, none⟩ = some (I b) ∧ w'.cell? ⟨w.heap.size + 1, 3, none⟩ = some (.string (⟨#[116, 97, 107, 101]⟩ : ByteArray))) ((w.alloc (.cells #[.int .u8 3, I a, I b] 24)).alloc (.cells #[.string (⟨#[101, 110, 100]⟩ : ByteArray), .string (⟨#[104, 101, 97, 100]⟩ : ByteArray), .string (⟨#[98, 97, 99, 107]⟩ : ByteArray), .string (⟨#[116, 97, 107, 101]⟩ : ByteArray), .string (⟨#[114, 101, 97, 100]⟩ : ByteArray), .string (⟨#[99, 97, 108, 108]⟩ : ByteArray), .string (⟨#[103, 105, 118, 101]⟩ : ByteArray), .string (⟨#[119, 114, 105, 116, 101]⟩ : ByteArray)] 9)) := by
    refine ⟨?_, ?_, ?_, ?_⟩
    · exact New.cell ((New.refl (w.alloc (.cells #[.int .u8 3, I a, I b] 24))).alloc _) (by rw [cell_of_block (heap_alloc_new w _) 0]; simp)
    · exact New.cell ((New.refl (w.alloc (.cells #[.int .u8 3, I a, I b] 24))).alloc _) (by rw [cell_of_block (heap_alloc_new w _) 1]; simp)
    · exact New.cell ((New.refl (w.alloc (.cells #[.int .u8 3, I a, I b] 24))).alloc _) (by rw [cell_of_block (heap_alloc_new w _) 2]; simp)
    · have hh := heap_alloc_new (w.alloc (.cells #[.int .u8 3, I a, I b] 24)) (.cells #[.string (⟨#[101, 110, 100]⟩ : ByteArray), .string (⟨#[104, 101, 97, 100]⟩ : ByteArray), .string (⟨#[98, 97, 99, 107]⟩ : ByteArray), .string (⟨#[116, 97, 107, 101]⟩ : ByteArray), .string (⟨#[114, 101, 97, 100]⟩ : ByteArray), .string (⟨#[99, 97, 108, 108]⟩ : ByteArray), .string (⟨#[103, 105, 118, 101]⟩ : ByteArray), .string (⟨#[119, 114, 105, 116, 101]⟩ : ByteArray)] 9)
      rw [show (w.alloc (.cells #[.int .u8 3, I a, I b] 24)).heap.size = w.heap.size + 1 by simp] at hh
      rw [cell_of_block hh 3]; simp
  have hN : New w ((w.alloc (.cells #[.int .u8 3, I a, I b] 24)).alloc (.cells #[.string (⟨#[101, 110, 100]⟩ : ByteArray), .string (⟨#[104, 101, 97, 100]⟩ : ByteArray), .string (⟨#[98, 97, 99, 107]⟩ : ByteArray), .string (⟨#[116, 97, 107, 101]⟩ : ByteArray), .string (⟨#[114, 101, 97, 100]⟩ : ByteArray), .string (⟨#[99, 97, 108, 108]⟩ : ByteArray), .string (⟨#[103, 105, 118, 101]⟩ : ByteArray), .string (⟨#[119, 114, 105, 116, 101]⟩ : ByteArray)] 9)) := ((New.refl w).alloc _).alloc _
  generalize ((w.alloc (.cells #[.int .u8 3, I a, I b] 24)).alloc (.cells #[.string (⟨#[101, 110, 100]⟩ : ByteArray), .string (⟨#[104, 101, 97, 100]⟩ : ByteArray), .string (⟨#[98, 97, 99, 107]⟩ : ByteArray), .string (⟨#[116, 97, 107, 101]⟩ : ByteArray), .string (⟨#[114, 101, 97, 100]⟩ : ByteArray), .string (⟨#[99, 97, 108, 108]⟩ : ByteArray), .string (⟨#[103, 105, 118, 101]⟩ : ByteArray), .string (⟨#[119, 114, 105, 116, 101]⟩ : ByteArray)] 9)) = w1 at hc hN ⊢
  have hS0 : (fun w' : World => w'.cell? ⟨w.heap.size, 0, none⟩ = some (.int .u8 3) ∧ w'.cell? ⟨w.heap.size, 1, none⟩ = some (I a) ∧ w'.cell? ⟨w.heap.size, 2, none⟩ = some (I b) ∧ w'.cell? ⟨w.heap.size + 1, 3, none⟩ = some (.string (⟨#[116, 97, 107, 101]⟩ : ByteArray))) w1.drew := ⟨New.cell ((New.refl w1).drew) hc.1, New.cell ((New.refl w1).drew) hc.2.1, New.cell ((New.refl w1).drew) hc.2.2.1, New.cell ((New.refl w1).drew) hc.2.2.2⟩
  refine wp_region_X (fun w' : World => w'.cell? ⟨w.heap.size, 0, none⟩ = some (.int .u8 3) ∧ w'.cell? ⟨w.heap.size, 1, none⟩ = some (I a) ∧ w'.cell? ⟨w.heap.size, 2, none⟩ = some (I b) ∧ w'.cell? ⟨w.heap.size + 1, 3, none⟩ = some (.string (⟨#[116, 97, 107, 101]⟩ : ByteArray))) [] (by kernel_rfl) hS0 ?_
  refine anyX_take 0 (by kernel_rfl) (by kernel_rfl) (by kernel_rfl) (by kernel_rfl) (by kernel_rfl) hS0 ?_
  intro oi ho; cases ho
  refine ⟨?_, fun _ _ _ h => h, Or.inl ⟨by rfl, ?_⟩, ?_⟩; rotate_left 1
  · (intro wS hSw; (try dsimp only at hSw); obtain ⟨hz0, hz1, hz2, hz3⟩ := hSw; go_simp; try with_reducible rfl)
  simp only [Act.put, List.setIfInBounds_toArray, List.set_cons_zero, List.set_cons_succ]
  refine anyX_take 1 (by kernel_rfl) (by kernel_rfl) (by kernel_rfl) (by kernel_rfl) (by kernel_rfl) hS0 ?_
  intro oi ho; cases ho
  refine ⟨?_, fun _ _ _ h => h, Or.inl ⟨by rfl, ?_⟩, ?_⟩; rotate_left 1
  · (intro wS hSw; (try dsimp only at hSw); obtain ⟨hz0, hz1, hz2, hz3⟩ := hSw; go_simp; try with_reducible rfl)
  simp only [Act.put, List.setIfInBounds_toArray, List.set_cons_zero, List.set_cons_succ]
  refine anyX_take 2 (by kernel_rfl) (by kernel_rfl) (by kernel_rfl) (by kernel_rfl) (by kernel_rfl) hS0 ?_
  intro oi ho; cases ho
  refine ⟨?_, fun _ _ _ h => h, Or.inl ⟨by rfl, ?_⟩, ?_⟩; rotate_left 1
  · (intro wS hSw; (try dsimp only at hSw); obtain ⟨hz0, hz1, hz2, hz3⟩ := hSw; go_simp; try with_reducible rfl)
  simp only [Act.put, List.setIfInBounds_toArray, List.set_cons_zero, List.set_cons_succ]
  refine anyX_take 3 (by kernel_rfl) (by kernel_rfl) (by kernel_rfl) (by kernel_rfl) (by kernel_rfl) hS0 ?_
  intro oi ho; cases ho
  refine ⟨?_, fun _ _ _ h => h, Or.inl ⟨by rfl, ?_⟩, ?_⟩; rotate_left 1
  · (intro wS hSw; (try dsimp only at hSw); obtain ⟨hz0, hz1, hz2, hz3⟩ := hSw; go_simp; try with_reducible rfl)
  simp only [Act.put, List.setIfInBounds_toArray, List.set_cons_zero, List.set_cons_succ]
  refine anyX_take 4 (by kernel_rfl) (by kernel_rfl) (by kernel_rfl) (by kernel_rfl) (by kernel_rfl) hS0 ?_
  intro oi ho; cases ho
  refine ⟨?_, fun _ _ _ h => h, Or.inl ⟨by rfl, ?_⟩, ?_⟩; rotate_left 1
  · (intro wS hSw; (try dsimp only at hSw); obtain ⟨hz0, hz1, hz2, hz3⟩ := hSw; go_simp; try with_reducible rfl)
  simp only [Act.put, List.setIfInBounds_toArray, List.set_cons_zero, List.set_cons_succ]
  refine anyX_take 5 (by kernel_rfl) (by kernel_rfl) (by kernel_rfl) (by kernel_rfl) (by kernel_rfl) hS0 ?_
  intro oi ho; cases ho
  refine ⟨?_, fun _ _ _ h => h, Or.inl ⟨by rfl, ?_⟩, ?_⟩; rotate_left 1
  · (intro wS hSw; (try dsimp only at hSw); obtain ⟨hz0, hz1, hz2, hz3⟩ := hSw; go_simp; try with_reducible rfl)
  simp only [Act.put, List.setIfInBounds_toArray, List.set_cons_zero, List.set_cons_succ]
  refine anyX_take 6 (by kernel_rfl) (by kernel_rfl) (by kernel_rfl) (by kernel_rfl) (by kernel_rfl) hS0 ?_
  intro oi ho; cases ho
  refine ⟨?_, fun _ _ _ h => h, Or.inl ⟨by rfl, ?_⟩, ?_⟩; rotate_left 1
  · (intro wS hSw; (try dsimp only at hSw); obtain ⟨hz0, hz1, hz2, hz3⟩ := hSw; go_simp; try with_reducible rfl)
  simp only [Act.put, List.setIfInBounds_toArray, List.set_cons_zero, List.set_cons_succ]
  refine anyX_take 7 (by kernel_rfl) (by kernel_rfl) (by kernel_rfl) (by kernel_rfl) (by kernel_rfl) hS0 ?_
  intro oi ho; cases ho
  refine ⟨?_, fun _ _ _ h => h, Or.inl ⟨by rfl, ?_⟩, ?_⟩; rotate_left 1
  · (intro wS hSw; (try dsimp only at hSw); obtain ⟨hz0, hz1, hz2, hz3⟩ := hSw; go_simp; try with_reducible rfl)
  simp only [Act.put, List.setIfInBounds_toArray, List.set_cons_zero, List.set_cons_succ]
  refine anyX_take 8 (by kernel_rfl) (by kernel_rfl) (by kernel_rfl) (by kernel_rfl) (by kernel_rfl) hS0 ?_
  intro oi ho; cases ho
  refine ⟨?_, fun _ _ _ h => h, Or.inl ⟨by rfl, ?_⟩, ?_⟩; rotate_left 1
  · (intro wS hSw; (try dsimp only at hSw); obtain ⟨hz0, hz1, hz2, hz3⟩ := hSw; go_simp; try with_reducible rfl)
  simp only [Act.put, List.setIfInBounds_toArray, List.set_cons_zero, List.set_cons_succ]
  refine anyX_take 12 (by kernel_rfl) (by kernel_rfl) (by kernel_rfl) (by kernel_rfl) (by kernel_rfl) hS0 ?_
  intro oi ho; cases ho
  refine ⟨?_, fun _ _ _ h => h, Or.inl ⟨by rfl, ?_⟩, ?_⟩; rotate_left 1
  · (intro wS hSw; (try dsimp only at hSw); obtain ⟨hz0, hz1, hz2, hz3⟩ := hSw; go_simp; try with_reducible rfl)
  simp only [Act.put, List.setIfInBounds_toArray, List.set_cons_zero, List.set_cons_succ]
  refine anyX_take 13 (by kernel_rfl) (by kernel_rfl) (by kernel_rfl) (by kernel_rfl) (by kernel_rfl) hS0 ?_
  intro oi ho; cases ho
  refine ⟨?_, fun _ _ _ h => h, Or.inl ⟨by rfl, ?_⟩, ?_⟩; rotate_left 1
  · (intro wS hSw; (try dsimp only at hSw); obtain ⟨hz0, hz1, hz2, hz3⟩ := hSw; go_simp; try with_reducible rfl)
  simp only [Act.put, List.setIfInBounds_toArray, List.set_cons_zero, List.set_cons_succ]
  refine anyX_one 9 (by kernel_rfl) ?_
  intro oi ho; cases ho; intro K hK
  (try simp only [Act.put, List.setIfInBounds_toArray, List.set_cons_zero, List.set_cons_succ])
  go_simp
  refine (hDa _).mono ?_
  rintro e w2 ⟨rfl, k2⟩
  have hS1 : (fun w' : World => w'.cell? ⟨w.heap.size, 0, none⟩ = some (.int .u8 3) ∧ w'.cell? ⟨w.heap.size, 1, none⟩ = some (I a) ∧ w'.cell? ⟨w.heap.size, 2, none⟩ = some (I b) ∧ w'.cell? ⟨w.heap.size + 1, 3, none⟩ = some (.string (⟨#[116, 97, 107, 101]⟩ : ByteArray))) w2 := ⟨New.cell k2 hS0.1, New.cell k2 hS0.2.1, New.cell k2 hS0.2.2.1, New.cell k2 hS0.2.2.2⟩
  refine hK _ _ (fun _ => hS1) ?_
  clear hK K
  refine anyX_take 10 (by kernel_rfl) (by kernel_rfl) (by kernel_rfl) (by kernel_rfl) (by kernel_rfl) hS1 ?_
  intro oi ho; cases ho
  refine ⟨?_, fun _ _ _ h => h, Or.inl ⟨by rfl, ?_⟩, ?_⟩; rotate_left 1
  · (intro wS hSw; (try dsimp only at hSw); obtain ⟨hz0, hz1, hz2, hz3⟩ := hSw; go_simp; try with_reducible rfl)
  simp only [Act.put, List.setIfInBounds_toArray, List.set_cons_zero, List.set_cons_succ]
  refine anyX_take 11 (by kernel_rfl) (by kernel_rfl) (by kernel_rfl) (by kernel_rfl) (by kernel_rfl) hS1 ?_
  intro oi ho; cases ho
  refine ⟨?_, fun _ _ _ h => h, Or.inl ⟨by rfl, ?_⟩, ?_⟩; rotate_left 1
  · (intro wS hSw; (try dsimp only at hSw); obtain ⟨hz0, hz1, hz2, hz3⟩ := hSw; go_simp; try with_reducible rfl)
  simp only [Act.put, List.setIfInBounds_toArray, List.set_cons_zero, List.set_cons_succ]
  refine anyX_one 14 (by kernel_rfl) ?_
  intro oi ho; cases ho; intro K hK
  (try simp only [Act.put, List.setIfInBounds_toArray, List.set_cons_zero, List.set_cons_succ])
  go_simp
  refine (hDb _).mono ?_
  rintro e w3 ⟨rfl, k3⟩
  have hS2 : (fun w' : World => w'.cell? ⟨w.heap.size, 0, none⟩ = some (.int .u8 3) ∧ w'.cell? ⟨w.heap.size, 1, none⟩ = some (I a) ∧ w'.cell? ⟨w.heap.size, 2, none⟩ = some (I b) ∧ w'.cell? ⟨w.heap.size + 1, 3, none⟩ = some (.string (⟨#[116, 97, 107, 101]⟩ : ByteArray))) w3 := ⟨New.cell k3 hS1.1, New.cell k3 hS1.2.1, New.cell k3 hS1.2.2.1, New.cell k3 hS1.2.2.2⟩
  refine hK _ _ (fun _ => hS2) ?_
  clear hK K
  refine anyX_one 15 (by kernel_rfl) ?_
  intro oi ho; cases ho; intro K hK
  (try simp only [Act.put, List.setIfInBounds_toArray, List.set_cons_zero, List.set_cons_succ])
  go_simp
  refine hK _ _ (fun _ => hS2) ?_
  clear hK K
  refine anyX_take 16 (by kernel_rfl) (by kernel_rfl) (by kernel_rfl) (by kernel_rfl) (by kernel_rfl) hS2 ?_
  intro oi ho; cases ho
  refine ⟨?_, fun _ _ _ h => h, Or.inl ⟨by rfl, ?_⟩, ?_⟩; rotate_left 1
  · (intro wS hSw; (try dsimp only at hSw); obtain ⟨hz0, hz1, hz2, hz3⟩ := hSw; go_simp; try with_reducible rfl)
  simp only [Act.put, List.setIfInBounds_toArray, List.set_cons_zero, List.set_cons_succ]
  refine anyX_take 17 (by kernel_rfl) (by kernel_rfl) (by kernel_rfl) (by kernel_rfl) (by kernel_rfl) hS2 ?_
  intro oi ho; cases ho
  refine ⟨?_, fun _ _ _ h => h, Or.inl ⟨by rfl, ?_⟩, ?_⟩; rotate_left 1
  · (intro wS hSw; (try dsimp only at hSw); obtain ⟨hz0, hz1, hz2, hz3⟩ := hSw; go_simp; try with_reducible rfl)
  simp only [Act.put, List.setIfInBounds_toArray, List.set_cons_zero, List.set_cons_succ]
  refine anyX_done (by kernel_rfl) ?_
  (try simp only [Act.put, List.setIfInBounds_toArray, List.set_cons_zero, List.set_cons_succ])
  (try simp only [Exit.then])
  go_wp2
  exact bodyPost_ret (v := .tuple #[.string (((((⟨#[116, 97, 107, 101]⟩ : ByteArray) ++ (⟨#[32]⟩ : ByteArray)) ++ da) ++ (⟨#[32]⟩ : ByteArray)) ++ db), I 0]) (by simp [results, Tryd.results4, go_sem]) rfl ⟨rfl, ((hN.drew).trans k2).trans k3⟩
set_option maxRecDepth 100000 in
set_option maxHeartbeats 4000000 in
theorem rshow_4 (w : World) (a b : Int) (ha0 : -9223372036854775808 ≤ a) (ha1 : a ≤ 9223372036854775807) (hb0 : -9223372036854775808 ≤ b) (hb1 : b ≤ 9223372036854775807) :
    Calls Tryd.prog 4 #[.agg #[.int .u8 4, I a, I b]] w fun e w' => e = .returned (.tuple #[.string (((⟨#[114, 101, 97, 100]⟩ : ByteArray) ++ ((⟨#[32]⟩ : ByteArray) ++ decS a)) ++ ((⟨#[32]⟩ : ByteArray) ++ decS b)), I 0]) ∧ New w w' := by
  have sa := decS_size a ha0 ha1
  have sb := decS_size b hb0 hb1
  have z1 : (⟨#[114, 101, 97, 100]⟩ : ByteArray).size = 4 := rfl
  have z2 : (⟨#[32]⟩ : ByteArray).size = 1 := rfl
  have h1 : ∀ w : World, (Op.stringOp .add (⟨#[114, 101, 97, 100]⟩ : ByteArray) (⟨#[32]⟩ : ByteArray)).run Tryd.prog w = .ok (.string ((⟨#[114, 101, 97, 100]⟩ : ByteArray) ++ (⟨#[32]⟩ : ByteArray))) w := fun w => run_string_add_sum w _ _ (by omega)
  have h2 : ∀ w : World, (Op.stringOp .add ((⟨#[114, 101, 97, 100]⟩ : ByteArray) ++ (⟨#[32]⟩ : ByteArray)) (decS a)).run Tryd.prog w = .ok (.string (((⟨#[114, 101, 97, 100]⟩ : ByteArray) ++ (⟨#[32]⟩ : ByteArray)) ++ (decS a))) w := fun w => run_string_add_sum w _ _ (by rw [ByteArray.size_append]; omega)
  have h3 : ∀ w : World, (Op.stringOp .add (((⟨#[114, 101, 97, 100]⟩ : ByteArray) ++ (⟨#[32]⟩ : ByteArray)) ++ decS a) (⟨#[32]⟩ : ByteArray)).run Tryd.prog w = .ok (.string ((((⟨#[114, 101, 97, 100]⟩ : ByteArray) ++ (⟨#[32]⟩ : ByteArray)) ++ decS a) ++ (⟨#[32]⟩ : ByteArray))) w := fun w => run_string_add_sum w _ _ (by rw [ByteArray.size_append, ByteArray.size_append]; omega)
  have h4 : ∀ w : World, (Op.stringOp .add ((((⟨#[114, 101, 97, 100]⟩ : ByteArray) ++ (⟨#[32]⟩ : ByteArray)) ++ decS a) ++ (⟨#[32]⟩ : ByteArray)) (decS b)).run Tryd.prog w = .ok (.string (((((⟨#[114, 101, 97, 100]⟩ : ByteArray) ++ (⟨#[32]⟩ : ByteArray)) ++ decS a) ++ (⟨#[32]⟩ : ByteArray)) ++ (decS b))) w := fun w => run_string_add_sum w _ _ (by rw [ByteArray.size_append, ByteArray.size_append, ByteArray.size_append]; omega)
  have hDa := fun w => decimal_any w a ha0 ha1
  have hDb := fun w => decimal_any w b hb0 hb1
  have hE : ((⟨#[114, 101, 97, 100]⟩ : ByteArray) ++ ((⟨#[32]⟩ : ByteArray) ++ decS a)) ++ ((⟨#[32]⟩ : ByteArray) ++ decS b) = ((((⟨#[114, 101, 97, 100]⟩ : ByteArray) ++ (⟨#[32]⟩ : ByteArray)) ++ decS a) ++ (⟨#[32]⟩ : ByteArray)) ++ decS b := by simp only [ByteArray.append_assoc]
  rw [hE]
  generalize decS a = da at h2 h3 h4 hDa
  generalize decS b = db at h4 hDb
  clear hE sa sb ha0 ha1 hb0 hb1 z1 z2
  go_enter Tryd.func4, Tryd.ntmps4
  go_wp2_with fail
  have hwk : IntKind.i64.wrap (4 : Int) = 4 := IntWalk.i64_in _ (by omega)
  have hc : (fun w' : World => w'.cell? ⟨w.heap.size, 0, none⟩ = some (.int .u8 4) ∧ w'.cell? ⟨w.heap.size, 1, none⟩ = some (I a) ∧ w'.cell? ⟨w.heap.size, 2, none⟩ = some (I b) ∧ w'.cell? ⟨w.heap.size + 1, 4, none⟩ = some (.string (⟨#[114, 101, 97, 100]⟩ : ByteArray))) ((w.alloc (.cells #[.int .u8 4, I a, I b] 24)).alloc (.cells #[.string (⟨#[101, 110, 100]⟩ : ByteArray), .string (⟨#[104, 101, 97, 100]⟩ : ByteArray), .string (⟨#[98, 97, 99, 107]⟩ : ByteArray), .string (⟨#[116, 97, 107, 101]⟩ : ByteArray), .string (⟨#[114, 101, 97, 100]⟩ : ByteArray), .string (⟨#[99, 97, 108, 108]⟩ : ByteArray), .string (⟨#[103, 105, 118, 101]⟩ : ByteArray), .string (⟨#[119, 114, 105, 116, 101]⟩ : ByteArray)] 9)) := by
    refine ⟨?_, ?_, ?_, ?_⟩
    · exact New.cell ((New.refl (w.alloc (.cells #[.int .u8 4, I a, I b] 24))).alloc _) (by rw [cell_of_block (heap_alloc_new w _) 0]; simp)
    · exact New.cell ((New.refl (w.alloc (.cells #[.int .u8 4, I a, I b] 24))).alloc _) (by rw [cell_of_block (heap_alloc_new w _) 1]; simp)
    · exact New.cell ((New.refl (w.alloc (.cells #[.int .u8 4, I a, I b] 24))).alloc _) (by rw [cell_of_block (heap_alloc_new w _) 2]; simp)
    · have hh := heap_alloc_new (w.alloc (.cells #[.int .u8 4, I a, I b] 24)) (.cells #[.string (⟨#[101, 110, 100]⟩ : ByteArray), .string (⟨#[104, 101, 97, 100]⟩ : ByteArray), .string (⟨#[98, 97, 99, 107]⟩ : ByteArray), .string (⟨#[116, 97, 107, 101]⟩ : ByteArray), .string (⟨#[114, 101, 97, 100]⟩ : ByteArray), .string (⟨#[99, 97, 108, 108]⟩ : ByteArray), .string (⟨#[103, 105, 118, 101]⟩ : ByteArray), .string (⟨#[119, 114, 105, 116, 101]⟩ : ByteArray)] 9)
      rw [show (w.alloc (.cells #[.int .u8 4, I a, I b] 24)).heap.size = w.heap.size + 1 by simp] at hh
      rw [cell_of_block hh 4]; simp
  have hN : New w ((w.alloc (.cells #[.int .u8 4, I a, I b] 24)).alloc (.cells #[.string (⟨#[101, 110, 100]⟩ : ByteArray), .string (⟨#[104, 101, 97, 100]⟩ : ByteArray), .string (⟨#[98, 97, 99, 107]⟩ : ByteArray), .string (⟨#[116, 97, 107, 101]⟩ : ByteArray), .string (⟨#[114, 101, 97, 100]⟩ : ByteArray), .string (⟨#[99, 97, 108, 108]⟩ : ByteArray), .string (⟨#[103, 105, 118, 101]⟩ : ByteArray), .string (⟨#[119, 114, 105, 116, 101]⟩ : ByteArray)] 9)) := ((New.refl w).alloc _).alloc _
  generalize ((w.alloc (.cells #[.int .u8 4, I a, I b] 24)).alloc (.cells #[.string (⟨#[101, 110, 100]⟩ : ByteArray), .string (⟨#[104, 101, 97, 100]⟩ : ByteArray), .string (⟨#[98, 97, 99, 107]⟩ : ByteArray), .string (⟨#[116, 97, 107, 101]⟩ : ByteArray), .string (⟨#[114, 101, 97, 100]⟩ : ByteArray), .string (⟨#[99, 97, 108, 108]⟩ : ByteArray), .string (⟨#[103, 105, 118, 101]⟩ : ByteArray), .string (⟨#[119, 114, 105, 116, 101]⟩ : ByteArray)] 9)) = w1 at hc hN ⊢
  have hS0 : (fun w' : World => w'.cell? ⟨w.heap.size, 0, none⟩ = some (.int .u8 4) ∧ w'.cell? ⟨w.heap.size, 1, none⟩ = some (I a) ∧ w'.cell? ⟨w.heap.size, 2, none⟩ = some (I b) ∧ w'.cell? ⟨w.heap.size + 1, 4, none⟩ = some (.string (⟨#[114, 101, 97, 100]⟩ : ByteArray))) w1.drew := ⟨New.cell ((New.refl w1).drew) hc.1, New.cell ((New.refl w1).drew) hc.2.1, New.cell ((New.refl w1).drew) hc.2.2.1, New.cell ((New.refl w1).drew) hc.2.2.2⟩
  refine wp_region_X (fun w' : World => w'.cell? ⟨w.heap.size, 0, none⟩ = some (.int .u8 4) ∧ w'.cell? ⟨w.heap.size, 1, none⟩ = some (I a) ∧ w'.cell? ⟨w.heap.size, 2, none⟩ = some (I b) ∧ w'.cell? ⟨w.heap.size + 1, 4, none⟩ = some (.string (⟨#[114, 101, 97, 100]⟩ : ByteArray))) [] (by kernel_rfl) hS0 ?_
  refine anyX_take 0 (by kernel_rfl) (by kernel_rfl) (by kernel_rfl) (by kernel_rfl) (by kernel_rfl) hS0 ?_
  intro oi ho; cases ho
  refine ⟨?_, fun _ _ _ h => h, Or.inl ⟨by rfl, ?_⟩, ?_⟩; rotate_left 1
  · (intro wS hSw; (try dsimp only at hSw); obtain ⟨hz0, hz1, hz2, hz3⟩ := hSw; go_simp; try with_reducible rfl)
  simp only [Act.put, List.setIfInBounds_toArray, List.set_cons_zero, List.set_cons_succ]
  refine anyX_take 1 (by kernel_rfl) (by kernel_rfl) (by kernel_rfl) (by kernel_rfl) (by kernel_rfl) hS0 ?_
  intro oi ho; cases ho
  refine ⟨?_, fun _ _ _ h => h, Or.inl ⟨by rfl, ?_⟩, ?_⟩; rotate_left 1
  · (intro wS hSw; (try dsimp only at hSw); obtain ⟨hz0, hz1, hz2, hz3⟩ := hSw; go_simp; try with_reducible rfl)
  simp only [Act.put, List.setIfInBounds_toArray, List.set_cons_zero, List.set_cons_succ]
  refine anyX_take 2 (by kernel_rfl) (by kernel_rfl) (by kernel_rfl) (by kernel_rfl) (by kernel_rfl) hS0 ?_
  intro oi ho; cases ho
  refine ⟨?_, fun _ _ _ h => h, Or.inl ⟨by rfl, ?_⟩, ?_⟩; rotate_left 1
  · (intro wS hSw; (try dsimp only at hSw); obtain ⟨hz0, hz1, hz2, hz3⟩ := hSw; go_simp; try with_reducible rfl)
  simp only [Act.put, List.setIfInBounds_toArray, List.set_cons_zero, List.set_cons_succ]
  refine anyX_take 3 (by kernel_rfl) (by kernel_rfl) (by kernel_rfl) (by kernel_rfl) (by kernel_rfl) hS0 ?_
  intro oi ho; cases ho
  refine ⟨?_, fun _ _ _ h => h, Or.inl ⟨by rfl, ?_⟩, ?_⟩; rotate_left 1
  · (intro wS hSw; (try dsimp only at hSw); obtain ⟨hz0, hz1, hz2, hz3⟩ := hSw; go_simp; try with_reducible rfl)
  simp only [Act.put, List.setIfInBounds_toArray, List.set_cons_zero, List.set_cons_succ]
  refine anyX_take 4 (by kernel_rfl) (by kernel_rfl) (by kernel_rfl) (by kernel_rfl) (by kernel_rfl) hS0 ?_
  intro oi ho; cases ho
  refine ⟨?_, fun _ _ _ h => h, Or.inl ⟨by rfl, ?_⟩, ?_⟩; rotate_left 1
  · (intro wS hSw; (try dsimp only at hSw); obtain ⟨hz0, hz1, hz2, hz3⟩ := hSw; go_simp; try with_reducible rfl)
  simp only [Act.put, List.setIfInBounds_toArray, List.set_cons_zero, List.set_cons_succ]
  refine anyX_take 5 (by kernel_rfl) (by kernel_rfl) (by kernel_rfl) (by kernel_rfl) (by kernel_rfl) hS0 ?_
  intro oi ho; cases ho
  refine ⟨?_, fun _ _ _ h => h, Or.inl ⟨by rfl, ?_⟩, ?_⟩; rotate_left 1
  · (intro wS hSw; (try dsimp only at hSw); obtain ⟨hz0, hz1, hz2, hz3⟩ := hSw; go_simp; try with_reducible rfl)
  simp only [Act.put, List.setIfInBounds_toArray, List.set_cons_zero, List.set_cons_succ]
  refine anyX_take 6 (by kernel_rfl) (by kernel_rfl) (by kernel_rfl) (by kernel_rfl) (by kernel_rfl) hS0 ?_
  intro oi ho; cases ho
  refine ⟨?_, fun _ _ _ h => h, Or.inl ⟨by rfl, ?_⟩, ?_⟩; rotate_left 1
  · (intro wS hSw; (try dsimp only at hSw); obtain ⟨hz0, hz1, hz2, hz3⟩ := hSw; go_simp; try with_reducible rfl)
  simp only [Act.put, List.setIfInBounds_toArray, List.set_cons_zero, List.set_cons_succ]
  refine anyX_take 7 (by kernel_rfl) (by kernel_rfl) (by kernel_rfl) (by kernel_rfl) (by kernel_rfl) hS0 ?_
  intro oi ho; cases ho
  refine ⟨?_, fun _ _ _ h => h, Or.inl ⟨by rfl, ?_⟩, ?_⟩; rotate_left 1
  · (intro wS hSw; (try dsimp only at hSw); obtain ⟨hz0, hz1, hz2, hz3⟩ := hSw; go_simp; try with_reducible rfl)
  simp only [Act.put, List.setIfInBounds_toArray, List.set_cons_zero, List.set_cons_succ]
  refine anyX_take 8 (by kernel_rfl) (by kernel_rfl) (by kernel_rfl) (by kernel_rfl) (by kernel_rfl) hS0 ?_
  intro oi ho; cases ho
  refine ⟨?_, fun _ _ _ h => h, Or.inl ⟨by rfl, ?_⟩, ?_⟩; rotate_left 1
  · (intro wS hSw; (try dsimp only at hSw); obtain ⟨hz0, hz1, hz2, hz3⟩ := hSw; go_simp; try with_reducible rfl)
  simp only [Act.put, List.setIfInBounds_toArray, List.set_cons_zero, List.set_cons_succ]
  refine anyX_take 12 (by kernel_rfl) (by kernel_rfl) (by kernel_rfl) (by kernel_rfl) (by kernel_rfl) hS0 ?_
  intro oi ho; cases ho
  refine ⟨?_, fun _ _ _ h => h, Or.inl ⟨by rfl, ?_⟩, ?_⟩; rotate_left 1
  · (intro wS hSw; (try dsimp only at hSw); obtain ⟨hz0, hz1, hz2, hz3⟩ := hSw; go_simp; try with_reducible rfl)
  simp only [Act.put, List.setIfInBounds_toArray, List.set_cons_zero, List.set_cons_succ]
  refine anyX_take 13 (by kernel_rfl) (by kernel_rfl) (by kernel_rfl) (by kernel_rfl) (by kernel_rfl) hS0 ?_
  intro oi ho; cases ho
  refine ⟨?_, fun _ _ _ h => h, Or.inl ⟨by rfl, ?_⟩, ?_⟩; rotate_left 1
  · (intro wS hSw; (try dsimp only at hSw); obtain ⟨hz0, hz1, hz2, hz3⟩ := hSw; go_simp; try with_reducible rfl)
  simp only [Act.put, List.setIfInBounds_toArray, List.set_cons_zero, List.set_cons_succ]
  refine anyX_one 9 (by kernel_rfl) ?_
  intro oi ho; cases ho; intro K hK
  (try simp only [Act.put, List.setIfInBounds_toArray, List.set_cons_zero, List.set_cons_succ])
  go_simp
  refine (hDa _).mono ?_
  rintro e w2 ⟨rfl, k2⟩
  have hS1 : (fun w' : World => w'.cell? ⟨w.heap.size, 0, none⟩ = some (.int .u8 4) ∧ w'.cell? ⟨w.heap.size, 1, none⟩ = some (I a) ∧ w'.cell? ⟨w.heap.size, 2, none⟩ = some (I b) ∧ w'.cell? ⟨w.heap.size + 1, 4, none⟩ = some (.string (⟨#[114, 101, 97, 100]⟩ : ByteArray))) w2 := ⟨New.cell k2 hS0.1, New.cell k2 hS0.2.1, New.cell k2 hS0.2.2.1, New.cell k2 hS0.2.2.2⟩
  refine hK _ _ (fun _ => hS1) ?_
  clear hK K
  refine anyX_take 10 (by kernel_rfl) (by kernel_rfl) (by kernel_rfl) (by kernel_rfl) (by kernel_rfl) hS1 ?_
  intro oi ho; cases ho
  refine ⟨?_, fun _ _ _ h => h, Or.inl ⟨by rfl, ?_⟩, ?_⟩; rotate_left 1
  · (intro wS hSw; (try dsimp only at hSw); obtain ⟨hz0, hz1, hz2, hz3⟩ := hSw; go_simp; try with_reducible rfl)
  simp only [Act.put, List.setIfInBounds_toArray, List.set_cons_zero, List.set_cons_succ]
  refine anyX_take 11 (by kernel_rfl) (by kernel_rfl) (by kernel_rfl) (by kernel_rfl) (by kernel_rfl) hS1 ?_
  intro oi ho; cases ho
  refine ⟨?_, fun _ _ _ h => h, Or.inl ⟨by rfl, ?_⟩, ?_⟩; rotate_left 1
  · (intro wS hSw; (try dsimp only at hSw); obtain ⟨hz0, hz1, hz2, hz3⟩ := hSw; go_simp; try with_reducible rfl)
  simp only [Act.put, List.setIfInBounds_toArray, List.set_cons_zero, List.set_cons_succ]
  refine anyX_one 14 (by kernel_rfl) ?_
  intro oi ho; cases ho; intro K hK
  (try simp only [Act.put, List.setIfInBounds_toArray, List.set_cons_zero, List.set_cons_succ])
  go_simp
  refine (hDb _).mono ?_
  rintro e w3 ⟨rfl, k3⟩
  have hS2 : (fun w' : World => w'.cell? ⟨w.heap.size, 0, none⟩ = some (.int .u8 4) ∧ w'.cell? ⟨w.heap.size, 1, none⟩ = some (I a) ∧ w'.cell? ⟨w.heap.size, 2, none⟩ = some (I b) ∧ w'.cell? ⟨w.heap.size + 1, 4, none⟩ = some (.string (⟨#[114, 101, 97, 100]⟩ : ByteArray))) w3 := ⟨New.cell k3 hS1.1, New.cell k3 hS1.2.1, New.cell k3 hS1.2.2.1, New.cell k3 hS1.2.2.2⟩
  refine hK _ _ (fun _ => hS2) ?_
  clear hK K
  refine anyX_one 15 (by kernel_rfl) ?_
  intro oi ho; cases ho; intro K hK
  (try simp only [Act.put, List.setIfInBounds_toArray, List.set_cons_zero, List.set_cons_succ])
  go_simp
  refine hK _ _ (fun _ => hS2) ?_
  clear hK K
  refine anyX_take 16 (by kernel_rfl) (by kernel_rfl) (by kernel_rfl) (by kernel_rfl) (by kernel_rfl) hS2 ?_
  intro oi ho; cases ho
  refine ⟨?_, fun _ _ _ h => h, Or.inl ⟨by rfl, ?_⟩, ?_⟩; rotate_left 1
  · (intro wS hSw; (try dsimp only at hSw); obtain ⟨hz0, hz1, hz2, hz3⟩ := hSw; go_simp; try with_reducible rfl)
  simp only [Act.put, List.setIfInBounds_toArray, List.set_cons_zero, List.set_cons_succ]
  refine anyX_take 17 (by kernel_rfl) (by kernel_rfl) (by kernel_rfl) (by kernel_rfl) (by kernel_rfl) hS2 ?_
  intro oi ho; cases ho
  refine ⟨?_, fun _ _ _ h => h, Or.inl ⟨by rfl, ?_⟩, ?_⟩; rotate_left 1
  · (intro wS hSw; (try dsimp only at hSw); obtain ⟨hz0, hz1, hz2, hz3⟩ := hSw; go_simp; try with_reducible rfl)
  simp only [Act.put, List.setIfInBounds_toArray, List.set_cons_zero, List.set_cons_succ]
  refine anyX_done (by kernel_rfl) ?_
  (try simp only [Act.put, List.setIfInBounds_toArray, List.set_cons_zero, List.set_cons_succ])
  (try simp only [Exit.then])
  go_wp2
  exact bodyPost_ret (v := .tuple #[.string (((((⟨#[114, 101, 97, 100]⟩ : ByteArray) ++ (⟨#[32]⟩ : ByteArray)) ++ da) ++ (⟨#[32]⟩ : ByteArray)) ++ db), I 0]) (by simp [results, Tryd.results4, go_sem]) rfl ⟨rfl, ((hN.drew).trans k2).trans k3⟩
set_option maxRecDepth 100000 in
set_option maxHeartbeats 4000000 in
theorem rshow_5 (w : World) (a b : Int) (ha0 : -9223372036854775808 ≤ a) (ha1 : a ≤ 9223372036854775807) (hb0 : -9223372036854775808 ≤ b) (hb1 : b ≤ 9223372036854775807) :
    Calls Tryd.prog 4 #[.agg #[.int .u8 5, I a, I b]] w fun e w' => e = .returned (.tuple #[.string ((⟨#[99, 97, 108, 108]⟩ : ByteArray) ++ ((⟨#[32]⟩ : ByteArray) ++ decS a)), I 0]) ∧ New w w' := by
  have sa := decS_size a ha0 ha1
  have sb := decS_size b hb0 hb1
  have hadd : ∀ w : World, (Op.stringOp .add (⟨#[99, 97, 108, 108, 32]⟩ : ByteArray) (decS a)).run Tryd.prog w = .ok (.string ((⟨#[99, 97, 108, 108, 32]⟩ : ByteArray) ++ (decS a))) w := fun w => run_string_add_sum w _ _ (by have : (⟨#[99, 97, 108, 108, 32]⟩ : ByteArray).size = 5 := rfl; omega)
  have hD := fun w => decimal_any w a ha0 ha1
  have hE : (⟨#[99, 97, 108, 108]⟩ : ByteArray) ++ ((⟨#[32]⟩ : ByteArray) ++ decS a) = (⟨#[99, 97, 108, 108, 32]⟩ : ByteArray) ++ decS a := by rw [← ByteArray.append_assoc]; rfl
  rw [hE]
  generalize decS a = da at hadd hD
  clear hE sa sb ha0 ha1 hb0 hb1
  go_enter Tryd.func4, Tryd.ntmps4
  go_wp2_with fail
  refine (hD _).mono ?_
  rintro e w2 ⟨rfl, k2⟩
  go_wp2_with fail
  exact bodyPost_ret (v := .tuple #[.string ((⟨#[99, 97, 108, 108, 32]⟩ : ByteArray) ++ da), I 0]) (by simp [results, Tryd.results4, go_sem]) rfl ⟨rfl, (((New.refl w).alloc _).alloc _).trans k2⟩
set_option maxRecDepth 100000 in
set_option maxHeartbeats 4000000 in
theorem rshow_6 (w : World) (a b : Int) (ha0 : -9223372036854775808 ≤ a) (ha1 : a ≤ 9223372036854775807) (hb0 : -9223372036854775808 ≤ b) (hb1 : b ≤ 9223372036854775807) :
    Calls Tryd.prog 4 #[.agg #[.int .u8 6, I a, I b]] w fun e w' => e = .returned (.tuple #[.string (((⟨#[103, 105, 118, 101]⟩ : ByteArray) ++ ((⟨#[32]⟩ : ByteArray) ++ decS a)) ++ ((⟨#[32]⟩ : ByteArray) ++ decS b)), I 0]) ∧ New w w' := by
  have sa := decS_size a ha0 ha1
  have sb := decS_size b hb0 hb1
  have z1 : (⟨#[103, 105, 118, 101]⟩ : ByteArray).size = 4 := rfl
  have z2 : (⟨#[32]⟩ : ByteArray).size = 1 := rfl
  have h1 : ∀ w : World, (Op.stringOp .add (⟨#[103, 105, 118, 101]⟩ : ByteArray) (⟨#[32]⟩ : ByteArray)).run Tryd.prog w = .ok (.string ((⟨#[103, 105, 118, 101]⟩ : ByteArray) ++ (⟨#[32]⟩ : ByteArray))) w := fun w => run_string_add_sum w _ _ (by omega)
  have h2 : ∀ w : World, (Op.stringOp .add ((⟨#[103, 105, 118, 101]⟩ : ByteArray) ++ (⟨#[32]⟩ : ByteArray)) (decS a)).run Tryd.prog w = .ok (.string (((⟨#[103, 105, 118, 101]⟩ : ByteArray) ++ (⟨#[32]⟩ : ByteArray)) ++ (decS a))) w := fun w => run_string_add_sum w _ _ (by rw [ByteArray.size_append]; omega)
  have h3 : ∀ w : World, (Op.stringOp .add (((⟨#[103, 105, 118, 101]⟩ : ByteArray) ++ (⟨#[32]⟩ : ByteArray)) ++ decS a) (⟨#[32]⟩ : ByteArray)).run Tryd.prog w = .ok (.string ((((⟨#[103, 105, 118, 101]⟩ : ByteArray) ++ (⟨#[32]⟩ : ByteArray)) ++ decS a) ++ (⟨#[32]⟩ : ByteArray))) w := fun w => run_string_add_sum w _ _ (by rw [ByteArray.size_append, ByteArray.size_append]; omega)
  have h4 : ∀ w : World, (Op.stringOp .add ((((⟨#[103, 105, 118, 101]⟩ : ByteArray) ++ (⟨#[32]⟩ : ByteArray)) ++ decS a) ++ (⟨#[32]⟩ : ByteArray)) (decS b)).run Tryd.prog w = .ok (.string (((((⟨#[103, 105, 118, 101]⟩ : ByteArray) ++ (⟨#[32]⟩ : ByteArray)) ++ decS a) ++ (⟨#[32]⟩ : ByteArray)) ++ (decS b))) w := fun w => run_string_add_sum w _ _ (by rw [ByteArray.size_append, ByteArray.size_append, ByteArray.size_append]; omega)
  have hDa := fun w => decimal_any w a ha0 ha1
  have hDb := fun w => decimal_any w b hb0 hb1
  have hE : ((⟨#[103, 105, 118, 101]⟩ : ByteArray) ++ ((⟨#[32]⟩ : ByteArray) ++ decS a)) ++ ((⟨#[32]⟩ : ByteArray) ++ decS b) = ((((⟨#[103, 105, 118, 101]⟩ : ByteArray) ++ (⟨#[32]⟩ : ByteArray)) ++ decS a) ++ (⟨#[32]⟩ : ByteArray)) ++ decS b := by simp only [ByteArray.append_assoc]
  rw [hE]
  generalize decS a = da at h2 h3 h4 hDa
  generalize decS b = db at h4 hDb
  clear hE sa sb ha0 ha1 hb0 hb1 z1 z2
  go_enter Tryd.func4, Tryd.ntmps4
  go_wp2_with fail
  have hwk : IntKind.i64.wrap (6 : Int) = 6 := IntWalk.i64_in _ (by omega)
  have hc : (fun w' : World => w'.cell? ⟨w.heap.size, 0, none⟩ = some (.int .u8 6) ∧ w'.cell? ⟨w.heap.size, 1, none⟩ = some (I a) ∧ w'.cell? ⟨w.heap.size, 2, none⟩ = some (I b) ∧ w'.cell? ⟨w.heap.size + 1, 6, none⟩ = some (.string (⟨#[103, 105, 118, 101]⟩ : ByteArray))) ((w.alloc (.cells #[.int .u8 6, I a, I b] 24)).alloc (.cells #[.string (⟨#[101, 110, 100]⟩ : ByteArray), .string (⟨#[104, 101, 97, 100]⟩ : ByteArray), .string (⟨#[98, 97, 99, 107]⟩ : ByteArray), .string (⟨#[116, 97, 107, 101]⟩ : ByteArray), .string (⟨#[114, 101, 97, 100]⟩ : ByteArray), .string (⟨#[99, 97, 108, 108]⟩ : ByteArray), .string (⟨#[103, 105, 118, 101]⟩ : ByteArray), .string (⟨#[119, 114, 105, 116, 101]⟩ : ByteArray)] 9)) := by
    refine ⟨?_, ?_, ?_, ?_⟩
    · exact New.cell ((New.refl (w.alloc (.cells #[.int .u8 6, I a, I b] 24))).alloc _) (by rw [cell_of_block (heap_alloc_new w _) 0]; simp)
    · exact New.cell ((New.refl (w.alloc (.cells #[.int .u8 6, I a, I b] 24))).alloc _) (by rw [cell_of_block (heap_alloc_new w _) 1]; simp)
    · exact New.cell ((New.refl (w.alloc (.cells #[.int .u8 6, I a, I b] 24))).alloc _) (by rw [cell_of_block (heap_alloc_new w _) 2]; simp)
    · have hh := heap_alloc_new (w.alloc (.cells #[.int .u8 6, I a, I b] 24)) (.cells #[.string (⟨#[101, 110, 100]⟩ : ByteArray), .string (⟨#[104, 101, 97, 100]⟩ : ByteArray), .string (⟨#[98, 97, 99, 107]⟩ : ByteArray), .string (⟨#[116, 97, 107, 101]⟩ : ByteArray), .string (⟨#[114, 101, 97, 100]⟩ : ByteArray), .string (⟨#[99, 97, 108, 108]⟩ : ByteArray), .string (⟨#[103, 105, 118, 101]⟩ : ByteArray), .string (⟨#[119, 114, 105, 116, 101]⟩ : ByteArray)] 9)
      rw [show (w.alloc (.cells #[.int .u8 6, I a, I b] 24)).heap.size = w.heap.size + 1 by simp] at hh
      rw [cell_of_block hh 6]; simp
  have hN : New w ((w.alloc (.cells #[.int .u8 6, I a, I b] 24)).alloc (.cells #[.string (⟨#[101, 110, 100]⟩ : ByteArray), .string (⟨#[104, 101, 97, 100]⟩ : ByteArray), .string (⟨#[98, 97, 99, 107]⟩ : ByteArray), .string (⟨#[116, 97, 107, 101]⟩ : ByteArray), .string (⟨#[114, 101, 97, 100]⟩ : ByteArray), .string (⟨#[99, 97, 108, 108]⟩ : ByteArray), .string (⟨#[103, 105, 118, 101]⟩ : ByteArray), .string (⟨#[119, 114, 105, 116, 101]⟩ : ByteArray)] 9)) := ((New.refl w).alloc _).alloc _
  generalize ((w.alloc (.cells #[.int .u8 6, I a, I b] 24)).alloc (.cells #[.string (⟨#[101, 110, 100]⟩ : ByteArray), .string (⟨#[104, 101, 97, 100]⟩ : ByteArray), .string (⟨#[98, 97, 99, 107]⟩ : ByteArray), .string (⟨#[116, 97, 107, 101]⟩ : ByteArray), .string (⟨#[114, 101, 97, 100]⟩ : ByteArray), .string (⟨#[99, 97, 108, 108]⟩ : ByteArray), .string (⟨#[103, 105, 118, 101]⟩ : ByteArray), .string (⟨#[119, 114, 105, 116, 101]⟩ : ByteArray)] 9)) = w1 at hc hN ⊢
  have hS0 : (fun w' : World => w'.cell? ⟨w.heap.size, 0, none⟩ = some (.int .u8 6) ∧ w'.cell? ⟨w.heap.size, 1, none⟩ = some (I a) ∧ w'.cell? ⟨w.heap.size, 2, none⟩ = some (I b) ∧ w'.cell? ⟨w.heap.size + 1, 6, none⟩ = some (.string (⟨#[103, 105, 118, 101]⟩ : ByteArray))) w1.drew := ⟨New.cell ((New.refl w1).drew) hc.1, New.cell ((New.refl w1).drew) hc.2.1, New.cell ((New.refl w1).drew) hc.2.2.1, New.cell ((New.refl w1).drew) hc.2.2.2⟩
  refine wp_region_X (fun w' : World => w'.cell? ⟨w.heap.size, 0, none⟩ = some (.int .u8 6) ∧ w'.cell? ⟨w.heap.size, 1, none⟩ = some (I a) ∧ w'.cell? ⟨w.heap.size, 2, none⟩ = some (I b) ∧ w'.cell? ⟨w.heap.size + 1, 6, none⟩ = some (.string (⟨#[103, 105, 118, 101]⟩ : ByteArray))) [] (by kernel_rfl) hS0 ?_
  refine anyX_take 0 (by kernel_rfl) (by kernel_rfl) (by kernel_rfl) (by kernel_rfl) (by kernel_rfl) hS0 ?_
  intro oi ho; cases ho
  refine ⟨?_, fun _ _ _ h => h, Or.inl ⟨by rfl, ?_⟩, ?_⟩; rotate_left 1
  · (intro wS hSw; (try dsimp only at hSw); obtain ⟨hz0, hz1, hz2, hz3⟩ := hSw; go_simp; try with_reducible rfl)
  simp only [Act.put, List.setIfInBounds_toArray, List.set_cons_zero, List.set_cons_succ]
  refine anyX_take 1 (by kernel_rfl) (by kernel_rfl) (by kernel_rfl) (by kernel_rfl) (by kernel_rfl) hS0 ?_
  intro oi ho; cases ho
  refine ⟨?_, fun _ _ _ h => h, Or.inl ⟨by rfl, ?_⟩, ?_⟩; rotate_left 1
  · (intro wS hSw; (try dsimp only at hSw); obtain ⟨hz0, hz1, hz2, hz3⟩ := hSw; go_simp; try with_reducible rfl)
  simp only [Act.put, List.setIfInBounds_toArray, List.set_cons_zero, List.set_cons_succ]
  refine anyX_take 2 (by kernel_rfl) (by kernel_rfl) (by kernel_rfl) (by kernel_rfl) (by kernel_rfl) hS0 ?_
  intro oi ho; cases ho
  refine ⟨?_, fun _ _ _ h => h, Or.inl ⟨by rfl, ?_⟩, ?_⟩; rotate_left 1
  · (intro wS hSw; (try dsimp only at hSw); obtain ⟨hz0, hz1, hz2, hz3⟩ := hSw; go_simp; try with_reducible rfl)
  simp only [Act.put, List.setIfInBounds_toArray, List.set_cons_zero, List.set_cons_succ]
  refine anyX_take 3 (by kernel_rfl) (by kernel_rfl) (by kernel_rfl) (by kernel_rfl) (by kernel_rfl) hS0 ?_
  intro oi ho; cases ho
  refine ⟨?_, fun _ _ _ h => h, Or.inl ⟨by rfl, ?_⟩, ?_⟩; rotate_left 1
  · (intro wS hSw; (try dsimp only at hSw); obtain ⟨hz0, hz1, hz2, hz3⟩ := hSw; go_simp; try with_reducible rfl)
  simp only [Act.put, List.setIfInBounds_toArray, List.set_cons_zero, List.set_cons_succ]
  refine anyX_take 4 (by kernel_rfl) (by kernel_rfl) (by kernel_rfl) (by kernel_rfl) (by kernel_rfl) hS0 ?_
  intro oi ho; cases ho
  refine ⟨?_, fun _ _ _ h => h, Or.inl ⟨by rfl, ?_⟩, ?_⟩; rotate_left 1
  · (intro wS hSw; (try dsimp only at hSw); obtain ⟨hz0, hz1, hz2, hz3⟩ := hSw; go_simp; try with_reducible rfl)
  simp only [Act.put, List.setIfInBounds_toArray, List.set_cons_zero, List.set_cons_succ]
  refine anyX_take 5 (by kernel_rfl) (by kernel_rfl) (by kernel_rfl) (by kernel_rfl) (by kernel_rfl) hS0 ?_
  intro oi ho; cases ho
  refine ⟨?_, fun _ _ _ h => h, Or.inl ⟨by rfl, ?_⟩, ?_⟩; rotate_left 1
  · (intro wS hSw; (try dsimp only at hSw); obtain ⟨hz0, hz1, hz2, hz3⟩ := hSw; go_simp; try with_reducible rfl)
  simp only [Act.put, List.setIfInBounds_toArray, List.set_cons_zero, List.set_cons_succ]
  refine anyX_take 6 (by kernel_rfl) (by kernel_rfl) (by kernel_rfl) (by kernel_rfl) (by kernel_rfl) hS0 ?_
  intro oi ho; cases ho
  refine ⟨?_, fun _ _ _ h => h, Or.inl ⟨by rfl, ?_⟩, ?_⟩; rotate_left 1
  · (intro wS hSw; (try dsimp only at hSw); obtain ⟨hz0, hz1, hz2, hz3⟩ := hSw; go_simp; try with_reducible rfl)
  simp only [Act.put, List.setIfInBounds_toArray, List.set_cons_zero, List.set_cons_succ]
  refine anyX_take 7 (by kernel_rfl) (by kernel_rfl) (by kernel_rfl) (by kernel_rfl) (by kernel_rfl) hS0 ?_
  intro oi ho; cases ho
  refine ⟨?_, fun _ _ _ h => h, Or.inl ⟨by rfl, ?_⟩, ?_⟩; rotate_left 1
  · (intro wS hSw; (try dsimp only at hSw); obtain ⟨hz0, hz1, hz2, hz3⟩ := hSw; go_simp; try with_reducible rfl)
  simp only [Act.put, List.setIfInBounds_toArray, List.set_cons_zero, List.set_cons_succ]
  refine anyX_take 8 (by kernel_rfl) (by kernel_rfl) (by kernel_rfl) (by kernel_rfl) (by kernel_rfl) hS0 ?_
  intro oi ho; cases ho
  refine ⟨?_, fun _ _ _ h => h, Or.inl ⟨by rfl, ?_⟩, ?_⟩; rotate_left 1
  · (intro wS hSw; (try dsimp only at hSw); obtain ⟨hz0, hz1, hz2, hz3⟩ := hSw; go_simp; try with_reducible rfl)
  simp only [Act.put, List.setIfInBounds_toArray, List.set_cons_zero, List.set_cons_succ]
  refine anyX_take 12 (by kernel_rfl) (by kernel_rfl) (by kernel_rfl) (by kernel_rfl) (by kernel_rfl) hS0 ?_
  intro oi ho; cases ho
  refine ⟨?_, fun _ _ _ h => h, Or.inl ⟨by rfl, ?_⟩, ?_⟩; rotate_left 1
  · (intro wS hSw; (try dsimp only at hSw); obtain ⟨hz0, hz1, hz2, hz3⟩ := hSw; go_simp; try with_reducible rfl)
  simp only [Act.put, List.setIfInBounds_toArray, List.set_cons_zero, List.set_cons_succ]
  refine anyX_take 13 (by kernel_rfl) (by kernel_rfl) (by kernel_rfl) (by kernel_rfl) (by kernel_rfl) hS0 ?_
  intro oi ho; cases ho
  refine ⟨?_, fun _ _ _ h => h, Or.inl ⟨by rfl, ?_⟩, ?_⟩; rotate_left 1
  · (intro wS hSw; (try dsimp only at hSw); obtain ⟨hz0, hz1, hz2, hz3⟩ := hSw; go_simp; try with_reducible rfl)
  simp only [Act.put, List.setIfInBounds_toArray, List.set_cons_zero, List.set_cons_succ]
  refine anyX_one 9 (by kernel_rfl) ?_
  intro oi ho; cases ho; intro K hK
  (try simp only [Act.put, List.setIfInBounds_toArray, List.set_cons_zero, List.set_cons_succ])
  go_simp
  refine (hDa _).mono ?_
  rintro e w2 ⟨rfl, k2⟩
  have hS1 : (fun w' : World => w'.cell? ⟨w.heap.size, 0, none⟩ = some (.int .u8 6) ∧ w'.cell? ⟨w.heap.size, 1, none⟩ = some (I a) ∧ w'.cell? ⟨w.heap.size, 2, none⟩ = some (I b) ∧ w'.cell? ⟨w.heap.size + 1, 6, none⟩ = some (.string (⟨#[103, 105, 118, 101]⟩ : ByteArray))) w2 := ⟨New.cell k2 hS0.1, New.cell k2 hS0.2.1, New.cell k2 hS0.2.2.1, New.cell k2 hS0.2.2.2⟩
  refine hK _ _ (fun _ => hS1) ?_
  clear hK K
  refine anyX_take 10 (by kernel_rfl) (by kernel_rfl) (by kernel_rfl) (by kernel_rfl) (by kernel_rfl) hS1 ?_
  intro oi ho; cases ho
  refine ⟨?_, fun _ _ _ h => h, Or.inl ⟨by rfl, ?_⟩, ?_⟩; rotate_left 1
  · (intro wS hSw; (try dsimp only at hSw); obtain ⟨hz0, hz1, hz2, hz3⟩ := hSw; go_simp; try with_reducible rfl)
  simp only [Act.put, List.setIfInBounds_toArray, List.set_cons_zero, List.set_cons_succ]
  refine anyX_take 11 (by kernel_rfl) (by kernel_rfl) (by kernel_rfl) (by kernel_rfl) (by kernel_rfl) hS1 ?_
  intro oi ho; cases ho
  refine ⟨?_, fun _ _ _ h => h, Or.inl ⟨by rfl, ?_⟩, ?_⟩; rotate_left 1
  · (intro wS hSw; (try dsimp only at hSw); obtain ⟨hz0, hz1, hz2, hz3⟩ := hSw; go_simp; try with_reducible rfl)
  simp only [Act.put, List.setIfInBounds_toArray, List.set_cons_zero, List.set_cons_succ]
  refine anyX_one 14 (by kernel_rfl) ?_
  intro oi ho; cases ho; intro K hK
  (try simp only [Act.put, List.setIfInBounds_toArray, List.set_cons_zero, List.set_cons_succ])
  go_simp
  refine (hDb _).mono ?_
  rintro e w3 ⟨rfl, k3⟩
  have hS2 : (fun w' : World => w'.cell? ⟨w.heap.size, 0, none⟩ = some (.int .u8 6) ∧ w'.cell? ⟨w.heap.size, 1, none⟩ = some (I a) ∧ w'.cell? ⟨w.heap.size, 2, none⟩ = some (I b) ∧ w'.cell? ⟨w.heap.size + 1, 6, none⟩ = some (.string (⟨#[103, 105, 118, 101]⟩ : ByteArray))) w3 := ⟨New.cell k3 hS1.1, New.cell k3 hS1.2.1, New.cell k3 hS1.2.2.1, New.cell k3 hS1.2.2.2⟩
  refine hK _ _ (fun _ => hS2) ?_
  clear hK K
  refine anyX_one 15 (by kernel_rfl) ?_
  intro oi ho; cases ho; intro K hK
  (try simp only [Act.put, List.setIfInBounds_toArray, List.set_cons_zero, List.set_cons_succ])
  go_simp
  refine hK _ _ (fun _ => hS2) ?_
  clear hK K
  refine anyX_take 16 (by kernel_rfl) (by kernel_rfl) (by kernel_rfl) (by kernel_rfl) (by kernel_rfl) hS2 ?_
  intro oi ho; cases ho
  refine ⟨?_, fun _ _ _ h => h, Or.inl ⟨by rfl, ?_⟩, ?_⟩; rotate_left 1
  · (intro wS hSw; (try dsimp only at hSw); obtain ⟨hz0, hz1, hz2, hz3⟩ := hSw; go_simp; try with_reducible rfl)
  simp only [Act.put, List.setIfInBounds_toArray, List.set_cons_zero, List.set_cons_succ]
  refine anyX_take 17 (by kernel_rfl) (by kernel_rfl) (by kernel_rfl) (by kernel_rfl) (by kernel_rfl) hS2 ?_
  intro oi ho; cases ho
  refine ⟨?_, fun _ _ _ h => h, Or.inl ⟨by rfl, ?_⟩, ?_⟩; rotate_left 1
  · (intro wS hSw; (try dsimp only at hSw); obtain ⟨hz0, hz1, hz2, hz3⟩ := hSw; go_simp; try with_reducible rfl)
  simp only [Act.put, List.setIfInBounds_toArray, List.set_cons_zero, List.set_cons_succ]
  refine anyX_done (by kernel_rfl) ?_
  (try simp only [Act.put, List.setIfInBounds_toArray, List.set_cons_zero, List.set_cons_succ])
  (try simp only [Exit.then])
  go_wp2
  exact bodyPost_ret (v := .tuple #[.string (((((⟨#[103, 105, 118, 101]⟩ : ByteArray) ++ (⟨#[32]⟩ : ByteArray)) ++ da) ++ (⟨#[32]⟩ : ByteArray)) ++ db), I 0]) (by simp [results, Tryd.results4, go_sem]) rfl ⟨rfl, ((hN.drew).trans k2).trans k3⟩
set_option maxRecDepth 100000 in
set_option maxHeartbeats 4000000 in
theorem rshow_7 (w : World) (a b : Int) (ha0 : -9223372036854775808 ≤ a) (ha1 : a ≤ 9223372036854775807) (hb0 : -9223372036854775808 ≤ b) (hb1 : b ≤ 9223372036854775807) :
    Calls Tryd.prog 4 #[.agg #[.int .u8 7, I a, I b]] w fun e w' => e = .returned (.tuple #[.string (((⟨#[119, 114, 105, 116, 101]⟩ : ByteArray) ++ ((⟨#[32]⟩ : ByteArray) ++ decS a)) ++ ((⟨#[32]⟩ : ByteArray) ++ decS b)), I 0]) ∧ New w w' := by
  have sa := decS_size a ha0 ha1
  have sb := decS_size b hb0 hb1
  have z1 : (⟨#[119, 114, 105, 116, 101]⟩ : ByteArray).size = 5 := rfl
  have z2 : (⟨#[32]⟩ : ByteArray).size = 1 := rfl
  have h1 : ∀ w : World, (Op.stringOp .add (⟨#[119, 114, 105, 116, 101]⟩ : ByteArray) (⟨#[32]⟩ : ByteArray)).run Tryd.prog w = .ok (.string ((⟨#[119, 114, 105, 116, 101]⟩ : ByteArray) ++ (⟨#[32]⟩ : ByteArray))) w := fun w => run_string_add_sum w _ _ (by omega)
  have h2 : ∀ w : World, (Op.stringOp .add ((⟨#[119, 114, 105, 116, 101]⟩ : ByteArray) ++ (⟨#[32]⟩ : ByteArray)) (decS a)).run Tryd.prog w = .ok (.string (((⟨#[119, 114, 105, 116, 101]⟩ : ByteArray) ++ (⟨#[32]⟩ : ByteArray)) ++ (decS a))) w := fun w => run_string_add_sum w _ _ (by rw [ByteArray.size_append]; omega)
  have h3 : ∀ w : World, (Op.stringOp .add (((⟨#[119, 114, 105, 116, 101]⟩ : ByteArray) ++ (⟨#[32]⟩ : ByteArray)) ++ decS a) (⟨#[32]⟩ : ByteArray)).run Tryd.prog w = .ok (.string ((((⟨#[119, 114, 105, 116, 101]⟩ : ByteArray) ++ (⟨#[32]⟩ : ByteArray)) ++ decS a) ++ (⟨#[32]⟩ : ByteArray))) w := fun w => run_string_add_sum w _ _ (by rw [ByteArray.size_append, ByteArray.size_append]; omega)
  have h4 : ∀ w : World, (Op.stringOp .add ((((⟨#[119, 114, 105, 116, 101]⟩ : ByteArray) ++ (⟨#[32]⟩ : ByteArray)) ++ decS a) ++ (⟨#[32]⟩ : ByteArray)) (decS b)).run Tryd.prog w = .ok (.string (((((⟨#[119, 114, 105, 116, 101]⟩ : ByteArray) ++ (⟨#[32]⟩ : ByteArray)) ++ decS a) ++ (⟨#[32]⟩ : ByteArray)) ++ (decS b))) w := fun w => run_string_add_sum w _ _ (by rw [ByteArray.size_append, ByteArray.size_append, ByteArray.size_append]; omega)
  have hDa := fun w => decimal_any w a ha0 ha1
  have hDb := fun w => decimal_any w b hb0 hb1
  have hE : ((⟨#[119, 114, 105, 116, 101]⟩ : ByteArray) ++ ((⟨#[32]⟩ : ByteArray) ++ decS a)) ++ ((⟨#[32]⟩ : ByteArray) ++ decS b) = ((((⟨#[119, 114, 105, 116, 101]⟩ : ByteArray) ++ (⟨#[32]⟩ : ByteArray)) ++ decS a) ++ (⟨#[32]⟩ : ByteArray)) ++ decS b := by simp only [ByteArray.append_assoc]
  rw [hE]
  generalize decS a = da at h2 h3 h4 hDa
  generalize decS b = db at h4 hDb
  clear hE sa sb ha0 ha1 hb0 hb1 z1 z2
  go_enter Tryd.func4, Tryd.ntmps4
  go_wp2_with fail
  have hwk : IntKind.i64.wrap (7 : Int) = 7 := IntWalk.i64_in _ (by omega)
  have hc : (fun w' : World => w'.cell? ⟨w.heap.size, 0, none⟩ = some (.int .u8 7) ∧ w'.cell? ⟨w.heap.size, 1, none⟩ = some (I a) ∧ w'.cell? ⟨w.heap.size, 2, none⟩ = some (I b) ∧ w'.cell? ⟨w.heap.size + 1, 7, none⟩ = some (.string (⟨#[119, 114, 105, 116, 101]⟩ : ByteArray))) ((w.alloc (.cells #[.int .u8 7, I a, I b] 24)).alloc (.cells #[.string (⟨#[101, 110, 100]⟩ : ByteArray), .string (⟨#[104, 101, 97, 100]⟩ : ByteArray), .string (⟨#[98, 97, 99, 107]⟩ : ByteArray), .string (⟨#[116, 97, 107, 101]⟩ : ByteArray), .string (⟨#[114, 101, 97, 100]⟩ : ByteArray), .string (⟨#[99, 97, 108, 108]⟩ : ByteArray), .string (⟨#[103, 105, 118, 101]⟩ : ByteArray), .string (⟨#[119, 114, 105, 116, 101]⟩ : ByteArray)] 9)) := by
    refine ⟨?_, ?_, ?_, ?_⟩
    · exact New.cell ((New.refl (w.alloc (.cells #[.int .u8 7, I a, I b] 24))).alloc _) (by rw [cell_of_block (heap_alloc_new w _) 0]; simp)
    · exact New.cell ((New.refl (w.alloc (.cells #[.int .u8 7, I a, I b] 24))).alloc _) (by rw [cell_of_block (heap_alloc_new w _) 1]; simp)
    · exact New.cell ((New.refl (w.alloc (.cells #[.int .u8 7, I a, I b] 24))).alloc _) (by rw [cell_of_block (heap_alloc_new w _) 2]; simp)
    · have hh := heap_alloc_new (w.alloc (.cells #[.int .u8 7, I a, I b] 24)) (.cells #[.string (⟨#[101, 110, 100]⟩ : ByteArray), .string (⟨#[104, 101, 97, 100]⟩ : ByteArray), .string (⟨#[98, 97, 99, 107]⟩ : ByteArray), .string (⟨#[116, 97, 107, 101]⟩ : ByteArray), .string (⟨#[114, 101, 97, 100]⟩ : ByteArray), .string (⟨#[99, 97, 108, 108]⟩ : ByteArray), .string (⟨#[103, 105, 118, 101]⟩ : ByteArray), .string (⟨#[119, 114, 105, 116, 101]⟩ : ByteArray)] 9)
      rw [show (w.alloc (.cells #[.int .u8 7, I a, I b] 24)).heap.size = w.heap.size + 1 by simp] at hh
      rw [cell_of_block hh 7]; simp
  have hN : New w ((w.alloc (.cells #[.int .u8 7, I a, I b] 24)).alloc (.cells #[.string (⟨#[101, 110, 100]⟩ : ByteArray), .string (⟨#[104, 101, 97, 100]⟩ : ByteArray), .string (⟨#[98, 97, 99, 107]⟩ : ByteArray), .string (⟨#[116, 97, 107, 101]⟩ : ByteArray), .string (⟨#[114, 101, 97, 100]⟩ : ByteArray), .string (⟨#[99, 97, 108, 108]⟩ : ByteArray), .string (⟨#[103, 105, 118, 101]⟩ : ByteArray), .string (⟨#[119, 114, 105, 116, 101]⟩ : ByteArray)] 9)) := ((New.refl w).alloc _).alloc _
  generalize ((w.alloc (.cells #[.int .u8 7, I a, I b] 24)).alloc (.cells #[.string (⟨#[101, 110, 100]⟩ : ByteArray), .string (⟨#[104, 101, 97, 100]⟩ : ByteArray), .string (⟨#[98, 97, 99, 107]⟩ : ByteArray), .string (⟨#[116, 97, 107, 101]⟩ : ByteArray), .string (⟨#[114, 101, 97, 100]⟩ : ByteArray), .string (⟨#[99, 97, 108, 108]⟩ : ByteArray), .string (⟨#[103, 105, 118, 101]⟩ : ByteArray), .string (⟨#[119, 114, 105, 116, 101]⟩ : ByteArray)] 9)) = w1 at hc hN ⊢
  have hS0 : (fun w' : World => w'.cell? ⟨w.heap.size, 0, none⟩ = some (.int .u8 7) ∧ w'.cell? ⟨w.heap.size, 1, none⟩ = some (I a) ∧ w'.cell? ⟨w.heap.size, 2, none⟩ = some (I b) ∧ w'.cell? ⟨w.heap.size + 1, 7, none⟩ = some (.string (⟨#[119, 114, 105, 116, 101]⟩ : ByteArray))) w1.drew := ⟨New.cell ((New.refl w1).drew) hc.1, New.cell ((New.refl w1).drew) hc.2.1, New.cell ((New.refl w1).drew) hc.2.2.1, New.cell ((New.refl w1).drew) hc.2.2.2⟩
  refine wp_region_X (fun w' : World => w'.cell? ⟨w.heap.size, 0, none⟩ = some (.int .u8 7) ∧ w'.cell? ⟨w.heap.size, 1, none⟩ = some (I a) ∧ w'.cell? ⟨w.heap.size, 2, none⟩ = some (I b) ∧ w'.cell? ⟨w.heap.size + 1, 7, none⟩ = some (.string (⟨#[119, 114, 105, 116, 101]⟩ : ByteArray))) [] (by kernel_rfl) hS0 ?_
  refine anyX_take 0 (by kernel_rfl) (by kernel_rfl) (by kernel_rfl) (by kernel_rfl) (by kernel_rfl) hS0 ?_
  intro oi ho; cases ho
  refine ⟨?_, fun _ _ _ h => h, Or.inl ⟨by rfl, ?_⟩, ?_⟩; rotate_left 1
  · (intro wS hSw; (try dsimp only at hSw); obtain ⟨hz0, hz1, hz2, hz3⟩ := hSw; go_simp; try with_reducible rfl)
  simp only [Act.put, List.setIfInBounds_toArray, List.set_cons_zero, List.set_cons_succ]
  refine anyX_take 1 (by kernel_rfl) (by kernel_rfl) (by kernel_rfl) (by kernel_rfl) (by kernel_rfl) hS0 ?_
  intro oi ho; cases ho
  refine ⟨?_, fun _ _ _ h => h, Or.inl ⟨by rfl, ?_⟩, ?_⟩; rotate_left 1
  · (intro wS hSw; (try dsimp only at hSw); obtain ⟨hz0, hz1, hz2, hz3⟩ := hSw; go_simp; try with_reducible rfl)
  simp only [Act.put, List.setIfInBounds_toArray, List.set_cons_zero, List.set_cons_succ]
  refine anyX_take 2 (by kernel_rfl) (by kernel_rfl) (by kernel_rfl) (by kernel_rfl) (by kernel_rfl) hS0 ?_
  intro oi ho; cases ho
  refine ⟨?_, fun _ _ _ h => h, Or.inl ⟨by rfl, ?_⟩, ?_⟩; rotate_left 1
  · (intro wS hSw; (try dsimp only at hSw); obtain ⟨hz0, hz1, hz2, hz3⟩ := hSw; go_simp; try with_reducible rfl)
  simp only [Act.put, List.setIfInBounds_toArray, List.set_cons_zero, List.set_cons_succ]
  refine anyX_take 3 (by kernel_rfl) (by kernel_rfl) (by kernel_rfl) (by kernel_rfl) (by kernel_rfl) hS0 ?_
  intro oi ho; cases ho
  refine ⟨?_, fun _ _ _ h => h, Or.inl ⟨by rfl, ?_⟩, ?_⟩; rotate_left 1
  · (intro wS hSw; (try dsimp only at hSw); obtain ⟨hz0, hz1, hz2, hz3⟩ := hSw; go_simp; try with_reducible rfl)
  simp only [Act.put, List.setIfInBounds_toArray, List.set_cons_zero, List.set_cons_succ]
  refine anyX_take 4 (by kernel_rfl) (by kernel_rfl) (by kernel_rfl) (by kernel_rfl) (by kernel_rfl) hS0 ?_
  intro oi ho; cases ho
  refine ⟨?_, fun _ _ _ h => h, Or.inl ⟨by rfl, ?_⟩, ?_⟩; rotate_left 1
  · (intro wS hSw; (try dsimp only at hSw); obtain ⟨hz0, hz1, hz2, hz3⟩ := hSw; go_simp; try with_reducible rfl)
  simp only [Act.put, List.setIfInBounds_toArray, List.set_cons_zero, List.set_cons_succ]
  refine anyX_take 5 (by kernel_rfl) (by kernel_rfl) (by kernel_rfl) (by kernel_rfl) (by kernel_rfl) hS0 ?_
  intro oi ho; cases ho
  refine ⟨?_, fun _ _ _ h => h, Or.inl ⟨by rfl, ?_⟩, ?_⟩; rotate_left 1
  · (intro wS hSw; (try dsimp only at hSw); obtain ⟨hz0, hz1, hz2, hz3⟩ := hSw; go_simp; try with_reducible rfl)
  simp only [Act.put, List.setIfInBounds_toArray, List.set_cons_zero, List.set_cons_succ]
  refine anyX_take 6 (by kernel_rfl) (by kernel_rfl) (by kernel_rfl) (by kernel_rfl) (by kernel_rfl) hS0 ?_
  intro oi ho; cases ho
  refine ⟨?_, fun _ _ _ h => h, Or.inl ⟨by rfl, ?_⟩, ?_⟩; rotate_left 1
  · (intro wS hSw; (try dsimp only at hSw); obtain ⟨hz0, hz1, hz2, hz3⟩ := hSw; go_simp; try with_reducible rfl)
  simp only [Act.put, List.setIfInBounds_toArray, List.set_cons_zero, List.set_cons_succ]
  refine anyX_take 7 (by kernel_rfl) (by kernel_rfl) (by kernel_rfl) (by kernel_rfl) (by kernel_rfl) hS0 ?_
  intro oi ho; cases ho
  refine ⟨?_, fun _ _ _ h => h, Or.inl ⟨by rfl, ?_⟩, ?_⟩; rotate_left 1
  · (intro wS hSw; (try dsimp only at hSw); obtain ⟨hz0, hz1, hz2, hz3⟩ := hSw; go_simp; try with_reducible rfl)
  simp only [Act.put, List.setIfInBounds_toArray, List.set_cons_zero, List.set_cons_succ]
  refine anyX_take 8 (by kernel_rfl) (by kernel_rfl) (by kernel_rfl) (by kernel_rfl) (by kernel_rfl) hS0 ?_
  intro oi ho; cases ho
  refine ⟨?_, fun _ _ _ h => h, Or.inl ⟨by rfl, ?_⟩, ?_⟩; rotate_left 1
  · (intro wS hSw; (try dsimp only at hSw); obtain ⟨hz0, hz1, hz2, hz3⟩ := hSw; go_simp; try with_reducible rfl)
  simp only [Act.put, List.setIfInBounds_toArray, List.set_cons_zero, List.set_cons_succ]
  refine anyX_take 12 (by kernel_rfl) (by kernel_rfl) (by kernel_rfl) (by kernel_rfl) (by kernel_rfl) hS0 ?_
  intro oi ho; cases ho
  refine ⟨?_, fun _ _ _ h => h, Or.inl ⟨by rfl, ?_⟩, ?_⟩; rotate_left 1
  · (intro wS hSw; (try dsimp only at hSw); obtain ⟨hz0, hz1, hz2, hz3⟩ := hSw; go_simp; try with_reducible rfl)
  simp only [Act.put, List.setIfInBounds_toArray, List.set_cons_zero, List.set_cons_succ]
  refine anyX_take 13 (by kernel_rfl) (by kernel_rfl) (by kernel_rfl) (by kernel_rfl) (by kernel_rfl) hS0 ?_
  intro oi ho; cases ho
  refine ⟨?_, fun _ _ _ h => h, Or.inl ⟨by rfl, ?_⟩, ?_⟩; rotate_left 1
  · (intro wS hSw; (try dsimp only at hSw); obtain ⟨hz0, hz1, hz2, hz3⟩ := hSw; go_simp; try with_reducible rfl)
  simp only [Act.put, List.setIfInBounds_toArray, List.set_cons_zero, List.set_cons_succ]
  refine anyX_one 9 (by kernel_rfl) ?_
  intro oi ho; cases ho; intro K hK
  (try simp only [Act.put, List.setIfInBounds_toArray, List.set_cons_zero, List.set_cons_succ])
  go_simp
  refine (hDa _).mono ?_
  rintro e w2 ⟨rfl, k2⟩
  have hS1 : (fun w' : World => w'.cell? ⟨w.heap.size, 0, none⟩ = some (.int .u8 7) ∧ w'.cell? ⟨w.heap.size, 1, none⟩ = some (I a) ∧ w'.cell? ⟨w.heap.size, 2, none⟩ = some (I b) ∧ w'.cell? ⟨w.heap.size + 1, 7, none⟩ = some (.string (⟨#[119, 114, 105, 116, 101]⟩ : ByteArray))) w2 := ⟨New.cell k2 hS0.1, New.cell k2 hS0.2.1, New.cell k2 hS0.2.2.1, New.cell k2 hS0.2.2.2⟩
  refine hK _ _ (fun _ => hS1) ?_
  clear hK K
  refine anyX_take 10 (by kernel_rfl) (by kernel_rfl) (by kernel_rfl) (by kernel_rfl) (by kernel_rfl) hS1 ?_
  intro oi ho; cases ho
  refine ⟨?_, fun _ _ _ h => h, Or.inl ⟨by rfl, ?_⟩, ?_⟩; rotate_left 1
  · (intro wS hSw; (try dsimp only at hSw); obtain ⟨hz0, hz1, hz2, hz3⟩ := hSw; go_simp; try with_reducible rfl)
  simp only [Act.put, List.setIfInBounds_toArray, List.set_cons_zero, List.set_cons_succ]
  refine anyX_take 11 (by kernel_rfl) (by kernel_rfl) (by kernel_rfl) (by kernel_rfl) (by kernel_rfl) hS1 ?_
  intro oi ho; cases ho
  refine ⟨?_, fun _ _ _ h => h, Or.inl ⟨by rfl, ?_⟩, ?_⟩; rotate_left 1
  · (intro wS hSw; (try dsimp only at hSw); obtain ⟨hz0, hz1, hz2, hz3⟩ := hSw; go_simp; try with_reducible rfl)
  simp only [Act.put, List.setIfInBounds_toArray, List.set_cons_zero, List.set_cons_succ]
  refine anyX_one 14 (by kernel_rfl) ?_
  intro oi ho; cases ho; intro K hK
  (try simp only [Act.put, List.setIfInBounds_toArray, List.set_cons_zero, List.set_cons_succ])
  go_simp
  refine (hDb _).mono ?_
  rintro e w3 ⟨rfl, k3⟩
  have hS2 : (fun w' : World => w'.cell? ⟨w.heap.size, 0, none⟩ = some (.int .u8 7) ∧ w'.cell? ⟨w.heap.size, 1, none⟩ = some (I a) ∧ w'.cell? ⟨w.heap.size, 2, none⟩ = some (I b) ∧ w'.cell? ⟨w.heap.size + 1, 7, none⟩ = some (.string (⟨#[119, 114, 105, 116, 101]⟩ : ByteArray))) w3 := ⟨New.cell k3 hS1.1, New.cell k3 hS1.2.1, New.cell k3 hS1.2.2.1, New.cell k3 hS1.2.2.2⟩
  refine hK _ _ (fun _ => hS2) ?_
  clear hK K
  refine anyX_one 15 (by kernel_rfl) ?_
  intro oi ho; cases ho; intro K hK
  (try simp only [Act.put, List.setIfInBounds_toArray, List.set_cons_zero, List.set_cons_succ])
  go_simp
  refine hK _ _ (fun _ => hS2) ?_
  clear hK K
  refine anyX_take 16 (by kernel_rfl) (by kernel_rfl) (by kernel_rfl) (by kernel_rfl) (by kernel_rfl) hS2 ?_
  intro oi ho; cases ho
  refine ⟨?_, fun _ _ _ h => h, Or.inl ⟨by rfl, ?_⟩, ?_⟩; rotate_left 1
  · (intro wS hSw; (try dsimp only at hSw); obtain ⟨hz0, hz1, hz2, hz3⟩ := hSw; go_simp; try with_reducible rfl)
  simp only [Act.put, List.setIfInBounds_toArray, List.set_cons_zero, List.set_cons_succ]
  refine anyX_take 17 (by kernel_rfl) (by kernel_rfl) (by kernel_rfl) (by kernel_rfl) (by kernel_rfl) hS2 ?_
  intro oi ho; cases ho
  refine ⟨?_, fun _ _ _ h => h, Or.inl ⟨by rfl, ?_⟩, ?_⟩; rotate_left 1
  · (intro wS hSw; (try dsimp only at hSw); obtain ⟨hz0, hz1, hz2, hz3⟩ := hSw; go_simp; try with_reducible rfl)
  simp only [Act.put, List.setIfInBounds_toArray, List.set_cons_zero, List.set_cons_succ]
  refine anyX_done (by kernel_rfl) ?_
  (try simp only [Act.put, List.setIfInBounds_toArray, List.set_cons_zero, List.set_cons_succ])
  (try simp only [Exit.then])
  go_wp2
  exact bodyPost_ret (v := .tuple #[.string (((((⟨#[119, 114, 105, 116, 101]⟩ : ByteArray) ++ (⟨#[32]⟩ : ByteArray)) ++ da) ++ (⟨#[32]⟩ : ByteArray)) ++ db), I 0]) (by simp [results, Tryd.results4, go_sem]) rfl ⟨rfl, ((hN.drew).trans k2).trans k3⟩
set_option maxRecDepth 100000 in
set_option maxHeartbeats 4000000 in
theorem cshow_0 (w : World) (a b : Int) (ha0 : -9223372036854775808 ≤ a) (ha1 : a ≤ 9223372036854775807) (hb0 : -9223372036854775808 ≤ b) (hb1 : b ≤ 9223372036854775807) (ht : Lib.TabIs Tryd.prog w "internal/strconv.uint64pow10" .u64 Lib.pow10Tab) :
    Calls Tryd.prog 5 #[.agg #[.int .u8 0, I a, I b]] w fun e w' => e = .returned (.tuple #[.string (⟨#[101, 110, 100]⟩ : ByteArray), I 0]) ∧ New w w' := by
  clear ht ha0 ha1 hb0 hb1
  go_enter Tryd.func5, Tryd.ntmps5
  go_wp2_with fail
  exact bodyPost_ret (v := .tuple #[.string (⟨#[101, 110, 100]⟩ : ByteArray), I 0]) (by simp [results, Tryd.results5, go_sem]) rfl ⟨rfl, ((New.refl w).alloc _).alloc _⟩
set_option maxRecDepth 100000 in
set_option maxHeartbeats 4000000 in
theorem cshow_1 (w : World) (a b : Int) (ha0 : -9223372036854775808 ≤ a) (ha1 : a ≤ 9223372036854775807) (hb0 : -9223372036854775808 ≤ b) (hb1 : b ≤ 9223372036854775807) (ht : Lib.TabIs Tryd.prog w "internal/strconv.uint64pow10" .u64 Lib.pow10Tab) :
    Calls Tryd.prog 5 #[.agg #[.int .u8 1, I a, I b]] w fun e w' => e = .returned (.tuple #[.string (((⟨#[104, 101, 97, 100]⟩ : ByteArray) ++ ((⟨#[32]⟩ : ByteArray) ++ decS a)) ++ ((⟨#[32]⟩ : ByteArray) ++ decS b)), I 0]) ∧ New w w' := by
  have sa := decS_size a ha0 ha1
  have sb := decS_size b hb0 hb1
  have z1 : (⟨#[104, 101, 97, 100]⟩ : ByteArray).size = 4 := rfl
  have z2 : (⟨#[32]⟩ : ByteArray).size = 1 := rfl
  have h1 : ∀ w : World, (Op.stringOp .add (⟨#[32]⟩ : ByteArray) (decS a)).run Tryd.prog w = .ok (.string ((⟨#[32]⟩ : ByteArray) ++ (decS a))) w := fun w => run_string_add_sum w _ _ (by omega)
  have h2 : ∀ w : World, (Op.stringOp .add (⟨#[104, 101, 97, 100]⟩ : ByteArray) ((⟨#[32]⟩ : ByteArray) ++ decS a)).run Tryd.prog w = .ok (.string ((⟨#[104, 101, 97, 100]⟩ : ByteArray) ++ ((⟨#[32]⟩ : ByteArray) ++ decS a))) w := fun w => run_string_add_sum w _ _ (by rw [ByteArray.size_append]; omega)
  have h3 : ∀ w : World, (Op.stringOp .add (⟨#[32]⟩ : ByteArray) (decS b)).run Tryd.prog w = .ok (.string ((⟨#[32]⟩ : ByteArray) ++ (decS b))) w := fun w => run_string_add_sum w _ _ (by omega)
  have h4 : ∀ w : World, (Op.stringOp .add ((⟨#[104, 101, 97, 100]⟩ : ByteArray) ++ ((⟨#[32]⟩ : ByteArray) ++ decS a)) ((⟨#[32]⟩ : ByteArray) ++ decS b)).run Tryd.prog w = .ok (.string (((⟨#[104, 101, 97, 100]⟩ : ByteArray) ++ ((⟨#[32]⟩ : ByteArray) ++ decS a)) ++ ((⟨#[32]⟩ : ByteArray) ++ decS b))) w := fun w => run_string_add_sum w _ _ (by rw [ByteArray.size_append, ByteArray.size_append, ByteArray.size_append]; omega)
  have hDa := fun W k => itoa_any W a ha0 ha1 (tab_new ht k)
  have hDb := fun W k => itoa_any W b hb0 hb1 (tab_new ht k)
  generalize decS a = da at h1 h2 h4 hDa
  generalize decS b = db at h3 h4 hDb
  clear sb
  clear ht sa ha0 ha1 hb0 hb1 z1 z2
  go_enter Tryd.func5, Tryd.ntmps5
  go_wp2_with fail
  refine (hDa _ (((New.refl w).alloc _).alloc _)).mono ?_
  rintro e w2 ⟨rfl, k2⟩
  have k3 := (((New.refl w).alloc _).alloc _).trans k2
  have c0 : w2.cell? ⟨w.heap.size, 0, none⟩ = some (.int .u8 1) := New.cell k2 (New.cell ((New.refl (w.alloc (.cells #[.int .u8 1, I a, I b] 24))).alloc _) (by rw [cell_of_block (heap_alloc_new w _) 0]; simp))
  have c1 : w2.cell? ⟨w.heap.size, 1, none⟩ = some (I a) := New.cell k2 (New.cell ((New.refl (w.alloc (.cells #[.int .u8 1, I a, I b] 24))).alloc _) (by rw [cell_of_block (heap_alloc_new w _) 1]; simp))
  have c2 : w2.cell? ⟨w.heap.size, 2, none⟩ = some (I b) := New.cell k2 (New.cell ((New.refl (w.alloc (.cells #[.int .u8 1, I a, I b] 24))).alloc _) (by rw [cell_of_block (heap_alloc_new w _) 2]; simp))
  go_wp2_with fail
  refine (hDb _ k3).mono ?_
  rintro e w3 ⟨rfl, k4⟩
  go_wp2_with fail
  exact bodyPost_ret (v := .tuple #[.string (((⟨#[104, 101, 97, 100]⟩ : ByteArray) ++ ((⟨#[32]⟩ : ByteArray) ++ da)) ++ ((⟨#[32]⟩ : ByteArray) ++ db)), I 0]) (by simp [results, Tryd.results5, go_sem]) rfl ⟨rfl, k3.trans k4⟩
set_option maxRecDepth 100000 in
set_option maxHeartbeats 4000000 in
theorem cshow_2 (w : World) (a b : Int) (ha0 : -9223372036854775808 ≤ a) (ha1 : a ≤ 9223372036854775807) (hb0 : -9223372036854775808 ≤ b) (hb1 : b ≤ 9223372036854775807) (ht : Lib.TabIs Tryd.prog w "internal/strconv.uint64pow10" .u64 Lib.pow10Tab) :
    Calls Tryd.prog 5 #[.agg #[.int .u8 2, I a, I b]] w fun e w' => e = .returned (.tuple #[.string (((⟨#[98, 97, 99, 107]⟩ : ByteArray) ++ ((⟨#[32]⟩ : ByteArray) ++ decS a)) ++ ((⟨#[32]⟩ : ByteArray) ++ decS b)), I 0]) ∧ New w w' := by
  have sa := decS_size a ha0 ha1
  have sb := decS_size b hb0 hb1
  have z1 : (⟨#[98, 97, 99, 107]⟩ : ByteArray).size = 4 := rfl
  have z2 : (⟨#[32]⟩ : ByteArray).size = 1 := rfl
  have h1 : ∀ w : World, (Op.stringOp .add (⟨#[32]⟩ : ByteArray) (decS a)).run Tryd.prog w = .ok (.string ((⟨#[32]⟩ : ByteArray) ++ (decS a))) w := fun w => run_string_add_sum w _ _ (by omega)
  have h2 : ∀ w : World, (Op.stringOp .add (⟨#[98, 97, 99, 107]⟩ : ByteArray) ((⟨#[32]⟩ : ByteArray) ++ decS a)).run Tryd.prog w = .ok (.string ((⟨#[98, 97, 99, 107]⟩ : ByteArray) ++ ((⟨#[32]⟩ : ByteArray) ++ decS a))) w := fun w => run_string_add_sum w _ _ (by rw [ByteArray.size_append]; omega)
  have h3 : ∀ w : World, (Op.stringOp .add (⟨#[32]⟩ : ByteArray) (decS b)).run Tryd.prog w = .ok (.string ((⟨#[32]⟩ : ByteArray) ++ (decS b))) w := fun w => run_string_add_sum w _ _ (by omega)
  have h4 : ∀ w : World, (Op.stringOp .add ((⟨#[98, 97, 99, 107]⟩ : ByteArray) ++ ((⟨#[32]⟩ : ByteArray) ++ decS a)) ((⟨#[32]⟩ : ByteArray) ++ decS b)).run Tryd.prog w = .ok (.string (((⟨#[98, 97, 99, 107]⟩ : ByteArray) ++ ((⟨#[32]⟩ : ByteArray) ++ decS a)) ++ ((⟨#[32]⟩ : ByteArray) ++ decS b))) w := fun w => run_string_add_sum w _ _ (by rw [ByteArray.size_append, ByteArray.size_append, ByteArray.size_append]; omega)
  have hDa := fun W k => itoa_any W a ha0 ha1 (tab_new ht k)
  have hDb := fun W k => itoa_any W b hb0 hb1 (tab_new ht k)
  generalize decS a = da at h1 h2 h4 hDa
  generalize decS b = db at h3 h4 hDb
  clear sb
  clear ht sa ha0 ha1 hb0 hb1 z1 z2
  go_enter Tryd.func5, Tryd.ntmps5
  go_wp2_with fail
  refine (hDa _ (((New.refl w).alloc _).alloc _)).mono ?_
  rintro e w2 ⟨rfl, k2⟩
  have k3 := (((New.refl w).alloc _).alloc _).trans k2
  have c0 : w2.cell? ⟨w.heap.size, 0, none⟩ = some (.int .u8 2) := New.cell k2 (New.cell ((New.refl (w.alloc (.cells #[.int .u8 2, I a, I b] 24))).alloc _) (by rw [cell_of_block (heap_alloc_new w _) 0]; simp))
  have c1 : w2.cell? ⟨w.heap.size, 1, none⟩ = some (I a) := New.cell k2 (New.cell ((New.refl (w.alloc (.cells #[.int .u8 2, I a, I b] 24))).alloc _) (by rw [cell_of_block (heap_alloc_new w _) 1]; simp))
  have c2 : w2.cell? ⟨w.heap.size, 2, none⟩ = some (I b) := New.cell k2 (New.cell ((New.refl (w.alloc (.cells #[.int .u8 2, I a, I b] 24))).alloc _) (by rw [cell_of_block (heap_alloc_new w _) 2]; simp))
  go_wp2_with fail
  refine (hDb _ k3).mono ?_
  rintro e w3 ⟨rfl, k4⟩
  go_wp2_with fail
  exact bodyPost_ret (v := .tuple #[.string (((⟨#[98, 97, 99, 107]⟩ : ByteArray) ++ ((⟨#[32]⟩ : ByteArray) ++ da)) ++ ((⟨#[32]⟩ : ByteArray) ++ db)), I 0]) (by simp [results, Tryd.results5, go_sem]) rfl ⟨rfl, k3.trans k4⟩
set_option maxRecDepth 100000 in
set_option maxHeartbeats 4000000 in
theorem cshow_3 (w : World) (a b : Int) (ha0 : -9223372036854775808 ≤ a) (ha1 : a ≤ 9223372036854775807) (hb0 : -9223372036854775808 ≤ b) (hb1 : b ≤ 9223372036854775807) (ht : Lib.TabIs Tryd.prog w "internal/strconv.uint64pow10" .u64 Lib.pow10Tab) :
    Calls Tryd.prog 5 #[.agg #[.int .u8 3, I a, I b]] w fun e w' => e = .returned (.tuple #[.string (((⟨#[116, 97, 107, 101]⟩ : ByteArray) ++ ((⟨#[32]⟩ : ByteArray) ++ decS a)) ++ ((⟨#[32]⟩ : ByteArray) ++ decS b)), I 0]) ∧ New w w' := by
  have sa := decS_size a ha0 ha1
  have sb := decS_size b hb0 hb1
  have z1 : (⟨#[116, 97, 107, 101]⟩ : ByteArray).size = 4 := rfl
  have z2 : (⟨#[32]⟩ : ByteArray).size = 1 := rfl
  have h1 : ∀ w : World, (Op.stringOp .add (⟨#[32]⟩ : ByteArray) (decS a)).run Tryd.prog w = .ok (.string ((⟨#[32]⟩ : ByteArray) ++ (decS a))) w := fun w => run_string_add_sum w _ _ (by omega)
  have h2 : ∀ w : World, (Op.stringOp .add (⟨#[116, 97, 107, 101]⟩ : ByteArray) ((⟨#[32]⟩ : ByteArray) ++ decS a)).run Tryd.prog w = .ok (.string ((⟨#[116, 97, 107, 101]⟩ : ByteArray) ++ ((⟨#[32]⟩ : ByteArray) ++ decS a))) w := fun w => run_string_add_sum w _ _ (by rw [ByteArray.size_append]; omega)
  have h3 : ∀ w : World, (Op.stringOp .add (⟨#[32]⟩ : ByteArray) (decS b)).run Tryd.prog w = .ok (.string ((⟨#[32]⟩ : ByteArray) ++ (decS b))) w := fun w => run_string_add_sum w _ _ (by omega)
  have h4 : ∀ w : World, (Op.stringOp .add ((⟨#[116, 97, 107, 101]⟩ : ByteArray) ++ ((⟨#[32]⟩ : ByteArray) ++ decS a)) ((⟨#[32]⟩ : ByteArray) ++ decS b)).run Tryd.prog w = .ok (.string (((⟨#[116, 97, 107, 101]⟩ : ByteArray) ++ ((⟨#[32]⟩ : ByteArray) ++ decS a)) ++ ((⟨#[32]⟩ : ByteArray) ++ decS b))) w := fun w => run_string_add_sum w _ _ (by rw [ByteArray.size_append, ByteArray.size_append, ByteArray.size_append]; omega)
  have hDa := fun W k => itoa_any W a ha0 ha1 (tab_new ht k)
  have hDb := fun W k => itoa_any W b hb0 hb1 (tab_new ht k)
  generalize decS a = da at h1 h2 h4 hDa
  generalize decS b = db at h3 h4 hDb
  clear sb
  clear ht sa ha0 ha1 hb0 hb1 z1 z2
  go_enter Tryd.func5, Tryd.ntmps5
  go_wp2_with fail
  refine (hDa _ (((New.refl w).alloc _).alloc _)).mono ?_
  rintro e w2 ⟨rfl, k2⟩
  have k3 := (((New.refl w).alloc _).alloc _).trans k2
  have c0 : w2.cell? ⟨w.heap.size, 0, none⟩ = some (.int .u8 3) := New.cell k2 (New.cell ((New.refl (w.alloc (.cells #[.int .u8 3, I a, I b] 24))).alloc _) (by rw [cell_of_block (heap_alloc_new w _) 0]; simp))
  have c1 : w2.cell? ⟨w.heap.size, 1, none⟩ = some (I a) := New.cell k2 (New.cell ((New.refl (w.alloc (.cells #[.int .u8 3, I a, I b] 24))).alloc _) (by rw [cell_of_block (heap_alloc_new w _) 1]; simp))
  have c2 : w2.cell? ⟨w.heap.size, 2, none⟩ = some (I b) := New.cell k2 (New.cell ((New.refl (w.alloc (.cells #[.int .u8 3, I a, I b] 24))).alloc _) (by rw [cell_of_block (heap_alloc_new w _) 2]; simp))
  go_wp2_with fail
  refine (hDb _ k3).mono ?_
  rintro e w3 ⟨rfl, k4⟩
  go_wp2_with fail
  exact bodyPost_ret (v := .tuple #[.string (((⟨#[116, 97, 107, 101]⟩ : ByteArray) ++ ((⟨#[32]⟩ : ByteArray) ++ da)) ++ ((⟨#[32]⟩ : ByteArray) ++ db)), I 0]) (by simp [results, Tryd.results5, go_sem]) rfl ⟨rfl, k3.trans k4⟩
set_option maxRecDepth 100000 in
set_option maxHeartbeats 4000000 in
theorem cshow_4 (w : World) (a b : Int) (ha0 : -9223372036854775808 ≤ a) (ha1 : a ≤ 9223372036854775807) (hb0 : -9223372036854775808 ≤ b) (hb1 : b ≤ 9223372036854775807) (ht : Lib.TabIs Tryd.prog w "internal/strconv.uint64pow10" .u64 Lib.pow10Tab) :
    Calls Tryd.prog 5 #[.agg #[.int .u8 4, I a, I b]] w fun e w' => e = .returned (.tuple #[.string (((⟨#[114, 101, 97, 100]⟩ : ByteArray) ++ ((⟨#[32]⟩ : ByteArray) ++ decS a)) ++ ((⟨#[32]⟩ : ByteArray) ++ decS b)), I 0]) ∧ New w w' := by
  have sa := decS_size a ha0 ha1
  have sb := decS_size b hb0 hb1
  have z1 : (⟨#[114, 101, 97, 100]⟩ : ByteArray).size = 4 := rfl
  have z2 : (⟨#[32]⟩ : ByteArray).size = 1 := rfl
  have h1 : ∀ w : World, (Op.stringOp .add (⟨#[32]⟩ : ByteArray) (decS a)).run Tryd.prog w = .ok (.string ((⟨#[32]⟩ : ByteArray) ++ (decS a))) w := fun w => run_string_add_sum w _ _ (by omega)
  have h2 : ∀ w : World, (Op.stringOp .add (⟨#[114, 101, 97, 100]⟩ : ByteArray) ((⟨#[32]⟩ : ByteArray) ++ decS a)).run Tryd.prog w = .ok (.string ((⟨#[114, 101, 97, 100]⟩ : ByteArray) ++ ((⟨#[32]⟩ : ByteArray) ++ decS a))) w := fun w => run_string_add_sum w _ _ (by rw [ByteArray.size_append]; omega)
  have h3 : ∀ w : World, (Op.stringOp .add (⟨#[32]⟩ : ByteArray) (decS b)).run Tryd.prog w = .ok (.string ((⟨#[32]⟩ : ByteArray) ++ (decS b))) w := fun w => run_string_add_sum w _ _ (by omega)
  have h4 : ∀ w : World, (Op.stringOp .add ((⟨#[114, 101, 97, 100]⟩ : ByteArray) ++ ((⟨#[32]⟩ : ByteArray) ++ decS a)) ((⟨#[32]⟩ : ByteArray) ++ decS b)).run Tryd.prog w = .ok (.string (((⟨#[114, 101, 97, 100]⟩ : ByteArray) ++ ((⟨#[32]⟩ : ByteArray) ++ decS a)) ++ ((⟨#[32]⟩ : ByteArray) ++ decS b))) w := fun w => run_string_add_sum w _ _ (by rw [ByteArray.size_append, ByteArray.size_append, ByteArray.size_append]; omega)
  have hDa := fun W k => itoa_any W a ha0 ha1 (tab_new ht k)
  have hDb := fun W k => itoa_any W b hb0 hb1 (tab_new ht k)
  generalize decS a = da at h1 h2 h4 hDa
  generalize decS b = db at h3 h4 hDb
  clear sb
  clear ht sa ha0 ha1 hb0 hb1 z1 z2
  go_enter Tryd.func5, Tryd.ntmps5
  go_wp2_with fail
  refine (hDa _ (((New.refl w).alloc _).alloc _)).mono ?_
  rintro e w2 ⟨rfl, k2⟩
  have k3 := (((New.refl w).alloc _).alloc _).trans k2
  have c0 : w2.cell? ⟨w.heap.size, 0, none⟩ = some (.int .u8 4) := New.cell k2 (New.cell ((New.refl (w.alloc (.cells #[.int .u8 4, I a, I b] 24))).alloc _) (by rw [cell_of_block (heap_alloc_new w _) 0]; simp))
  have c1 : w2.cell? ⟨w.heap.size, 1, none⟩ = some (I a) := New.cell k2 (New.cell ((New.refl (w.alloc (.cells #[.int .u8 4, I a, I b] 24))).alloc _) (by rw [cell_of_block (heap_alloc_new w _) 1]; simp))
  have c2 : w2.cell? ⟨w.heap.size, 2, none⟩ = some (I b) := New.cell k2 (New.cell ((New.refl (w.alloc (.cells #[.int .u8 4, I a, I b] 24))).alloc _) (by rw [cell_of_block (heap_alloc_new w _) 2]; simp))
  go_wp2_with fail
  refine (hDb _ k3).mono ?_
  rintro e w3 ⟨rfl, k4⟩
  go_wp2_with fail
  exact bodyPost_ret (v := .tuple #[.string (((⟨#[114, 101, 97, 100]⟩ : ByteArray) ++ ((⟨#[32]⟩ : ByteArray) ++ da)) ++ ((⟨#[32]⟩ : ByteArray) ++ db)), I 0]) (by simp [results, Tryd.results5, go_sem]) rfl ⟨rfl, k3.trans k4⟩
set_option maxRecDepth 100000 in
set_option maxHeartbeats 4000000 in
theorem cshow_5 (w : World) (a b : Int) (ha0 : -9223372036854775808 ≤ a) (ha1 : a ≤ 9223372036854775807) (hb0 : -9223372036854775808 ≤ b) (hb1 : b ≤ 9223372036854775807) (ht : Lib.TabIs Tryd.prog w "internal/strconv.uint64pow10" .u64 Lib.pow10Tab) :
    Calls Tryd.prog 5 #[.agg #[.int .u8 5, I a, I b]] w fun e w' => e = .returned (.tuple #[.string ((⟨#[99, 97, 108, 108]⟩ : ByteArray) ++ ((⟨#[32]⟩ : ByteArray) ++ decS a)), I 0]) ∧ New w w' := by
  have sa := decS_size a ha0 ha1
  have sb := decS_size b hb0 hb1
  have z1 : (⟨#[99, 97, 108, 108]⟩ : ByteArray).size = 4 := rfl
  have z2 : (⟨#[32]⟩ : ByteArray).size = 1 := rfl
  have h1 : ∀ w : World, (Op.stringOp .add (⟨#[32]⟩ : ByteArray) (decS a)).run Tryd.prog w = .ok (.string ((⟨#[32]⟩ : ByteArray) ++ (decS a))) w := fun w => run_string_add_sum w _ _ (by omega)
  have h2 : ∀ w : World, (Op.stringOp .add (⟨#[99, 97, 108, 108]⟩ : ByteArray) ((⟨#[32]⟩ : ByteArray) ++ decS a)).run Tryd.prog w = .ok (.string ((⟨#[99, 97, 108, 108]⟩ : ByteArray) ++ ((⟨#[32]⟩ : ByteArray) ++ decS a))) w := fun w => run_string_add_sum w _ _ (by rw [ByteArray.size_append]; omega)
  have hDa := fun W k => itoa_any W a ha0 ha1 (tab_new ht k)
  have hDb := fun W k => itoa_any W b hb0 hb1 (tab_new ht k)
  generalize decS a = da at h1 h2 hDa
  clear hDb sb
  clear ht sa ha0 ha1 hb0 hb1 z1 z2
  go_enter Tryd.func5, Tryd.ntmps5
  go_wp2_with fail
  refine (hDa _ (((New.refl w).alloc _).alloc _)).mono ?_
  rintro e w2 ⟨rfl, k2⟩
  have k3 := (((New.refl w).alloc _).alloc _).trans k2
  have c0 : w2.cell? ⟨w.heap.size, 0, none⟩ = some (.int .u8 5) := New.cell k2 (New.cell ((New.refl (w.alloc (.cells #[.int .u8 5, I a, I b] 24))).alloc _) (by rw [cell_of_block (heap_alloc_new w _) 0]; simp))
  have c1 : w2.cell? ⟨w.heap.size, 1, none⟩ = some (I a) := New.cell k2 (New.cell ((New.refl (w.alloc (.cells #[.int .u8 5, I a, I b] 24))).alloc _) (by rw [cell_of_block (heap_alloc_new w _) 1]; simp))
  have c2 : w2.cell? ⟨w.heap.size, 2, none⟩ = some (I b) := New.cell k2 (New.cell ((New.refl (w.alloc (.cells #[.int .u8 5, I a, I b] 24))).alloc _) (by rw [cell_of_block (heap_alloc_new w _) 2]; simp))
  go_wp2_with fail
  exact bodyPost_ret (v := .tuple #[.string ((⟨#[99, 97, 108, 108]⟩ : ByteArray) ++ ((⟨#[32]⟩ : ByteArray) ++ da)), I 0]) (by simp [results, Tryd.results5, go_sem]) rfl ⟨rfl, k3⟩
set_option maxRecDepth 100000 in
set_option maxHeartbeats 4000000 in
theorem cshow_6 (w : World) (a b : Int) (ha0 : -9223372036854775808 ≤ a) (ha1 : a ≤ 9223372036854775807) (hb0 : -9223372036854775808 ≤ b) (hb1 : b ≤ 9223372036854775807) (ht : Lib.TabIs Tryd.prog w "internal/strconv.uint64pow10" .u64 Lib.pow10Tab) :
    Calls Tryd.prog 5 #[.agg #[.int .u8 6, I a, I b]] w fun e w' => e = .returned (.tuple #[.string (((⟨#[103, 105, 118, 101]⟩ : ByteArray) ++ ((⟨#[32]⟩ : ByteArray) ++ decS a)) ++ ((⟨#[32]⟩ : ByteArray) ++ decS b)), I 0]) ∧ New w w' := by
  have sa := decS_size a ha0 ha1
  have sb := decS_size b hb0 hb1
  have z1 : (⟨#[103, 105, 118, 101]⟩ : ByteArray).size = 4 := rfl
  have z2 : (⟨#[32]⟩ : ByteArray).size = 1 := rfl
  have h1 : ∀ w : World, (Op.stringOp .add (⟨#[32]⟩ : ByteArray) (decS a)).run Tryd.prog w = .ok (.string ((⟨#[32]⟩ : ByteArray) ++ (decS a))) w := fun w => run_string_add_sum w _ _ (by omega)
  have h2 : ∀ w : World, (Op.stringOp .add (⟨#[103, 105, 118, 101]⟩ : ByteArray) ((⟨#[32]⟩ : ByteArray) ++ decS a)).run Tryd.prog w = .ok (.string ((⟨#[103, 105, 118, 101]⟩ : ByteArray) ++ ((⟨#[32]⟩ : ByteArray) ++ decS a))) w := fun w => run_string_add_sum w _ _ (by rw [ByteArray.size_append]; omega)
  have h3 : ∀ w : World, (Op.stringOp .add (⟨#[32]⟩ : ByteArray) (decS b)).run Tryd.prog w = .ok (.string ((⟨#[32]⟩ : ByteArray) ++ (decS b))) w := fun w => run_string_add_sum w _ _ (by omega)
  have h4 : ∀ w : World, (Op.stringOp .add ((⟨#[103, 105, 118, 101]⟩ : ByteArray) ++ ((⟨#[32]⟩ : ByteArray) ++ decS a)) ((⟨#[32]⟩ : ByteArray) ++ decS b)).run Tryd.prog w = .ok (.string (((⟨#[103, 105, 118, 101]⟩ : ByteArray) ++ ((⟨#[32]⟩ : ByteArray) ++ decS a)) ++ ((⟨#[32]⟩ : ByteArray) ++ decS b))) w := fun w => run_string_add_sum w _ _ (by rw [ByteArray.size_append, ByteArray.size_append, ByteArray.size_append]; omega)
  have hDa := fun W k => itoa_any W a ha0 ha1 (tab_new ht k)
  have hDb := fun W k => itoa_any W b hb0 hb1 (tab_new ht k)
  generalize decS a = da at h1 h2 h4 hDa
  generalize decS b = db at h3 h4 hDb
  clear sb
  clear ht sa ha0 ha1 hb0 hb1 z1 z2
  go_enter Tryd.func5, Tryd.ntmps5
  go_wp2_with fail
  refine (hDa _ (((New.refl w).alloc _).alloc _)).mono ?_
  rintro e w2 ⟨rfl, k2⟩
  have k3 := (((New.refl w).alloc _).alloc _).trans k2
  have c0 : w2.cell? ⟨w.heap.size, 0, none⟩ = some (.int .u8 6) := New.cell k2 (New.cell ((New.refl (w.alloc (.cells #[.int .u8 6, I a, I b] 24))).alloc _) (by rw [cell_of_block (heap_alloc_new w _) 0]; simp))
  have c1 : w2.cell? ⟨w.heap.size, 1, none⟩ = some (I a) := New.cell k2 (New.cell ((New.refl (w.alloc (.cells #[.int .u8 6, I a, I b] 24))).alloc _) (by rw [cell_of_block (heap_alloc_new w _) 1]; simp))
  have c2 : w2.cell? ⟨w.heap.size, 2, none⟩ = some (I b) := New.cell k2 (New.cell ((New.refl (w.alloc (.cells #[.int .u8 6, I a, I b] 24))).alloc _) (by rw [cell_of_block (heap_alloc_new w _) 2]; simp))
  go_wp2_with fail
  refine (hDb _ k3).mono ?_
  rintro e w3 ⟨rfl, k4⟩
  go_wp2_with fail
  exact bodyPost_ret (v := .tuple #[.string (((⟨#[103, 105, 118, 101]⟩ : ByteArray) ++ ((⟨#[32]⟩ : ByteArray) ++ da)) ++ ((⟨#[32]⟩ : ByteArray) ++ db)), I 0]) (by simp [results, Tryd.results5, go_sem]) rfl ⟨rfl, k3.trans k4⟩
set_option maxRecDepth 100000 in
set_option maxHeartbeats 4000000 in
theorem cshow_7 (w : World) (a b : Int) (ha0 : -9223372036854775808 ≤ a) (ha1 : a ≤ 9223372036854775807) (hb0 : -9223372036854775808 ≤ b) (hb1 : b ≤ 9223372036854775807) (ht : Lib.TabIs Tryd.prog w "internal/strconv.uint64pow10" .u64 Lib.pow10Tab) :
    Calls Tryd.prog 5 #[.agg #[.int .u8 7, I a, I b]] w fun e w' => e = .returned (.tuple #[.string (((⟨#[119, 114, 105, 116, 101]⟩ : ByteArray) ++ ((⟨#[32]⟩ : ByteArray) ++ decS a)) ++ ((⟨#[32]⟩ : ByteArray) ++ decS b)), I 0]) ∧ New w w' := by
  have sa := decS_size a ha0 ha1
  have sb := decS_size b hb0 hb1
  have z1 : (⟨#[119, 114, 105, 116, 101]⟩ : ByteArray).size = 5 := rfl
  have z2 : (⟨#[32]⟩ : ByteArray).size = 1 := rfl
  have h1 : ∀ w : World, (Op.stringOp .add (⟨#[32]⟩ : ByteArray) (decS a)).run Tryd.prog w = .ok (.string ((⟨#[32]⟩ : ByteArray) ++ (decS a))) w := fun w => run_string_add_sum w _ _ (by omega)
  have h2 : ∀ w : World, (Op.stringOp .add (⟨#[119, 114, 105, 116, 101]⟩ : ByteArray) ((⟨#[32]⟩ : ByteArray) ++ decS a)).run Tryd.prog w = .ok (.string ((⟨#[119, 114, 105, 116, 101]⟩ : ByteArray) ++ ((⟨#[32]⟩ : ByteArray) ++ decS a))) w := fun w => run_string_add_sum w _ _ (by rw [ByteArray.size_append]; omega)
  have h3 : ∀ w : World, (Op.stringOp .add (⟨#[32]⟩ : ByteArray) (decS b)).run Tryd.prog w = .ok (.string ((⟨#[32]⟩ : ByteArray) ++ (decS b))) w := fun w => run_string_add_sum w _ _ (by omega)
  have h4 : ∀ w : World, (Op.stringOp .add ((⟨#[119, 114, 105, 116, 101]⟩ : ByteArray) ++ ((⟨#[32]⟩ : ByteArray) ++ decS a)) ((⟨#[32]⟩ : ByteArray) ++ decS b)).run Tryd.prog w = .ok (.string (((⟨#[119, 114, 105, 116, 101]⟩ : ByteArray) ++ ((⟨#[32]⟩ : ByteArray) ++ decS a)) ++ ((⟨#[32]⟩ : ByteArray) ++ decS b))) w := fun w => run_string_add_sum w _ _ (by rw [ByteArray.size_append, ByteArray.size_append, ByteArray.size_append]; omega)
  have hDa := fun W k => itoa_any W a ha0 ha1 (tab_new ht k)
  have hDb := fun W k => itoa_any W b hb0 hb1 (tab_new ht k)
  generalize decS a = da at h1 h2 h4 hDa
  generalize decS b = db at h3 h4 hDb
  clear sb
  clear ht sa ha0 ha1 hb0 hb1 z1 z2
  go_enter Tryd.func5, Tryd.ntmps5
  go_wp2_with fail
  refine (hDa _ (((New.refl w).alloc _).alloc _)).mono ?_
  rintro e w2 ⟨rfl, k2⟩
  have k3 := (((New.refl w).alloc _).alloc _).trans k2
  have c0 : w2.cell? ⟨w.heap.size, 0, none⟩ = some (.int .u8 7) := New.cell k2 (New.cell ((New.refl (w.alloc (.cells #[.int .u8 7, I a, I b] 24))).alloc _) (by rw [cell_of_block (heap_alloc_new w _) 0]; simp))
  have c1 : w2.cell? ⟨w.heap.size, 1, none⟩ = some (I a) := New.cell k2 (New.cell ((New.refl (w.alloc (.cells #[.int .u8 7, I a, I b] 24))).alloc _) (by rw [cell_of_block (heap_alloc_new w _) 1]; simp))
  have c2 : w2.cell? ⟨w.heap.size, 2, none⟩ = some (I b) := New.cell k2 (New.cell ((New.refl (w.alloc (.cells #[.int .u8 7, I a, I b] 24))).alloc _) (by rw [cell_of_block (heap_alloc_new w _) 2]; simp))
  go_wp2_with fail
  refine (hDb _ k3).mono ?_
  rintro e w3 ⟨rfl, k4⟩
  go_wp2_with fail
  exact bodyPost_ret (v := .tuple #[.string (((⟨#[119, 114, 105, 116, 101]⟩ : ByteArray) ++ ((⟨#[32]⟩ : ByteArray) ++ da)) ++ ((⟨#[32]⟩ : ByteArray) ++ db)), I 0]) (by simp [results, Tryd.results5, go_sem]) rfl ⟨rfl, k3.trans k4⟩
set_option maxRecDepth 100000 in
set_option maxHeartbeats 4000000 in
theorem rshow_x (w : World) (k a b : Int) (h0 : 8 ≤ k) (h1 : k ≤ 255) :
    Calls Tryd.prog 4 #[.agg #[.int .u8 k, I a, I b]] w fun e w' => e = .returned (.tuple #[.string ⟨#[]⟩, I 200]) ∧ New w w' := by
  have hwk : IntKind.i64.wrap k = k := IntWalk.i64_in _ (by omega)
  have d1 : decide (8 ≤ k) = true := decide_eq_true h0
  go_enter Tryd.func4, Tryd.ntmps4
  go_wp2_with fail
  exact bodyPost_ret (v := .tuple #[.string ⟨#[]⟩, I 200]) (by simp [results, Tryd.results4, go_sem]) rfl ⟨rfl, ((New.refl w).alloc _).alloc _⟩
set_option maxRecDepth 100000 in
set_option maxHeartbeats 4000000 in
theorem cshow_x (w : World) (k a b : Int) (h0 : 8 ≤ k) (h1 : k ≤ 255) :
    Calls Tryd.prog 5 #[.agg #[.int .u8 k, I a, I b]] w fun e w' => e = .returned (.tuple #[.string ⟨#[]⟩, I 200]) ∧ New w w' := by
  have hwk : IntKind.i64.wrap k = k := IntWalk.i64_in _ (by omega)
  have d1 : decide (8 ≤ k) = true := decide_eq_true h0
  go_enter Tryd.func5, Tryd.ntmps5
  go_wp2_with fail
  exact bodyPost_ret (v := .tuple #[.string ⟨#[]⟩, I 200]) (by simp [results, Tryd.results5, go_sem]) rfl ⟨rfl, ((New.refl w).alloc _).alloc _⟩
/-- Both Shows tell the same. -/
theorem both_show (k a b : Int) (hk0 : 0 ≤ k) (hk1 : k ≤ 255) (ha0 : -9223372036854775808 ≤ a) (ha1 : a ≤ 9223372036854775807) (hb0 : -9223372036854775808 ≤ b) (hb1 : b ≤ 9223372036854775807) : ∃ (s : ByteArray) (e : Int),
    (∀ w, Calls Tryd.prog 4 #[.agg #[.int .u8 k, I a, I b]] w fun en w' => en = .returned (.tuple #[.string s, I e]) ∧ New w w') ∧
    (∀ w, Lib.TabIs Tryd.prog w "internal/strconv.uint64pow10" .u64 Lib.pow10Tab → Calls Tryd.prog 5 #[.agg #[.int .u8 k, I a, I b]] w fun en w' => en = .returned (.tuple #[.string s, I e]) ∧ New w w') := by
  by_cases h : 8 ≤ k
  · exact ⟨_, _, fun w => rshow_x w k a b h hk1, fun w _ => cshow_x w k a b h hk1⟩
  · have hc : k = 0 ∨ k = 1 ∨ k = 2 ∨ k = 3 ∨ k = 4 ∨ k = 5 ∨ k = 6 ∨ k = 7 := by omega
    rcases hc with rfl | rfl | rfl | rfl | rfl | rfl | rfl | rfl
    · exact ⟨_, _, fun w => rshow_0 w a b ha0 ha1 hb0 hb1, fun w ht => cshow_0 w a b ha0 ha1 hb0 hb1 ht⟩
    · exact ⟨_, _, fun w => rshow_1 w a b ha0 ha1 hb0 hb1, fun w ht => cshow_1 w a b ha0 ha1 hb0 hb1 ht⟩
    · exact ⟨_, _, fun w => rshow_2 w a b ha0 ha1 hb0 hb1, fun w ht => cshow_2 w a b ha0 ha1 hb0 hb1 ht⟩
    · exact ⟨_, _, fun w => rshow_3 w a b ha0 ha1 hb0 hb1, fun w ht => cshow_3 w a b ha0 ha1 hb0 hb1 ht⟩
    · exact ⟨_, _, fun w => rshow_4 w a b ha0 ha1 hb0 hb1, fun w ht => cshow_4 w a b ha0 ha1 hb0 hb1 ht⟩
    · exact ⟨_, _, fun w => rshow_5 w a b ha0 ha1 hb0 hb1, fun w ht => cshow_5 w a b ha0 ha1 hb0 hb1 ht⟩
    · exact ⟨_, _, fun w => rshow_6 w a b ha0 ha1 hb0 hb1, fun w ht => cshow_6 w a b ha0 ha1 hb0 hb1 ht⟩
    · exact ⟨_, _, fun w => rshow_7 w a b ha0 ha1 hb0 hb1, fun w ht => cshow_7 w a b ha0 ha1 hb0 hb1 ht⟩
end Go.Proofs.YtfmpjbiaamkobaaDoor
