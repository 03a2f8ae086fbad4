/-
  'LexJoins': the law returns true at every input; what it is handed reads afterwards as before; the variables of the library that it reads hold what the program's text lays.
-/
import Derived.Test.YtmmoocbnmjmfeaaDoorLexT
import Derived.Test.YtmmoocbnmjmfeaaDoorLexH
namespace Go.Proofs.YtmmoocbnmjmfeaaDoor.lexJoins
open Go Go.RowKit Go.Joins Go.ChangeShapes Go.WideShapes Go.ChangeAt
open Go.ChangeMaps (open_string shut_string)
set_option linter.all false

set_option maxRecDepth 100000 in
set_option maxHeartbeats 4000000 in
theorem walk (w : World) (he : Env w) (a0 : ByteArray) (h0 : a0.size ≤ 140737488351232) (a1 : ByteArray) (h1 : a1.size ≤ 140737488351232) :
    Calls Tryd.prog 8 #[.string a0, .string a1] w fun e w' => e = .returned (.bool true) ∧ New w w' := by
  by_cases hbig : 1048575 < a0.size + a1.size
  · have hbI : (1048575 : Int) < (a0.size : Int) + (a1.size : Int) := by omega
    go_enter Tryd.func8, Tryd.ntmps8
    go_wp2_with fail
    go_ret
    exact ⟨rfl, New.refl _⟩
  have hbI : ¬ (1048575 : Int) < (a0.size : Int) + (a1.size : Int) := by omega
  have hsum : a0.size + a1.size ≤ 1048575 := by omega
  have hs0 : a0.size ≤ 9223372036854775807 := by omega
  have hs1 : a1.size ≤ 9223372036854775807 := by omega
  obtain ⟨X1, hX1⟩ : ∃ X, a0 ++ (⟨#[10]⟩ : ByteArray) = X := ⟨_, rfl⟩
  obtain ⟨X, hX⟩ : ∃ Y, X1 ++ a1 = Y := ⟨_, rfl⟩
  have z1 : X1.size = a0.size + 1 := by rw [← hX1, ByteArray.size_append]; rfl
  have z2 : X.size = a0.size + 1 + a1.size := by rw [← hX, ByteArray.size_append, z1]
  have hXl : X.data.toList = a0.data.toList ++ 10 :: a1.data.toList := by
    rw [← hX, ← hX1, ByteArray.data_append, ByteArray.data_append, Array.toList_append, Array.toList_append, List.append_assoc]; rfl
  have hadd1 : ∀ w : World, (Op.stringOp .add a0 (⟨#[10]⟩ : ByteArray)).run Tryd.prog w = .ok (.string X1) w := fun w => by rw [← hX1]; exact run_string_add_sum w _ _ (by show a0.size + 1 ≤ _; omega)
  have hadd2 : ∀ w : World, (Op.stringOp .add X1 a1).run Tryd.prog w = .ok (.string X) w := fun w => by rw [← hX]; exact run_string_add_sum w _ _ (by omega)
  have hsX : X.size ≤ 9223372036854775807 := by omega
  obtain ⟨⟨la, ca, ka⟩, hA⟩ : ∃ r, lexA a0.data.toList = r := ⟨_, rfl⟩
  obtain ⟨⟨lb, cb, kb⟩, hB⟩ : ∃ r, lexA a1.data.toList = r := ⟨_, rfl⟩
  have hJ := lexA_join (by rw [toList_len, toList_len]; exact hsum) hA hB
  rw [← hXl] at hJ
  have cA := fun W e => callC W a0 e hs0 la ca ka hA la.length rfl
  have cB := fun W e => callC W a1 e hs1 lb cb kb hB lb.length rfl
  have nA := (lexA_count (l := a0.data.toList)).1
  have nB := (lexA_count (l := a1.data.toList)).1
  have tB := lexA_at (l := a1.data.toList)
  have pB := lexA_place (l := a1.data.toList)
  rw [hA] at nA
  rw [hB] at nB tB pB
  simp only at nA nB tB pB
  rw [toList_len] at hJ
  have hsz0 : a0.size ≤ 1048575 := by omega
  clear hX hX1 hXl hA hB z1 z2 hbig hsum
  rcases hJ with ⟨hca, rfl, hC⟩ | ⟨rfl, rfl, hcb, rfl, hC⟩ | ⟨rfl, rfl, rfl, rfl, hC, hne⟩
  · have cC := fun W e => callC W X e hsX [] ca ka hC 0 rfl
    have hca0 : (ca == 0) = false := by simpa using hca
    have cA : ∀ W (e : Env W), Calls Tryd.prog 11 #[.string a0] W fun e w' => ∃ a cc, e = .returned (.tuple #[.slice a 0 cc, .agg #[I ca, I ka]]) ∧ New W w' ∧ SlAt w' a [] ∧ 0 ≤ cc ∧ (cc : Int) ≤ 9223372036854775807 := cA
    have hcc : (ca == ca) = true := by simp
    have hkk : ((ka : Int) == (ka : Int)) = true := by simp
    clear hC hca tB
    go_enter Tryd.func8, Tryd.ntmps8
    go_wp2_with fail
    refine (cA _ he).mono ?_
    rintro e w1 ⟨p1, c1, rfl, n1, s1, u1, v1⟩
    have t1 : New w (w1.alloc (.cells #[I ca, I (ka : Int)] 25)) := n1.alloc _
    go_wp2_with fail
    refine (cB _ (he.new t1)).mono ?_
    rintro e w2 ⟨p2, c2, rfl, n2, s2, u2, v2⟩
    have t2 : New w (w2.alloc (.cells #[I cb, I (kb : Int)] 25)) := (t1.trans n2).alloc _
    have fA0 : w2.cell? ⟨w1.heap.size, 0, none⟩ = some (I ca) := New.cell n2 (by rw [cell_of_block (heap_alloc_new w1 _) 0]; simp)
    have fA1 : w2.cell? ⟨w1.heap.size, 1, none⟩ = some (I (ka : Int)) := New.cell n2 (by rw [cell_of_block (heap_alloc_new w1 _) 1]; simp)
    go_wp2_with fail
    refine (cC _ (he.new t2)).mono ?_
    rintro e w3 ⟨p3, c3, rfl, n3, s3, u3, v3⟩
    have k3 : New w2 w3 := ((New.refl w2).alloc _).trans n3
    have gA0 := New.cell k3 fA0
    have gA1 := New.cell k3 fA1
    have gB0 : w3.cell? ⟨w2.heap.size, 0, none⟩ = some (I cb) := New.cell n3 (by rw [cell_of_block (heap_alloc_new w2 _) 0]; simp)
    have gB1 : w3.cell? ⟨w2.heap.size, 1, none⟩ = some (I (kb : Int)) := New.cell n3 (by rw [cell_of_block (heap_alloc_new w2 _) 1]; simp)
    have bA : w1.heap.size < w3.heap.size := World.block_lt_of_cell? w3 _ gA0
    have bB : w2.heap.size < w3.heap.size := World.block_lt_of_cell? w3 _ gB0
    have m3 : New w3 (w3.alloc (.cells #[I ca, I (ka : Int)] 25)) := (New.refl w3).alloc _
    have t3 : New w (w3.alloc (.cells #[I ca, I (ka : Int)] 25)) := (t2.trans n3).trans m3
    go_wp2_with fail
    refine (awake_any _ (he.new t3)).mono ?_
    rintro e w4 ⟨rfl, n4⟩
    have hA0 : w4.cell? ⟨w1.heap.size, 0, none⟩ = some (I ca) := New.cell (m3.trans n4) gA0
    have hA1 : w4.cell? ⟨w1.heap.size, 1, none⟩ = some (I (ka : Int)) := New.cell (m3.trans n4) gA1
    have hB0 : w4.cell? ⟨w2.heap.size, 0, none⟩ = some (I cb) := New.cell (m3.trans n4) gB0
    have hB1 : w4.cell? ⟨w2.heap.size, 1, none⟩ = some (I (kb : Int)) := New.cell (m3.trans n4) gB1
    have hC0 : w4.cell? ⟨w3.heap.size, 0, none⟩ = some (I ca) := New.cell n4 (by rw [cell_of_block (heap_alloc_new w3 _) 0]; simp)
    have hC1 : w4.cell? ⟨w3.heap.size, 1, none⟩ = some (I (ka : Int)) := New.cell n4 (by rw [cell_of_block (heap_alloc_new w3 _) 1]; simp)
    have HN := Lib.hid (t3.trans n4)
    clear gA0 gA1 gB0 gB1 n1 n2 n3 t1 t2 t3 fA0 fA1 k3 m3
    go_wp2_with fail
    go_ret
    exact ⟨rfl, HN.out⟩
  · have cC := fun W e => callC W X e hsX [] cb (kb + a0.size + 1) hC 0 rfl
    have hcb0 : (cb == 0) = false := by simpa using hcb
    have cB : ∀ W (e : Env W), Calls Tryd.prog 11 #[.string a1] W fun e w' => ∃ a cc, e = .returned (.tuple #[.slice a 0 cc, .agg #[I cb, I kb]]) ∧ New W w' ∧ SlAt w' a [] ∧ 0 ≤ cc ∧ (cc : Int) ≤ 9223372036854775807 := cB
    have hcc : (cb == cb) = true := by simp
    have hkb : kb ≤ 1048576 := pB
    obtain ⟨kc, hkc⟩ : ∃ kc : Nat, kb + a0.size + 1 = kc := ⟨_, rfl⟩
    rw [hkc] at cC
    have hw1 : IntKind.i64.wrap ((kb : Int) + (a0.size : Int)) = (kb : Int) + (a0.size : Int) := by rw [IntWalk.i64_in _ (by omega)]
    have hw2 : IntKind.i64.wrap ((kb : Int) + (a0.size : Int) + 1) = (kc : Int) := by rw [IntWalk.i64_in _ (by omega)]; omega
    have hkk : ((kc : Int) == (kc : Int)) = true := by simp
    clear hC hcb tB hkc
    go_enter Tryd.func8, Tryd.ntmps8
    go_wp2_with fail
    refine (cA _ he).mono ?_
    rintro e w1 ⟨p1, c1, rfl, n1, s1, u1, v1⟩
    have t1 : New w (w1.alloc (.cells #[I 0, I 0] 25)) := n1.alloc _
    go_wp2_with fail
    refine (cB _ (he.new t1)).mono ?_
    rintro e w2 ⟨p2, c2, rfl, n2, s2, u2, v2⟩
    have t2 : New w (w2.alloc (.cells #[I cb, I (kb : Int)] 25)) := (t1.trans n2).alloc _
    have fA0 : w2.cell? ⟨w1.heap.size, 0, none⟩ = some (I 0) := New.cell n2 (by rw [cell_of_block (heap_alloc_new w1 _) 0]; simp)
    have fA1 : w2.cell? ⟨w1.heap.size, 1, none⟩ = some (I 0) := New.cell n2 (by rw [cell_of_block (heap_alloc_new w1 _) 1]; simp)
    go_wp2_with fail
    refine (cC _ (he.new t2)).mono ?_
    rintro e w3 ⟨p3, c3, rfl, n3, s3, u3, v3⟩
    have k3 : New w2 w3 := ((New.refl w2).alloc _).trans n3
    have gA0 := New.cell k3 fA0
    have gA1 := New.cell k3 fA1
    have gB0 : w3.cell? ⟨w2.heap.size, 0, none⟩ = some (I cb) := New.cell n3 (by rw [cell_of_block (heap_alloc_new w2 _) 0]; simp)
    have gB1 : w3.cell? ⟨w2.heap.size, 1, none⟩ = some (I (kb : Int)) := New.cell n3 (by rw [cell_of_block (heap_alloc_new w2 _) 1]; simp)
    have bA : w1.heap.size < w3.heap.size := World.block_lt_of_cell? w3 _ gA0
    have bB : w2.heap.size < w3.heap.size := World.block_lt_of_cell? w3 _ gB0
    have m3 : New w3 (w3.alloc (.cells #[I cb, I (kc : Int)] 25)) := (New.refl w3).alloc _
    have t3 : New w (w3.alloc (.cells #[I cb, I (kc : Int)] 25)) := (t2.trans n3).trans m3
    go_wp2_with fail
    refine (awake_any _ (he.new t3)).mono ?_
    rintro e w4 ⟨rfl, n4⟩
    have hA0 : w4.cell? ⟨w1.heap.size, 0, none⟩ = some (I 0) := New.cell (m3.trans n4) gA0
    have hA1 : w4.cell? ⟨w1.heap.size, 1, none⟩ = some (I 0) := New.cell (m3.trans n4) gA1
    have hB0 : w4.cell? ⟨w2.heap.size, 0, none⟩ = some (I cb) := New.cell (m3.trans n4) gB0
    have hB1 : w4.cell? ⟨w2.heap.size, 1, none⟩ = some (I (kb : Int)) := New.cell (m3.trans n4) gB1
    have hC0 : w4.cell? ⟨w3.heap.size, 0, none⟩ = some (I cb) := New.cell n4 (by rw [cell_of_block (heap_alloc_new w3 _) 0]; simp)
    have hC1 : w4.cell? ⟨w3.heap.size, 1, none⟩ = some (I (kc : Int)) := New.cell n4 (by rw [cell_of_block (heap_alloc_new w3 _) 1]; simp)
    have HN := Lib.hid (t3.trans n4)
    clear gA0 gA1 gB0 gB1 n1 n2 n3 t1 t2 t3 fA0 fA1 k3 m3
    go_wp2_with fail
    go_ret
    exact ⟨rfl, HN.out⟩
  · obtain ⟨m, hm⟩ : ∃ m, la.length = m + 1 := ⟨la.length - 1, by have := List.length_pos_iff.2 hne; omega⟩
    have hdl : la.dropLast.length = m := by rw [List.length_dropLast, hm]; rfl
    obtain ⟨nb, hnb⟩ : ∃ nb, lb.length = nb := ⟨_, rfl⟩
    have hml : (movedL lb (a0.size + 1)).length = nb := by unfold movedL; rw [List.length_map, hnb]
    have cC := fun W e => callC W X e hsX _ 0 0 hC (m + nb) (by rw [List.length_append, hdl, hml])
    rw [hm] at cA nA
    rw [hnb] at cB nB
    have hdt : la.dropLast = la.take m := by rw [List.dropLast_eq_take, hm]; rfl
    have hmv := fun W a c h => moved_any W a c lb h nb hnb (by omega) (a0.size + 1) (by omega) (fun t ht => by have := (tB t ht).1; omega)
    obtain ⟨i0, hi, hz0, hz1, hz2⟩ := info_parts infoTok
    have HDL := Lib.hid hdl
    have HML := Lib.hid hml
    have HDT := Lib.hid hdt
    obtain ⟨ln, hln⟩ : ∃ ln : Nat, a0.size + 1 = ln := ⟨_, rfl⟩
    have hw1 : IntKind.i64.wrap ((a0.size : Int) + 1) = (ln : Int) := by rw [IntWalk.i64_in _ (by omega)]; omega
    rw [hln] at hmv HML cC
    have hmI : (m : Int) + 1 ≠ 0 := by omega
    clear hC tB hne hm hnb hdl hml hdt hln
    go_enter Tryd.func8, Tryd.ntmps8
    go_wp2_with fail
    refine (cA _ he).mono ?_
    rintro e w1 ⟨p1, c1, rfl, n1, s1, u1, v1⟩
    have t1 : New w (w1.alloc (.cells #[I 0, I 0] 25)) := n1.alloc _
    go_wp2_with fail
    refine (cB _ (he.new t1)).mono ?_
    rintro e w2 ⟨p2, c2, rfl, n2, s2, u2, v2⟩
    have t2 : New w (w2.alloc (.cells #[I 0, I 0] 25)) := (t1.trans n2).alloc _
    have fA0 : w2.cell? ⟨w1.heap.size, 0, none⟩ = some (I 0) := New.cell n2 (by rw [cell_of_block (heap_alloc_new w1 _) 0]; simp)
    have fA1 : w2.cell? ⟨w1.heap.size, 1, none⟩ = some (I 0) := New.cell n2 (by rw [cell_of_block (heap_alloc_new w1 _) 1]; simp)
    go_wp2_with fail
    refine (cC _ (he.new t2)).mono ?_
    rintro e w3 ⟨p3, c3, rfl, n3, s3, u3, v3⟩
    have k3 : New w2 w3 := ((New.refl w2).alloc _).trans n3
    have gA0 := New.cell k3 fA0
    have gA1 := New.cell k3 fA1
    have gB0 : w3.cell? ⟨w2.heap.size, 0, none⟩ = some (I 0) := New.cell n3 (by rw [cell_of_block (heap_alloc_new w2 _) 0]; simp)
    have gB1 : w3.cell? ⟨w2.heap.size, 1, none⟩ = some (I 0) := New.cell n3 (by rw [cell_of_block (heap_alloc_new w2 _) 1]; simp)
    have bA : w1.heap.size < w3.heap.size := World.block_lt_of_cell? w3 _ gA0
    have bB : w2.heap.size < w3.heap.size := World.block_lt_of_cell? w3 _ gB0
    have m3 : New w3 (w3.alloc (.cells #[I 0, I 0] 25)) := (New.refl w3).alloc _
    have t3 : New w (w3.alloc (.cells #[I 0, I 0] 25)) := (t2.trans n3).trans m3
    have hs1 : SlAt (w3.alloc (.cells #[I 0, I 0] 25)) p1 (la.dropLast.flatMap tokCells) := by
      rw [HDT.out]
      have h := ((s1.new (((New.refl w1).alloc _).trans n2)).new k3).new m3
      rw [flat_take]
      exact h.take _
    have hs2 := (s2.new k3).new m3
    have hs3 := s3.new m3
    have hnil : (w3.alloc (.cells #[I 0, I 0] 25)).ownsRow (w3.alloc (.cells #[I 0, I 0] 25)).heap.size 33 4 (.slice none 0 0) 0 [] := World.ownsRow_nil _ _ _ _
    have HS1 := Lib.hid hs1
    have HS2 := Lib.hid hs2
    have HS3 := Lib.hid hs3
    clear s1 s2 s3 hs1 hs2 hs3
    go_wp2_with (at_builtin; refine wpList_app rfl _ _ 22 rfl _ 33 i0 _ 4 40 Tryd.underlying22 hi hz0 hz1 hz2 rfl (by decide) none 0 0 [] rfl hnil p1 m c1 (la.dropLast.flatMap tokCells) rfl ?c0 HS1.out ?c1 ?c2 ?c3 ?c4 ?_)
    case c0 => rw [flat_len tokCells 4 tokCells_len, HDL.out]
    case c1 =>
      intro u hu
      obtain ⟨t, _, ht⟩ := List.mem_flatMap.1 hu
      exact tokCells_one t u ht
    case c2 => unfold maxLen; omega
    case c3 => omega
    case c4 => exact Nat.le_refl _
    intro a' c' w4 hown4 hk4 _ _
    have n4 : New (w3.alloc (.cells #[I 0, I 0] 25)) w4 := Keeps.mono hk4 (fun k _ hb => by obtain ⟨x, hx, _⟩ := hb; cases hx)
    (try simp only [Nat.zero_add, List.nil_append] at hown4)
    have HO4 := Lib.hid hown4
    clear hown4 hk4
    go_wp2_with fail
    refine (hmv _ _ _ (HS2.out.new n4)).mono ?_
    rintro e w5 ⟨a5, c5, rfl, n5, s5⟩
    have HO5 := Lib.hid (n5.owns HO4.out)
    have HS5 := Lib.hid s5
    have hsz3 : (w3.alloc (.cells #[I 0, I 0] 25)).heap.size = w3.heap.size + 1 := by simp
    have hz45 : (w3.alloc (.cells #[I 0, I 0] 25)).heap.size ≤ w5.heap.size := (n4.trans n5).size
    clear s5
    go_wp2_with (at_builtin; refine wpList_app rfl _ _ 22 rfl _ 33 i0 _ 4 40 Tryd.underlying22 hi hz0 hz1 hz2 rfl (by decide) a' m c' (la.dropLast.flatMap tokCells) rfl HO5.out a5 nb c5 ((movedL lb ln).flatMap tokCells) rfl ?d0 HS5.out ?d1 ?d2 ?d3 ?d4 ?_)
    case d0 => rw [flat_len tokCells 4 tokCells_len, HML.out]
    case d1 =>
      intro u hu
      obtain ⟨t, _, ht⟩ := List.mem_flatMap.1 hu
      exact tokCells_one t u ht
    case d2 => unfold maxLen; omega
    case d3 => omega
    case d4 => first | exact hz45 | (rw [hsz3] at hz45; exact hz45)
    intro a6 c6 w6 hown6 hk6 _ _
    have n6 : New w3 w6 := m3.trans (New.keeps (n4.trans n5) hk6 (fun i hi hx => by
      have := (own_of_blk HO5.out hx).1; omega))
    have n6' : New (w3.alloc (.cells #[I 0, I 0] 25)) w6 := New.keeps (n4.trans n5) hk6 (fun i hi hx => by
      have := (own_of_blk HO5.out hx).1; omega)
    have gC0 : w6.cell? ⟨w3.heap.size, 0, none⟩ = some (I 0) := New.cell n6' (by rw [cell_of_block (heap_alloc_new w3 _) 0]; simp)
    have gC1 : w6.cell? ⟨w3.heap.size, 1, none⟩ = some (I 0) := New.cell n6' (by rw [cell_of_block (heap_alloc_new w3 _) 1]; simp)
    have t6 := t3.trans n6'
    have S6 : SlAt w6 a6 ((la.dropLast ++ movedL lb ln).flatMap tokCells) := by
      have := SlAt.of_owns hown6
      rw [List.flatMap_append]
      simpa using this
    have HS6 := Lib.hid S6
    have HS6' := Lib.hid (HS3.out.new n6')
    clear hown6 hk6 S6 HS1 HS2 HS3 HS5 HO4 HO5 n4 n5 hmv
    go_wp2_with fail
    refine (awake_any _ (he.new t6)).mono ?_
    rintro e w4 ⟨rfl, n4⟩
    have hA0 : w4.cell? ⟨w1.heap.size, 0, none⟩ = some (I 0) := New.cell (n6.trans n4) gA0
    have hA1 : w4.cell? ⟨w1.heap.size, 1, none⟩ = some (I 0) := New.cell (n6.trans n4) gA1
    have hB0 : w4.cell? ⟨w2.heap.size, 0, none⟩ = some (I 0) := New.cell (n6.trans n4) gB0
    have hB1 : w4.cell? ⟨w2.heap.size, 1, none⟩ = some (I 0) := New.cell (n6.trans n4) gB1
    have hC0 : w4.cell? ⟨w3.heap.size, 0, none⟩ = some (I 0) := New.cell n4 gC0
    have hC1 : w4.cell? ⟨w3.heap.size, 1, none⟩ = some (I 0) := New.cell n4 gC1
    have HN := Lib.hid (t6.trans n4)
    clear gA0 gA1 gB0 gB1 n1 n2 n3 t1 t2 t3 fA0 fA1 k3 m3
    have hsm := fun W (n : New w4 W) => same_yes W p3 a6 c3 c6 _ ((HS6'.out.new n4).new n) ((HS6.out.new n4).new n) (m + nb) (by rw [List.length_append, HDL.out, HML.out]) (by omega)
    go_wp2_with fail
    refine (hsm _ (New.refl _)).mono ?_
    rintro e w7 ⟨rfl, n7⟩
    go_wp2_with fail
    go_ret
    exact ⟨rfl, HN.out.trans n7⟩

set_option maxRecDepth 100000 in
theorem contract (H : Type) (enc : TypeId × Value → H) (W : World) (base : Nat) (args : Array Value) (ds gs : List (DataW H)) (before : List MemPlace)
    (hval0 : ∀ (j : Nat) t v, Tryd.f8.params[j]? = some t → args[j]? = some v → Value.okWide Tryd.prog W .any base t v)
    (hW : DataW.Whole enc Tryd.prog Tryd.f8.params.toList Rows.lexJoinsSpec.vars false W args.toList ds gs before)
    (hsz0 : (DataW.weightsEach Tryd.prog (Tryd.f8.params.toList ++ Rows.lexJoinsSpec.plain.varTypes Tryd.prog) (ds ++ gs)).all (· ≤ reachBytes) = true) (hL : laidMetH Tryd.prog Rows.lexJoinsRow.laid W) :
    Calls Tryd.prog 8 args W fun e W' => ∃ v, e = .returned v ∧ Rows.lexJoinsSpec.post enc Tryd.prog Tryd.f8 false true false false W args v W' := by
  have hval := hval0
  have hsz := hsz0
  clear hsz0
  have hW' := hW
  have he : Env W := env_of (by exact hL)
  obtain ⟨p, q, hA0, hV, rfl, hfz, hnd⟩ := hW
  have hA : DataW.TrodAll enc Tryd.prog W 0 (fun _ => true) true Tryd.f8.params.toList args.toList ds p := hA0
  rw [Tryd.params8] at hA hval hsz
  obtain ⟨v0, vs0, d0, ds0, p0, q0, hargs, rfl, rfl, h0, r0'⟩ := trodAll_cons hA
  obtain ⟨v1, vs1, d1, ds1, p1, q1, rfl, rfl, rfl, h1, r1'⟩ := trodAll_cons r0'
  obtain ⟨rfl, rfl, rfl⟩ := trodAll_nil r1'
  obtain rfl : args = #[v0, v1] := by cases args; simp_all
  obtain ⟨rfl, rfl⟩ := trodVars_none hV
  have k0 := h0
  have lt0 : ∀ x ∈ p0, x.block < W.heap.size := by obtain ⟨m, hm⟩ := k0; exact DataW.trod_lt m _ _ _ hm
  have k1 := h1
  have lt1 : ∀ x ∈ p1, x.block < W.heap.size := by obtain ⟨m, hm⟩ := k1; exact DataW.trod_lt m _ _ _ hm
  obtain ⟨a0, rfl, e0, _, w0⟩ := open_string Tryd.underlying9 (hval 0 9 v0 rfl rfl) h0
  have s0 : a0.size ≤ 140737488351232 := by
    have hh := sized_string hsz (j := 0) (t := 9) (bytes := a0.data.toList) rfl (by rw [e0]; rfl)
    have hr : reachBytes = 140737488351232 := rfl
    rw [hr, Array.length_toList] at hh
    exact hh
  obtain ⟨a1, rfl, e1, _, w1⟩ := open_string Tryd.underlying9 (hval 1 9 v1 rfl rfl) h1
  have s1 : a1.size ≤ 140737488351232 := by
    have hh := sized_string hsz (j := 1) (t := 9) (bytes := a1.data.toList) rfl (by rw [e1]; rfl)
    have hr : reachBytes = 140737488351232 := rfl
    rw [hr, Array.length_toList] at hh
    exact hh
  clear hA0 hval0
  refine (walk W he a0 s0 a1 s1).mono fun e W' ⟨he, hnew⟩ => ?_
  have bel := hnew.below
  subst he
  exact ⟨_, rfl, _, _, _, [], _, [], hW', trodAll_mk1 (shut_bool Tryd.underlying4 _), (trodAll_cons_mk (Below.trod laidOut (by kernel_rfl) (of_decide_eq_true (by kernel_rfl)) k0 bel lt0) (trodAll_cons_mk (Below.trod laidOut (by kernel_rfl) (of_decide_eq_true (by kernel_rfl)) k1 bel lt1) trodAll_mk0)), rfl, bel.frame _, fun h => by cases h⟩

theorem reads (os : Os) {H : Type} (enc : TypeId × Value → H) : ∃ places, DataW.whole enc Tryd.prog ((laidWorld os).forCall (fun _ _ => 0) ⟨#[], #[.string ByteArray.empty, .string ByteArray.empty], []⟩).memory Tryd.f8.params.toList Rows.lexJoinsSpec.vars false #[.string ByteArray.empty, .string ByteArray.empty].toList 8 = some ([.lit (.string []), .lit (.string [])], [], places) :=
  ⟨[], by kernel_rfl⟩

set_option maxRecDepth 100000 in
theorem lifted (os : Os) (started : os.Started) (H : Type) (enc : TypeId × Value → H) (F : Stop.Interp) :
    ReturnsInHanded {} Tryd.checked os 8 .any ((OpenSpec.ofChange Rows.lexJoinsSpec).preRow enc Tryd.prog Tryd.f8 Rows.lexJoinsRow.domain false Rows.lexJoinsRow.laid) (((OpenSpec.ofChange Rows.lexJoinsSpec).at F).post enc Tryd.prog Tryd.f8 false true false false) := by
  obtain ⟨places, hx⟩ := reads os enc
  refine returnsInHanded_of_row (C := Tryd.checked) (s := OpenSpec.ofChange Rows.lexJoinsSpec) own started (by kernel_rfl) Tryd.func8
    (witness_row_at (enc := enc) (C := Tryd.checked) false (laidWorld os) #[.string ByteArray.empty, .string ByteArray.empty] rfl (by kernel_rfl) (by kernel_rfl) (by kernel_rfl)
      (OpenSpec.preRow_of_cond 8 hx (by kernel_rfl) (fun k hk => by cases hk) (by kernel_rfl) (laid_met os _))) ?_
  intro W base args ds gs before hval hW _ _ hsz hL _ _
  exact contract H enc W base args ds gs before hval hW hsz hL

theorem said : Rows.LexJoinsSaid :=
  OpenClaim.holds_of_cond 8 Tryd.f8 rfl rfl rfl rfl rfl rfl rfl ⟨rfl, rfl, rfl, rfl, rfl⟩ rfl rfl rfl rfl rfl (by kernel_rfl) Tryd.func8 (by kernel_rfl)
    (of_decide_eq_true (by kernel_rfl)) (by unfold Func.isWrapper; first | (rw [if_pos (by decide +kernel)]; kernel_rfl) | (rw [if_neg (by decide +kernel)]; exact ⟨rfl, rfl⟩))
    (fun os started H enc _ F => by rw [OpenClaim.pre_eq_preRow]; exact lifted os started H enc F)

theorem plain (f : FuncId) (fn : Func) (hf : Tryd.pinned.checked.prog.funcNamed "pianola/pianolalaw04.LexJoins" = some f) (hfn : Tryd.pinned.checked.prog.funcs[f]? = some fn) :
    true = Tryd.pinned.checked.prog.looks [] ∧ ∀ (j : Nat) t, fn.params[j]? = some t → Tryd.pinned.checked.prog.wantsStandIn t = false := by
  obtain rfl : f = 8 := Option.some.inj ((show Tryd.prog.funcNamed "pianola/pianolalaw04.LexJoins" = some 8 by kernel_rfl).symm.trans hf) |>.symm
  obtain rfl : fn = Tryd.f8 := (Option.some.inj (Tryd.func8.symm.trans hfn)).symm
  refine ⟨by kernel_rfl, fun j t ht => ?_⟩
  rw [Tryd.params8] at ht
  have hm := Array.mem_of_getElem? ht
  have : t = 9 := by
    simpa [or_assoc] using hm
  rcases this with rfl
  · exact (show Tryd.prog.wantsStandIn 9 = false by kernel_rfl)

/-- THE CARD. -/
theorem proved : Rows.LexJoinsCardSaid :=
  Claim7.holds_tied_plain_at .later [] _ _ _ _ said (fun _ h => by cases h) (by kernel_rfl) (fun _ h => by cases h) lexJoins_row_tie rfl ⟨rfl, rfl⟩ (by kernel_rfl) rfl plain (by kernel_rfl)
end Go.Proofs.YtmmoocbnmjmfeaaDoor.lexJoins
