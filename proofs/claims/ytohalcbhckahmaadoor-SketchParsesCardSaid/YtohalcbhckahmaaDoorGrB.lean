/-
  Layer 8: the program's Name.
-/
import Derived.Test.YtohalcbhckahmaaDoorGrA
import Derived.Test.YtohalcbhckahmaaDoorRegionX
import Derived.Deep.RegionHeld3
import Derived.Deep.RegionWith
namespace Go.Proofs.YtohalcbhckahmaaDoor
open Go Go.RowKit Go.Joins
set_option linter.all false

abbrev CurC (s : ByteArray) (at_ : Int) : Array Value := #[.string s, I at_]
theorem cur_cells {w : World} {B : Nat} {s : ByteArray} {at_ : Int} (h : w.heap[B]? = some (.cells (CurC s at_) 86 (0, 0))) :
    w.cell? ⟨B, 0, none⟩ = some (.string s) ∧ w.cell? ⟨B, 1, none⟩ = some (I at_) ∧ w.frozen? ⟨B, 0, none⟩ = false ∧ w.frozen? ⟨B, 1, none⟩ = false ∧ B < w.heap.size := by
  refine ⟨?_, ?_, unfrozen_of_block h 0, unfrozen_of_block h 1, (Array.getElem?_eq_some_iff.1 h).1⟩
  · rw [cell_of_block h 0]; simp
  · rw [cell_of_block h 1]; simp

theorem cmore_any (w : World) (B : Nat) (s : ByteArray) (k : Nat) (h : w.heap[B]? = some (.cells (CurC s k) 86 (0, 0))) (hs : s.size ≤ 9223372036854775807) :
    Calls Tryd.prog 51 #[.pointer (some ⟨B, 0, none⟩)] w fun e w' => e = .returned (.bool (decide (k < s.size))) ∧ New w w' := by
  obtain ⟨c0, c1, _, _, hB⟩ := cur_cells h
  clear h
  go_enter Tryd.func51, Tryd.ntmps51
  go_wp2_with fail
  go_quiet (fail)
  go_wp2_with fail
  go_ret
  exact ⟨rfl, by first | exact (New.refl w).drewN _ | exact New.refl w⟩

theorem cpeek_any (w : World) (B : Nat) (s : ByteArray) (h : w.heap[B]? = some (.cells (CurC s 0) 86 (0, 0))) (hs : s.size ≤ 9223372036854775807) :
    Calls Tryd.prog 64 #[.pointer (some ⟨B, 0, none⟩), I 0] w fun e w' => e = .returned (.int .u8 ((bytesN s).getD 0 0)) ∧ New w w' := by
  obtain ⟨c0, c1, _, _, hB⟩ := cur_cells h
  clear h
  by_cases h0 : 0 < s.size
  · have hb : (bytesN s).getD 0 0 = (s[0].toNat : Int) := by rw [List.getD_eq_getElem?_getD, bytesN_at s 0 h0]; rfl
    rw [hb]
    have hI : (0 : Int) < (s.size : Int) := by omega
    have hd : decide (s = ByteArray.empty) = false := decide_eq_false (by rintro rfl; simp at h0)
    clear hb
    go_enter Tryd.func64, Tryd.ntmps64
    go_wp2_with fail
    go_quiet (fail)
    go_wp2_with fail
    go_quiet (fail)
    go_wp2_with fail
    go_ret
    exact ⟨rfl, by first | exact ((New.refl w).drewN _).drewN _ | exact (New.refl w).drewN _⟩
  · have hb : (bytesN s).getD 0 0 = 0 := by
      have : bytesN s = [] := List.eq_nil_of_length_eq_zero (by rw [bytesN_len]; omega)
      rw [this]; rfl
    rw [hb]
    have hd : decide (s = ByteArray.empty) = true := decide_eq_true (ByteArray.size_eq_zero_iff.1 (by omega))
    clear hb
    go_enter Tryd.func64, Tryd.ntmps64
    go_wp2_with fail
    go_quiet (fail)
    go_wp2_with fail
    go_ret
    exact ⟨rfl, by first | exact (New.refl w).drewN _ | exact New.refl w⟩

/-- How many bytes ahead of the first that is none of a name's. -/
def spanL : List Int → Nat
  | [] => 0
  | b :: r => if insideB b then spanL r + 1 else 0
theorem spanL_le : ∀ l : List Int, spanL l ≤ l.length := by
  intro l
  induction l with
  | nil => exact Nat.le_refl _
  | cons b r ih => unfold spanL; split <;> simp <;> omega
theorem spanL_all : ∀ l : List Int, spanL l = l.length ↔ l.all insideB = true := by
  intro l
  induction l with
  | nil => simp [spanL]
  | cons b r ih =>
    unfold spanL
    cases e : insideB b with
    | true => simp [e]; simpa using ih
    | false => simp [e]
theorem spanL_cut : ∀ (l : List Int) (k : Nat), (l.take k).all insideB = true → (∀ b, l[k]? = some b → insideB b = false) → k ≤ l.length → spanL l = k := by
  intro l
  induction l with
  | nil => intro k _ _ hk; simp at hk; subst hk; rfl
  | cons b r ih =>
    intro k ha hb hk
    unfold spanL
    cases k with
    | zero => rw [hb b rfl]; rfl
    | succ k =>
      simp only [List.take_succ_cons, List.all_cons, Bool.and_eq_true] at ha
      rw [ha.1]
      simp only [if_true]
      rw [ih k ha.2 (fun c hc => hb c (by simpa using hc)) (by simpa using hk)]
def atOf (w : World) (B : Nat) : Nat := match w.cell? ⟨B, 1, none⟩ with
  | some (.int _ n) => n.toNat
  | _ => 0

set_option maxRecDepth 100000 in
set_option maxHeartbeats 8000000 in
theorem cwhile_any (w : World) (B : Nat) (s : ByteArray) (h : w.heap[B]? = some (.cells (CurC s 0) 86 (0, 0))) (hs : s.size ≤ 9223372036854775807) :
    Calls Tryd.prog 65 #[.pointer (some ⟨B, 0, none⟩), .func (Fn.func 66) #[] #[]] w fun e w' => e = .returned (.string (s.extract 0 (spanL (bytesN s)))) ∧ Keeps (fun k => k = B) w w' := by
  have hB : B < w.heap.size := (Array.getElem?_eq_some_iff.1 h).1
  obtain ⟨c0, c1, z0, z1, _⟩ := cur_cells h
  go_enter Tryd.func65, Tryd.ntmps65
  go_wp2_with fail
  clear c0 c1 z0 z1
  go_loopw [] (fun wr => ∃ k : Nat, k ≤ s.size ∧ Hid (((bytesN s).take k).all insideB = true) ∧ wr.heap[B]? = some (.cells (CurC s k) 86 (0, 0)) ∧ Keeps (fun k => k = B) w wr) (fun wr => s.size - atOf wr B)
  case atStart => exact ⟨0, by omega, Lib.hid (by simp), h, Keeps.refl _ _⟩
  case round =>
    clear h
    obtain ⟨k, hk, HA, hb, hkr⟩ := hrel
    obtain ⟨c0, c1, z0, z1, hBr⟩ := cur_cells hb
    have HY : Hid (atOf wr B = k) := Lib.hid (by unfold atOf; rw [c1]; simp)
    have hm := fun W (n : New wr W) => cmore_any W B s k (Keeps.heap n hb (fun h => h)) hs
    by_cases hk1 : k < s.size
    · rw [decide_eq_true hk1] at hm
      have hi := fun W => cins_any W (s[k].toNat : Int)
      have h255 : s[k].toNat < 256 := s[k].toNat_lt
      have hat := bytesN_at s k hk1
      have hkI : (k : Int) < (s.size : Int) := by omega
      cases e2 : insideB (s[k].toNat : Int) with
      | true =>
        rw [e2] at hi
        have HA2 : Hid (((bytesN s).take (k + 1)).all insideB = true) := Lib.hid (by
          rw [show (bytesN s).take (k + 1) = (bytesN s).take k ++ [(s[k].toNat : Int)] by rw [List.take_succ, hat]; rfl, List.all_append, HA.out]
          simp [e2])
        clear e2 hat
        go_wp2_with fail
        go_region_held3 (fun w' => w'.cell? ⟨B, 0, none⟩ = some (.string s) ∧ w'.cell? ⟨B, 1, none⟩ = some (I (k : Int)) ∧ New wr w')
          ((refine ⟨New.cell (w := wr) ?_ c0, New.cell (w := wr) ?_ c1, ?_⟩ <;> (repeat (first | exact New.refl wr | refine New.drew ?_ | exact hN2 | refine New.trans ?_ hN2))))
          ((first | (go_at_call 51; refine (hm _ ((New.refl wr).drew)).mono ?_; rintro e w2 ⟨rfl, hN2⟩) | (go_at_call 66; refine (hi _).mono ?_; rintro e w3 ⟨rfl, rfl⟩)))
        rename_i hSX
        obtain ⟨e0, e1, hNX⟩ := hSX
        have hb3 := Keeps.heap hNX hb (fun h => h)
        obtain ⟨_, _, y0, y1, hB3⟩ := cur_cells hb3
        have hb4 := block_setCell (i := 1) hb3 (I ((k : Int) + 1))
        have hk4 : Keeps (fun k => k = B) w (w3.setCell ⟨B, 1, none⟩ (I ((k : Int) + 1))) := (hkr.trans (Keeps.mono hNX (fun _ _ h => h.elim)) (fun _ _ h => h)).trans (Keeps.setCell (S := fun k => k = B) _ ⟨B, 1, none⟩ _ rfl) (fun _ _ h => h)
        have HB4 := Lib.hid hb4
        have HK4 := Lib.hid hk4
        clear hb4 hk4 hb hb3 hkr c0 c1 z0 z1
        simp only [Exit.then]
        go_wp2_with fail
        go_roundw
        case rel => exact ⟨k + 1, by omega, HA2, by rw [HB4.out]; simp, HK4.out⟩
        case measure =>
          have hx : atOf (w3.setCell ⟨B, 1, none⟩ (I ((k : Int) + 1))) B = k + 1 := by
            unfold atOf
            rw [cell_of_block HB4.out 1]
            simp
          rw [hx, HY.out]; omega
      | false =>
        rw [e2] at hi
        have HSP : Hid (spanL (bytesN s) = k) := Lib.hid (spanL_cut _ k HA.out (fun b hb => by rw [hat] at hb; cases hb; exact e2) (by rw [bytesN_len]; omega))
        clear e2 hat
        go_wp2_with fail
        go_region_held3 (fun w' => w'.cell? ⟨B, 0, none⟩ = some (.string s) ∧ w'.cell? ⟨B, 1, none⟩ = some (I (k : Int)) ∧ New wr w')
          ((refine ⟨New.cell (w := wr) ?_ c0, New.cell (w := wr) ?_ c1, ?_⟩ <;> (repeat (first | exact New.refl wr | refine New.drew ?_ | exact hN2 | refine New.trans ?_ hN2))))
          ((first | (go_at_call 51; refine (hm _ ((New.refl wr).drew)).mono ?_; rintro e w2 ⟨rfl, hN2⟩) | (go_at_call 66; refine (hi _).mono ?_; rintro e w3 ⟨rfl, rfl⟩)))
        rename_i hSX
        obtain ⟨e0, e1, hNX⟩ := hSX
        have hKX := Lib.hid (hkr.trans (Keeps.mono hNX (fun _ _ h => h.elim)) (fun _ _ h => h))
        clear c0 c1 hkr hb
        simp only [Exit.then]
        go_wp2_with fail
        go_quiet (fail)
        go_wp2_with fail
        go_ret
        exact ⟨by rw [HSP.out]; rfl, by first | exact hKX.out.trans (Keeps.drewN _ _) (fun _ _ h => h) | exact hKX.out⟩
    · rw [decide_eq_false hk1] at hm
      have HSP : Hid (spanL (bytesN s) = k) := Lib.hid (spanL_cut _ k HA.out (fun b hb => by rw [List.getElem?_eq_none (by rw [bytesN_len]; omega)] at hb; cases hb) (by rw [bytesN_len]; omega))
      go_wp2_with fail
      have hS0 : (fun w' : World => w'.cell? ⟨B, 0, none⟩ = some (.string s) ∧ w'.cell? ⟨B, 1, none⟩ = some (I (k : Int))) wr.drew := ⟨New.cell ((New.refl wr).drew) c0, New.cell ((New.refl wr).drew) c1⟩
      refine wp_region_X (fun w' : World => w'.cell? ⟨B, 0, none⟩ = some (.string s) ∧ w'.cell? ⟨B, 1, none⟩ = some (I (k : Int))) [] (by kernel_rfl) hS0 ?_
      refine anyX_take 0 (by kernel_rfl) (by kernel_rfl) (by kernel_rfl) (by kernel_rfl) (by kernel_rfl) hS0 ?_
      intro oi ho; cases ho
      refine ⟨?_, fun _ _ _ h => h, Or.inl ⟨by kernel_rfl, ?_⟩, ?_⟩; rotate_left 1
      · (intro wS hSw; go_simp; try with_reducible rfl)
      simp only [Act.put, List.getElem_toArray, List.getElem_cons_succ, List.getElem_cons_zero, List.setIfInBounds_toArray, List.set_cons_zero, List.set_cons_succ]
      refine anyX_one 1 (by kernel_rfl) ?_
      intro oi ho; cases ho; intro K hK
      (try simp only [Act.put, List.getElem_toArray, List.getElem_cons_succ, List.getElem_cons_zero, List.setIfInBounds_toArray, List.set_cons_zero, List.set_cons_succ])
      go_simp
      refine (hm _ ((New.refl wr).drew)).mono ?_
      rintro e w2 ⟨rfl, k2⟩
      have hS1 : (fun w' : World => w'.cell? ⟨B, 0, none⟩ = some (.string s) ∧ w'.cell? ⟨B, 1, none⟩ = some (I (k : Int))) w2 := ⟨New.cell k2 hS0.1, New.cell k2 hS0.2⟩
      refine hK _ _ (fun _ => hS1) ?_
      clear hK K
      refine anyX_take 2 (by kernel_rfl) (by kernel_rfl) (by kernel_rfl) (by kernel_rfl) (by kernel_rfl) hS1 ?_
      intro oi ho; cases ho
      refine ⟨?_, fun _ _ _ h => h, Or.inl ⟨by kernel_rfl, ?_⟩, ?_⟩; rotate_left 1
      · (intro wS hSw; go_simp; try with_reducible rfl)
      simp only [Act.put, List.getElem_toArray, List.getElem_cons_succ, List.getElem_cons_zero, List.setIfInBounds_toArray, List.set_cons_zero, List.set_cons_succ]
      refine anyX_take 3 (by kernel_rfl) (by kernel_rfl) (by kernel_rfl) (by kernel_rfl) (by kernel_rfl) hS1 ?_
      intro oi ho; cases ho
      refine ⟨undef, fun _ _ _ h => h, Or.inr ⟨by kernel_rfl, rfl⟩, ?_⟩
      simp only [Act.put, List.getElem_toArray, List.getElem_cons_succ, List.getElem_cons_zero, List.setIfInBounds_toArray, List.set_cons_zero, List.set_cons_succ]
      refine anyX_take 4 (by kernel_rfl) (by kernel_rfl) (by kernel_rfl) (by kernel_rfl) (by kernel_rfl) hS1 ?_
      intro oi ho; cases ho
      refine ⟨undef, fun _ _ _ h => h, Or.inr ⟨by kernel_rfl, rfl⟩, ?_⟩
      simp only [Act.put, List.getElem_toArray, List.getElem_cons_succ, List.getElem_cons_zero, List.setIfInBounds_toArray, List.set_cons_zero, List.set_cons_succ]
      refine anyX_take 5 (by kernel_rfl) (by kernel_rfl) (by kernel_rfl) (by kernel_rfl) (by kernel_rfl) hS1 ?_
      intro oi ho; cases ho
      refine ⟨undef, fun _ _ _ h => h, Or.inr ⟨by kernel_rfl, rfl⟩, ?_⟩
      simp only [Act.put, List.getElem_toArray, List.getElem_cons_succ, List.getElem_cons_zero, List.setIfInBounds_toArray, List.set_cons_zero, List.set_cons_succ]
      refine anyX_take 6 (by kernel_rfl) (by kernel_rfl) (by kernel_rfl) (by kernel_rfl) (by kernel_rfl) hS1 ?_
      intro oi ho; cases ho
      refine ⟨undef, fun _ _ _ h => h, Or.inr ⟨by kernel_rfl, rfl⟩, ?_⟩
      simp only [Act.put, List.getElem_toArray, List.getElem_cons_succ, List.getElem_cons_zero, List.setIfInBounds_toArray, List.set_cons_zero, List.set_cons_succ]
      refine anyX_take 7 (by kernel_rfl) (by kernel_rfl) (by kernel_rfl) (by kernel_rfl) (by kernel_rfl) hS1 ?_
      intro oi ho; cases ho
      refine ⟨undef, fun _ _ _ h => h, Or.inr ⟨by kernel_rfl, rfl⟩, ?_⟩
      simp only [Act.put, List.getElem_toArray, List.getElem_cons_succ, List.getElem_cons_zero, List.setIfInBounds_toArray, List.set_cons_zero, List.set_cons_succ]
      refine anyX_take 8 (by kernel_rfl) (by kernel_rfl) (by kernel_rfl) (by kernel_rfl) (by kernel_rfl) hS1 ?_
      intro oi ho; cases ho
      refine ⟨undef, fun _ _ _ h => h, Or.inr ⟨by kernel_rfl, rfl⟩, ?_⟩
      simp only [Act.put, List.getElem_toArray, List.getElem_cons_succ, List.getElem_cons_zero, List.setIfInBounds_toArray, List.set_cons_zero, List.set_cons_succ]
      refine anyX_take 9 (by kernel_rfl) (by kernel_rfl) (by kernel_rfl) (by kernel_rfl) (by kernel_rfl) hS1 ?_
      intro oi ho; cases ho
      refine ⟨undef, fun _ _ _ h => h, Or.inr ⟨by kernel_rfl, rfl⟩, ?_⟩
      simp only [Act.put, List.getElem_toArray, List.getElem_cons_succ, List.getElem_cons_zero, List.setIfInBounds_toArray, List.set_cons_zero, List.set_cons_succ]
      refine anyX_take 10 (by kernel_rfl) (by kernel_rfl) (by kernel_rfl) (by kernel_rfl) (by kernel_rfl) hS1 ?_
      intro oi ho; cases ho
      refine ⟨undef, fun _ _ _ h => h, Or.inr ⟨by kernel_rfl, rfl⟩, ?_⟩
      simp only [Act.put, List.getElem_toArray, List.getElem_cons_succ, List.getElem_cons_zero, List.setIfInBounds_toArray, List.set_cons_zero, List.set_cons_succ]
      refine anyX_take 11 (by kernel_rfl) (by kernel_rfl) (by kernel_rfl) (by kernel_rfl) (by kernel_rfl) hS1 ?_
      intro oi ho; cases ho
      refine ⟨undef, fun _ _ _ h => h, Or.inr ⟨by kernel_rfl, rfl⟩, ?_⟩
      simp only [Act.put, List.getElem_toArray, List.getElem_cons_succ, List.getElem_cons_zero, List.setIfInBounds_toArray, List.set_cons_zero, List.set_cons_succ]
      refine anyX_take 12 (by kernel_rfl) (by kernel_rfl) (by kernel_rfl) (by kernel_rfl) (by kernel_rfl) hS1 ?_
      intro oi ho; cases ho
      refine ⟨undef, fun _ _ _ h => h, Or.inr ⟨by kernel_rfl, rfl⟩, ?_⟩
      simp only [Act.put, List.getElem_toArray, List.getElem_cons_succ, List.getElem_cons_zero, List.setIfInBounds_toArray, List.set_cons_zero, List.set_cons_succ]
      refine anyX_take 13 (by kernel_rfl) (by kernel_rfl) (by kernel_rfl) (by kernel_rfl) (by kernel_rfl) hS1 ?_
      intro oi ho; cases ho
      refine ⟨undef, fun _ _ _ h => h, Or.inr ⟨by kernel_rfl, rfl⟩, ?_⟩
      simp only [Act.put, List.getElem_toArray, List.getElem_cons_succ, List.getElem_cons_zero, List.setIfInBounds_toArray, List.set_cons_zero, List.set_cons_succ]
      refine anyX_take 14 (by kernel_rfl) (by kernel_rfl) (by kernel_rfl) (by kernel_rfl) (by kernel_rfl) hS1 ?_
      intro oi ho; cases ho
      refine ⟨?_, fun _ _ _ h => h, Or.inl ⟨by kernel_rfl, ?_⟩, ?_⟩; rotate_left 1
      · (intro wS hSw; go_simp; try with_reducible rfl)
      simp only [Act.put, List.getElem_toArray, List.getElem_cons_succ, List.getElem_cons_zero, List.setIfInBounds_toArray, List.set_cons_zero, List.set_cons_succ]
      refine anyX_done (by kernel_rfl) ?_
      (try simp only [Act.put, List.getElem_toArray, List.getElem_cons_succ, List.getElem_cons_zero, List.setIfInBounds_toArray, List.set_cons_zero, List.set_cons_succ])
      have e0 := hS1.1
      have e1 := hS1.2
      have hKX := Lib.hid ((hkr.trans (Keeps.drew (S := fun k => k = B) wr) (fun _ _ h => h)).trans (Keeps.mono k2 (fun _ _ h => h.elim)) (fun _ _ h => h))
      clear hS0 hS1 c0 c1 hkr hb k2 hm
      simp only [Exit.then]
      go_wp2_with fail
      go_quiet (fail)
      go_wp2_with fail
      go_ret
      exact ⟨by rw [HSP.out]; rfl, by first | exact hKX.out.trans (Keeps.drewN _ _) (fun _ _ h => h) | exact hKX.out⟩

set_option maxRecDepth 100000 in
set_option maxHeartbeats 4000000 in
theorem cname_any (w : World) (s : ByteArray) (hs : s.size ≤ 9223372036854775807) : Calls Tryd.prog 39 #[.string s] w fun e w' => e = .returned (.bool (nameB s)) ∧ New w w' := by
  by_cases h0 : s.size = 0
  · rw [nameB_nil s h0]
    have HP : Hid ((bytesN s).getD 0 0 = 0) := Lib.hid (by
      have : bytesN s = [] := List.eq_nil_of_length_eq_zero (by rw [bytesN_len]; omega)
      rw [this]; rfl)
    have hl : ∀ W, Calls Tryd.prog 63 #[.int .u8 0] W fun e w' => e = .returned (.bool false) ∧ w' = W := fun W => clet_any W 0
    clear h0
    go_enter Tryd.func39, Tryd.ntmps39
    go_wp2_with fail
    have hb : (w.alloc (.cells (CurC s 0) 86)).heap[w.heap.size]? = some (.cells (CurC s 0) 86 (0, 0)) := heap_alloc_new w _
    refine (cpeek_any _ w.heap.size s hb hs).mono ?_
    rintro e w2 ⟨rfl, k2⟩
    rw [HP.out]
    replace hb := Keeps.heap k2 hb (fun h => h)
    go_wp2_with fail
    refine (hl _).mono ?_
    rintro e w3 ⟨rfl, rfl⟩
    go_wp2_with fail
    go_ret
    exact ⟨rfl, ((New.refl w).alloc _).trans k2⟩
  · have h1 : 0 < s.size := by omega
    have HP : Hid ((bytesN s).getD 0 0 = (s[0].toNat : Int)) := Lib.hid (by rw [List.getD_eq_getElem?_getD, bytesN_at s 0 h1]; rfl)
    rw [nameB_cons s h1]
    have hl := fun W => clet_any W (s[0].toNat : Int)
    cases e1 : letterB (s[0].toNat : Int) with
    | false =>
      rw [e1] at hl
      rw [Bool.false_and]
      clear e1
      go_enter Tryd.func39, Tryd.ntmps39
      go_wp2_with fail
      have hb : (w.alloc (.cells (CurC s 0) 86)).heap[w.heap.size]? = some (.cells (CurC s 0) 86 (0, 0)) := heap_alloc_new w _
      refine (cpeek_any _ w.heap.size s hb hs).mono ?_
      rintro e w2 ⟨rfl, k2⟩
      rw [HP.out]
      replace hb := Keeps.heap k2 hb (fun h => h)
      go_wp2_with fail
      refine (hl _).mono ?_
      rintro e w3 ⟨rfl, rfl⟩
      go_wp2_with fail
      go_ret
      exact ⟨rfl, ((New.refl w).alloc _).trans k2⟩
    | true =>
      rw [e1] at hl
      rw [Bool.true_and]
      have hle : spanL (bytesN s) ≤ s.size := by have := spanL_le (bytesN s); rwa [bytesN_len] at this
      have hall := spanL_all (bytesN s)
      rw [bytesN_len] at hall
      obtain ⟨n, hn⟩ : ∃ n, spanL (bytesN s) = n := ⟨_, rfl⟩
      rw [hn] at hle hall
      have HN := Lib.hid hn
      have hx : (s.extract 0 n).size = n := by rw [ByteArray.size_extract]; omega
      clear e1 hn
      by_cases ha : n = s.size
      · have hA : (bytesN s).all insideB = true := hall.1 ha
        rw [hA, Bool.true_and]
        subst ha
        clear hA hall
        go_enter Tryd.func39, Tryd.ntmps39
        go_wp2_with fail
        have hb : (w.alloc (.cells (CurC s 0) 86)).heap[w.heap.size]? = some (.cells (CurC s 0) 86 (0, 0)) := heap_alloc_new w _
        refine (cpeek_any _ w.heap.size s hb hs).mono ?_
        rintro e w2 ⟨rfl, k2⟩
        rw [HP.out]
        replace hb := Keeps.heap k2 hb (fun h => h)
        go_wp2_with fail
        refine (hl _).mono ?_
        rintro e w3 ⟨rfl, rfl⟩
        go_wp2_with fail
        refine (cwhile_any _ w.heap.size s hb hs).mono ?_
        rintro e w4 ⟨rfl, k4⟩
        rw [HN.out]
        have hNw := (((New.refl w).alloc (.cells (CurC s 0) 86)).trans k2).keeps k4 (fun i hi e => by omega)
        go_wp2_with fail
        go_ret
        have hd : decide ((s.size : Int) ≤ 16) = decide (s.size ≤ 16) := by
          by_cases hq : s.size ≤ 16
          · rw [decide_eq_true hq, decide_eq_true (by omega)]
          · rw [decide_eq_false hq, decide_eq_false (by omega)]
        exact ⟨by show Ending.returned (.bool (decide ((s.size : Int) ≤ 16))) = _; rw [hd], hNw⟩
      · have hA : (bytesN s).all insideB = false := by
          cases e : (bytesN s).all insideB with
          | false => rfl
          | true => exact absurd (hall.2 e) ha
        rw [hA, Bool.false_and]
        have hne : ((n : Int) == (s.size : Int)) = false := by simpa using fun h : (n : Int) = s.size => ha (by omega)
        clear hA hall ha
        go_enter Tryd.func39, Tryd.ntmps39
        go_wp2_with fail
        have hb : (w.alloc (.cells (CurC s 0) 86)).heap[w.heap.size]? = some (.cells (CurC s 0) 86 (0, 0)) := heap_alloc_new w _
        refine (cpeek_any _ w.heap.size s hb hs).mono ?_
        rintro e w2 ⟨rfl, k2⟩
        rw [HP.out]
        replace hb := Keeps.heap k2 hb (fun h => h)
        go_wp2_with fail
        refine (hl _).mono ?_
        rintro e w3 ⟨rfl, rfl⟩
        go_wp2_with fail
        refine (cwhile_any _ w.heap.size s hb hs).mono ?_
        rintro e w4 ⟨rfl, k4⟩
        rw [HN.out]
        have hNw := (((New.refl w).alloc (.cells (CurC s 0) 86)).trans k2).keeps k4 (fun i hi e => by omega)
        go_wp2_with fail
        go_ret
        exact ⟨rfl, hNw⟩
end Go.Proofs.YtohalcbhckahmaaDoor
