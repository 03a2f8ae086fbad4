/-
  Layer 20: the document's Decimal is the decimal numeral.
-/
import Derived.Test.YtfmpjbiaamkobaaDoorShapeA
import Derived.Test.YtfmpjbiaamkobaaDoorMem
import Derived.Test.YtfmpjbiaamkobaaDoorMem2
import Derived.Test.YtfmpjbiaamkobaaDoorRegionX
import Derived.Laws.BytesArg
import Derived.Lib.ItoaMem
import Derived.Lib.ItoaLen
import Derived.Laws.Concat
import Derived.Lib.Hide
namespace Go.Proofs.YtfmpjbiaamkobaaDoor
open Go Go.RowKit
set_option linter.all false

section
variable {P : Program} {md : Region.Mode} {ops : Array Oper} {Q : Exit → Act → World → Prop} {S : World → Prop} {X : Nat → Bool}
/-- Either of two may come up. -/
theorem anyX_two (i j : Nat) {fuel : Nat} {l : Array Bool} {a : Act} {w : World} (hr : Region.ready md ops l = [i, j])
    (hi : ∀ oi, ops[i]? = some oi → ∀ K : Act → World → Prop, (∀ a' w', (X i = false → S w') → wpAnyX P md ops Q S X fuel (l.setIfInBounds i true) a' w' → K a' w') → if Region.wanted oi (yielded ops a.tmps) = true then Oper.wp P oi a w K Q else K (a.put oi.dst undef) w)
    (hj : ∀ oi, ops[j]? = some oi → ∀ K : Act → World → Prop, (∀ a' w', (X j = false → S w') → wpAnyX P md ops Q S X fuel (l.setIfInBounds j true) a' w' → K a' w') → if Region.wanted oi (yielded ops a.tmps) = true then Oper.wp P oi a w K Q else K (a.put oi.dst undef) w) :
    wpAnyX P md ops Q S X (fuel + 1) l a w := by
  refine ⟨fun h0 => (by rw [h0] at hr; cases hr), fun k hk => ?_⟩
  obtain ⟨_, o, ho, _⟩ := mem_ready.1 hk
  rw [hr] at hk
  rcases List.mem_cons.1 hk with rfl | hk
  · exact wpOp_step ho (fun K' hK => hi o ho K' (fun a' w' h1 h2 => hK _ _ ⟨h1, h2⟩))
  · obtain rfl := List.mem_singleton.1 hk
    exact wpOp_step ho (fun K' hK => hj o ho K' (fun a' w' h1 h2 => hK _ _ ⟨h1, h2⟩))
end

def decS (n : Int) : ByteArray := ⟨(Lib.itoa n).toArray⟩
theorem decS_one (k : Nat) (hk : k < 10) : decS k = ⟨#[UInt8.ofNat (48 + k)]⟩ := by
  unfold decS
  rw [Lib.itoa_nonneg, Lib.decDigits_one hk]
theorem decS_neg (k : Nat) (h1 : 1 ≤ k) : (⟨#[45]⟩ : ByteArray) ++ decS k = decS (-(k : Int)) := by
  unfold decS
  rw [Lib.itoa_nonneg, Lib.itoa_neg k h1]
  apply ByteArray.ext
  rw [ByteArray.data_append]
  simp
theorem decS_more (k : Nat) (h : 10 ≤ k) : decS ((k / 10 : Nat) : Int) ++ (⟨#[UInt8.ofNat (48 + k % 10)]⟩ : ByteArray) = decS k := by
  unfold decS
  have e : Lib.decDigits k = Lib.decDigits (k / 10) ++ [UInt8.ofNat (48 + k % 10)] := by rw [Lib.decDigits, dif_neg (by omega)]
  rw [Lib.itoa_nonneg, Lib.itoa_nonneg, e]
  apply ByteArray.ext
  rw [ByteArray.data_append]
  simp
theorem decS_less (k : Nat) (h : 10 ≤ k) : decS (-((k / 10 : Nat) : Int)) ++ (⟨#[UInt8.ofNat (48 + k % 10)]⟩ : ByteArray) = decS (-(k : Int)) := by
  unfold decS
  have e : Lib.decDigits k = Lib.decDigits (k / 10) ++ [UInt8.ofNat (48 + k % 10)] := by rw [Lib.decDigits, dif_neg (by omega)]
  rw [Lib.itoa_neg _ (by omega), Lib.itoa_neg k (by omega), e]
  apply ByteArray.ext
  rw [ByteArray.data_append]
  simp
theorem lit_cell (w : World) (v : Value) (e : TypeId) : (w.alloc (.cells #[v] e)).cell? ⟨w.heap.size, 0, none⟩ = some v := by
  have := (SlAt.lit w #[v] e).at (i := 0) (by simp)
  obtain ⟨b, off, h, hc⟩ := this
  cases h
  simpa using hc
theorem decS_size (n : Int) (h0 : -9223372036854775808 ≤ n) (h1 : n ≤ 9223372036854775807) : (decS n).size ≤ 21 := Lib.itoa_length_le n h0 h1
theorem one_size (b : UInt8) : (⟨#[b]⟩ : ByteArray).size = 1 := rfl
theorem run_str1 (w : World) (B : Nat) (m : Nat) (hc : w.cell? ⟨B, 0, none⟩ = some (.int .u8 (m : Int))) :
    (convert 47 9 (.slice (some ⟨B, 0, none⟩) 1 1)).run Tryd.prog w = .ok (.string ⟨#[UInt8.ofNat m]⟩) w := by
  have := run_convert_bytes_arg (P := Tryd.prog) w 47 5 Tryd.underlying47 Tryd.underlying5 B 0 1 1 [(m : Int)] rfl (fun i hi => by
    obtain rfl : i = 0 := by omega
    simpa using hc) 9 Tryd.underlying9
  rw [this]
  simp [strOfNums]

set_option maxRecDepth 100000 in
set_option maxHeartbeats 1000000 in
theorem decimal_small (w : World) (k : Nat) (hk : k < 10) :
    Calls Tryd.prog 7 #[I k] w fun e w' => e = .returned (.string (decS k)) ∧ New w w' := by
  rw [decS_one k hk]
  obtain ⟨m, hm⟩ : ∃ m : Nat, 48 + k = m := ⟨_, rfl⟩
  rw [hm]
  have hcv := run_str1 (w.alloc (.cells #[.int .u8 (m : Int)] 5)) w.heap.size m (lit_cell _ _ _)
  have h1 : IntKind.i64.wrap (48 + (k : Int)) = (m : Int) := by rw [IntWalk.i64_in _ (by omega)]; omega
  have h2 : IntKind.u8.wrap (m : Int) = (m : Int) := IntWalk.u8_in _ (by omega)
  have d0 : decide ((0 : Int) ≤ (k : Int)) = true := decide_eq_true (by omega)
  have d1 : decide ((k : Int) < 10) = true := decide_eq_true (by omega)
  clear hm
  go_enter Tryd.func7, Tryd.ntmps7
  go_wp2_with fail
  go_ret
  exact ⟨rfl, (New.refl w).alloc _⟩

set_option maxRecDepth 100000 in
set_option maxHeartbeats 4000000 in
theorem decimal_more (w : World) (k : Nat) (hk : 10 ≤ k) (hb : (k : Int) ≤ 9223372036854775807) (ih : ∀ w, Calls Tryd.prog 7 #[I (((k / 10 : Nat) : Int))] w fun e w' => e = .returned (.string (decS (((k / 10 : Nat) : Int)))) ∧ New w w') :
    Calls Tryd.prog 7 #[I ((k : Int))] w fun e w' => e = .returned (.string (decS ((k : Int)))) ∧ New w w' := by
  rw [← decS_more k hk]
  obtain ⟨n, hn⟩ : ∃ n : Int, (k : Int) = n := ⟨_, rfl⟩
  obtain ⟨q, hq⟩ : ∃ q : Int, ((k / 10 : Nat) : Int) = q := ⟨_, rfl⟩
  obtain ⟨m, hm⟩ : ∃ m : Nat, 48 + k % 10 = m := ⟨_, rfl⟩
  obtain ⟨x, hx⟩ : ∃ x : Int, ((k % 10 : Nat) : Int) = x := ⟨_, rfl⟩
  rw [hn, hm]
  rw [hq] at ih ⊢
  have q1 : n.tdiv 10 = q := by
    rw [← hn, ← hq]
    rw [Int.tdiv_eq_ediv_of_nonneg (by omega)]; omega
  have q2 : n.tmod 10 = x := by
    rw [← hn, ← hx]
    rw [Int.tmod_eq_emod_of_nonneg (by omega)]; omega
  have q3 : IntKind.i64.wrap q = q := IntWalk.i64_in _ (by omega)
  have q4 : IntKind.i64.wrap x = x := IntWalk.i64_in _ (by omega)
  have q5 : IntKind.i64.wrap (48 + x) = (m : Int) := by rw [IntWalk.i64_in _ (by omega)]; omega
  have q6 : IntKind.u8.wrap (m : Int) = (m : Int) := IntWalk.u8_in _ (by omega)
  have d0 : decide ((0 : Int) ≤ n) = true := decide_eq_true (by omega)
  have d1 : decide (n < 10) = false := decide_eq_false (by omega)
  have d2 : decide (n < 0) = false := decide_eq_false (by omega)
  have d3 : decide (-10 < n) = true := decide_eq_true (by omega)
  have hadd : ∀ w : World, (Op.stringOp .add (decS q) (⟨#[UInt8.ofNat m]⟩ : ByteArray)).run Tryd.prog w = .ok (.string (decS q ++ (⟨#[UInt8.ofNat m]⟩ : ByteArray))) w := fun w => run_string_add_sum w _ _ (by have := decS_size q (by omega) (by omega); rw [one_size]; omega)
  clear hn hq hm hx hk hb
  go_enter Tryd.func7, Tryd.ntmps7
  go_wp2_with fail
  refine wp_region_X (fun _ => True) [] (by kernel_rfl) trivial ?_
  refine anyX_take 0 (by kernel_rfl) (by kernel_rfl) (by kernel_rfl) (by kernel_rfl) (by kernel_rfl) trivial ?_
  intro oi ho; cases ho
  refine ⟨?_, fun _ _ _ h => h, Or.inl ⟨by rfl, ?_⟩, ?_⟩; rotate_left 1
  · (intro wS hSw; go_simp; try with_reducible rfl)
  simp only [Act.put, List.setIfInBounds_toArray, List.set_cons_zero, List.set_cons_succ]
  refine anyX_take 1 (by kernel_rfl) (by kernel_rfl) (by kernel_rfl) (by kernel_rfl) (by kernel_rfl) trivial ?_
  intro oi ho; cases ho
  refine ⟨?_, fun _ _ _ h => h, Or.inl ⟨by rfl, ?_⟩, ?_⟩; rotate_left 1
  · (intro wS hSw; go_simp; try with_reducible rfl)
  simp only [Act.put, List.setIfInBounds_toArray, List.set_cons_zero, List.set_cons_succ]
  refine anyX_take 3 (by kernel_rfl) (by kernel_rfl) (by kernel_rfl) (by kernel_rfl) (by kernel_rfl) trivial ?_
  intro oi ho; cases ho
  refine ⟨?_, fun _ _ _ h => h, Or.inl ⟨by rfl, ?_⟩, ?_⟩; rotate_left 1
  · (intro wS hSw; go_simp; try with_reducible rfl)
  simp only [Act.put, List.setIfInBounds_toArray, List.set_cons_zero, List.set_cons_succ]
  refine anyX_take 4 (by kernel_rfl) (by kernel_rfl) (by kernel_rfl) (by kernel_rfl) (by kernel_rfl) trivial ?_
  intro oi ho; cases ho
  refine ⟨?_, fun _ _ _ h => h, Or.inl ⟨by rfl, ?_⟩, ?_⟩; rotate_left 1
  · (intro wS hSw; go_simp; try with_reducible rfl)
  simp only [Act.put, List.setIfInBounds_toArray, List.set_cons_zero, List.set_cons_succ]
  refine anyX_take 5 (by kernel_rfl) (by kernel_rfl) (by kernel_rfl) (by kernel_rfl) (by kernel_rfl) trivial ?_
  intro oi ho; cases ho
  refine ⟨?_, fun _ _ _ h => h, Or.inl ⟨by rfl, ?_⟩, ?_⟩; rotate_left 1
  · (intro wS hSw; go_simp; try with_reducible rfl)
  simp only [Act.put, List.setIfInBounds_toArray, List.set_cons_zero, List.set_cons_succ]
  refine anyX_take 6 (by kernel_rfl) (by kernel_rfl) (by kernel_rfl) (by kernel_rfl) (by kernel_rfl) trivial ?_
  intro oi ho; cases ho
  refine ⟨?_, fun _ _ _ h => h, Or.inl ⟨by rfl, ?_⟩, ?_⟩; rotate_left 1
  · (intro wS hSw; go_simp; try with_reducible rfl)
  simp only [Act.put, List.setIfInBounds_toArray, List.set_cons_zero, List.set_cons_succ]
  refine anyX_two 2 7 (by kernel_rfl) ?_ ?_
  · skip
    intro oi ho; cases ho; intro K hK
    (try simp only [Act.put, List.setIfInBounds_toArray, List.set_cons_zero, List.set_cons_succ])
    go_simp
    refine (ih _).mono ?_
    rintro e wd ⟨rfl, kd⟩
    refine hK _ _ (fun _ => trivial) ?_
    clear hK K
    refine anyX_one 7 (by kernel_rfl) ?_
    intro oi ho; cases ho; intro K hK
    (try simp only [Act.put, List.setIfInBounds_toArray, List.set_cons_zero, List.set_cons_succ])
    go_simp
    refine hK _ _ (fun _ => trivial) ?_
    clear hK K
    have hcv := run_str1 (wd.alloc (.cells #[.int .u8 (m : Int)] 5)) wd.heap.size m (lit_cell _ _ _)
    refine anyX_one 8 (by kernel_rfl) ?_
    intro oi ho; cases ho; intro K hK
    (try simp only [Act.put, List.setIfInBounds_toArray, List.set_cons_zero, List.set_cons_succ])
    go_simp
    refine hK _ _ (fun _ => trivial) ?_
    clear hK K
    refine anyX_one 9 (by kernel_rfl) ?_
    intro oi ho; cases ho; intro K hK
    (try simp only [Act.put, List.setIfInBounds_toArray, List.set_cons_zero, List.set_cons_succ])
    go_simp
    refine hK _ _ (fun _ => trivial) ?_
    clear hK K
    refine anyX_one 10 (by kernel_rfl) ?_
    intro oi ho; cases ho; intro K hK
    (try simp only [Act.put, List.setIfInBounds_toArray, List.set_cons_zero, List.set_cons_succ])
    go_simp
    refine hK _ _ (fun _ => trivial) ?_
    clear hK K
    refine anyX_done (by kernel_rfl) ?_
    (try simp only [Act.put, List.setIfInBounds_toArray, List.set_cons_zero, List.set_cons_succ])
    (try simp only [Exit.then])
    go_wp2
    go_ret
    exact ⟨rfl, ((New.refl w).drew.trans kd).alloc _⟩
  · skip
    intro oi ho; cases ho; intro K hK
    (try simp only [Act.put, List.setIfInBounds_toArray, List.set_cons_zero, List.set_cons_succ])
    go_simp
    refine hK _ _ (fun _ => trivial) ?_
    clear hK K
    refine anyX_two 2 8 (by kernel_rfl) ?_ ?_
    · skip
      intro oi ho; cases ho; intro K hK
      (try simp only [Act.put, List.setIfInBounds_toArray, List.set_cons_zero, List.set_cons_succ])
      go_simp
      refine (ih _).mono ?_
      rintro e wd ⟨rfl, kd⟩
      refine hK _ _ (fun _ => trivial) ?_
      clear hK K
      have hcv := run_str1 wd w.heap.size m (New.cell kd (New.cell ((New.refl _).drew) (lit_cell w _ _)))
      refine anyX_one 8 (by kernel_rfl) ?_
      intro oi ho; cases ho; intro K hK
      (try simp only [Act.put, List.setIfInBounds_toArray, List.set_cons_zero, List.set_cons_succ])
      go_simp
      refine hK _ _ (fun _ => trivial) ?_
      clear hK K
      refine anyX_one 9 (by kernel_rfl) ?_
      intro oi ho; cases ho; intro K hK
      (try simp only [Act.put, List.setIfInBounds_toArray, List.set_cons_zero, List.set_cons_succ])
      go_simp
      refine hK _ _ (fun _ => trivial) ?_
      clear hK K
      refine anyX_one 10 (by kernel_rfl) ?_
      intro oi ho; cases ho; intro K hK
      (try simp only [Act.put, List.setIfInBounds_toArray, List.set_cons_zero, List.set_cons_succ])
      go_simp
      refine hK _ _ (fun _ => trivial) ?_
      clear hK K
      refine anyX_done (by kernel_rfl) ?_
      (try simp only [Act.put, List.setIfInBounds_toArray, List.set_cons_zero, List.set_cons_succ])
      (try simp only [Exit.then])
      go_wp2
      go_ret
      exact ⟨rfl, (((New.refl w).alloc _).drew).trans kd⟩
    · skip
      have hcv := run_str1 (w.alloc (.cells #[.int .u8 (m : Int)] 5)).drew w.heap.size m (New.cell ((New.refl _).drew) (lit_cell w _ _))
      intro oi ho; cases ho; intro K hK
      (try simp only [Act.put, List.setIfInBounds_toArray, List.set_cons_zero, List.set_cons_succ])
      go_simp
      refine hK _ _ (fun _ => trivial) ?_
      clear hK K
      refine anyX_one 2 (by kernel_rfl) ?_
      intro oi ho; cases ho; intro K hK
      (try simp only [Act.put, List.setIfInBounds_toArray, List.set_cons_zero, List.set_cons_succ])
      go_simp
      refine (ih _).mono ?_
      rintro e wd ⟨rfl, kd⟩
      refine hK _ _ (fun _ => trivial) ?_
      clear hK K
      refine anyX_one 9 (by kernel_rfl) ?_
      intro oi ho; cases ho; intro K hK
      (try simp only [Act.put, List.setIfInBounds_toArray, List.set_cons_zero, List.set_cons_succ])
      go_simp
      refine hK _ _ (fun _ => trivial) ?_
      clear hK K
      refine anyX_one 10 (by kernel_rfl) ?_
      intro oi ho; cases ho; intro K hK
      (try simp only [Act.put, List.setIfInBounds_toArray, List.set_cons_zero, List.set_cons_succ])
      go_simp
      refine hK _ _ (fun _ => trivial) ?_
      clear hK K
      refine anyX_done (by kernel_rfl) ?_
      (try simp only [Act.put, List.setIfInBounds_toArray, List.set_cons_zero, List.set_cons_succ])
      (try simp only [Exit.then])
      go_wp2
      go_ret
      exact ⟨rfl, (((New.refl w).alloc _).drew).trans kd⟩

set_option maxRecDepth 100000 in
set_option maxHeartbeats 4000000 in
theorem decimal_less (w : World) (k : Nat) (hk : 10 ≤ k) (hb : (k : Int) ≤ 9223372036854775808) (ih : ∀ w, Calls Tryd.prog 7 #[I (-((k / 10 : Nat) : Int))] w fun e w' => e = .returned (.string (decS (-((k / 10 : Nat) : Int)))) ∧ New w w') :
    Calls Tryd.prog 7 #[I (-(k : Int))] w fun e w' => e = .returned (.string (decS (-(k : Int)))) ∧ New w w' := by
  rw [← decS_less k hk]
  obtain ⟨n, hn⟩ : ∃ n : Int, -(k : Int) = n := ⟨_, rfl⟩
  obtain ⟨q, hq⟩ : ∃ q : Int, -((k / 10 : Nat) : Int) = q := ⟨_, rfl⟩
  obtain ⟨m, hm⟩ : ∃ m : Nat, 48 + k % 10 = m := ⟨_, rfl⟩
  obtain ⟨x, hx⟩ : ∃ x : Int, -((k % 10 : Nat) : Int) = x := ⟨_, rfl⟩
  rw [hn, hm]
  rw [hq] at ih ⊢
  have q1 : n.tdiv 10 = q := by
    rw [← hn, ← hq]
    rw [Int.neg_tdiv, Int.tdiv_eq_ediv_of_nonneg (by omega)]; omega
  have q2 : n.tmod 10 = x := by
    rw [← hn, ← hx]
    rw [Int.neg_tmod, Int.tmod_eq_emod_of_nonneg (by omega)]; omega
  have q3 : IntKind.i64.wrap q = q := IntWalk.i64_in _ (by omega)
  have q4 : IntKind.i64.wrap x = x := IntWalk.i64_in _ (by omega)
  have q5 : IntKind.i64.wrap (48 - x) = (m : Int) := by rw [IntWalk.i64_in _ (by omega)]; omega
  have q6 : IntKind.u8.wrap (m : Int) = (m : Int) := IntWalk.u8_in _ (by omega)
  have d0 : decide ((0 : Int) ≤ n) = false := decide_eq_false (by omega)
  have d1 : decide (n < 10) = true := decide_eq_true (by omega)
  have d2 : decide (n < 0) = true := decide_eq_true (by omega)
  have d3 : decide (-10 < n) = false := decide_eq_false (by omega)
  have hadd : ∀ w : World, (Op.stringOp .add (decS q) (⟨#[UInt8.ofNat m]⟩ : ByteArray)).run Tryd.prog w = .ok (.string (decS q ++ (⟨#[UInt8.ofNat m]⟩ : ByteArray))) w := fun w => run_string_add_sum w _ _ (by have := decS_size q (by omega) (by omega); rw [one_size]; omega)
  clear hn hq hm hx hk hb
  go_enter Tryd.func7, Tryd.ntmps7
  go_wp2_with fail
  refine wp_region_X (fun _ => True) [] (by kernel_rfl) trivial ?_
  refine anyX_take 0 (by kernel_rfl) (by kernel_rfl) (by kernel_rfl) (by kernel_rfl) (by kernel_rfl) trivial ?_
  intro oi ho; cases ho
  refine ⟨?_, fun _ _ _ h => h, Or.inl ⟨by rfl, ?_⟩, ?_⟩; rotate_left 1
  · (intro wS hSw; go_simp; try with_reducible rfl)
  simp only [Act.put, List.setIfInBounds_toArray, List.set_cons_zero, List.set_cons_succ]
  refine anyX_take 1 (by kernel_rfl) (by kernel_rfl) (by kernel_rfl) (by kernel_rfl) (by kernel_rfl) trivial ?_
  intro oi ho; cases ho
  refine ⟨?_, fun _ _ _ h => h, Or.inl ⟨by rfl, ?_⟩, ?_⟩; rotate_left 1
  · (intro wS hSw; go_simp; try with_reducible rfl)
  simp only [Act.put, List.setIfInBounds_toArray, List.set_cons_zero, List.set_cons_succ]
  refine anyX_take 3 (by kernel_rfl) (by kernel_rfl) (by kernel_rfl) (by kernel_rfl) (by kernel_rfl) trivial ?_
  intro oi ho; cases ho
  refine ⟨?_, fun _ _ _ h => h, Or.inl ⟨by rfl, ?_⟩, ?_⟩; rotate_left 1
  · (intro wS hSw; go_simp; try with_reducible rfl)
  simp only [Act.put, List.setIfInBounds_toArray, List.set_cons_zero, List.set_cons_succ]
  refine anyX_take 4 (by kernel_rfl) (by kernel_rfl) (by kernel_rfl) (by kernel_rfl) (by kernel_rfl) trivial ?_
  intro oi ho; cases ho
  refine ⟨?_, fun _ _ _ h => h, Or.inl ⟨by rfl, ?_⟩, ?_⟩; rotate_left 1
  · (intro wS hSw; go_simp; try with_reducible rfl)
  simp only [Act.put, List.setIfInBounds_toArray, List.set_cons_zero, List.set_cons_succ]
  refine anyX_take 5 (by kernel_rfl) (by kernel_rfl) (by kernel_rfl) (by kernel_rfl) (by kernel_rfl) trivial ?_
  intro oi ho; cases ho
  refine ⟨?_, fun _ _ _ h => h, Or.inl ⟨by rfl, ?_⟩, ?_⟩; rotate_left 1
  · (intro wS hSw; go_simp; try with_reducible rfl)
  simp only [Act.put, List.setIfInBounds_toArray, List.set_cons_zero, List.set_cons_succ]
  refine anyX_take 6 (by kernel_rfl) (by kernel_rfl) (by kernel_rfl) (by kernel_rfl) (by kernel_rfl) trivial ?_
  intro oi ho; cases ho
  refine ⟨?_, fun _ _ _ h => h, Or.inl ⟨by rfl, ?_⟩, ?_⟩; rotate_left 1
  · (intro wS hSw; go_simp; try with_reducible rfl)
  simp only [Act.put, List.setIfInBounds_toArray, List.set_cons_zero, List.set_cons_succ]
  refine anyX_two 2 7 (by kernel_rfl) ?_ ?_
  · skip
    intro oi ho; cases ho; intro K hK
    (try simp only [Act.put, List.setIfInBounds_toArray, List.set_cons_zero, List.set_cons_succ])
    go_simp
    refine (ih _).mono ?_
    rintro e wd ⟨rfl, kd⟩
    refine hK _ _ (fun _ => trivial) ?_
    clear hK K
    refine anyX_one 7 (by kernel_rfl) ?_
    intro oi ho; cases ho; intro K hK
    (try simp only [Act.put, List.setIfInBounds_toArray, List.set_cons_zero, List.set_cons_succ])
    go_simp
    refine hK _ _ (fun _ => trivial) ?_
    clear hK K
    have hcv := run_str1 (wd.alloc (.cells #[.int .u8 (m : Int)] 5)) wd.heap.size m (lit_cell _ _ _)
    refine anyX_one 8 (by kernel_rfl) ?_
    intro oi ho; cases ho; intro K hK
    (try simp only [Act.put, List.setIfInBounds_toArray, List.set_cons_zero, List.set_cons_succ])
    go_simp
    refine hK _ _ (fun _ => trivial) ?_
    clear hK K
    refine anyX_one 9 (by kernel_rfl) ?_
    intro oi ho; cases ho; intro K hK
    (try simp only [Act.put, List.setIfInBounds_toArray, List.set_cons_zero, List.set_cons_succ])
    go_simp
    refine hK _ _ (fun _ => trivial) ?_
    clear hK K
    refine anyX_one 10 (by kernel_rfl) ?_
    intro oi ho; cases ho; intro K hK
    (try simp only [Act.put, List.setIfInBounds_toArray, List.set_cons_zero, List.set_cons_succ])
    go_simp
    refine hK _ _ (fun _ => trivial) ?_
    clear hK K
    refine anyX_done (by kernel_rfl) ?_
    (try simp only [Act.put, List.setIfInBounds_toArray, List.set_cons_zero, List.set_cons_succ])
    (try simp only [Exit.then])
    go_wp2
    go_ret
    exact ⟨rfl, ((New.refl w).drew.trans kd).alloc _⟩
  · skip
    intro oi ho; cases ho; intro K hK
    (try simp only [Act.put, List.setIfInBounds_toArray, List.set_cons_zero, List.set_cons_succ])
    go_simp
    refine hK _ _ (fun _ => trivial) ?_
    clear hK K
    refine anyX_two 2 8 (by kernel_rfl) ?_ ?_
    · skip
      intro oi ho; cases ho; intro K hK
      (try simp only [Act.put, List.setIfInBounds_toArray, List.set_cons_zero, List.set_cons_succ])
      go_simp
      refine (ih _).mono ?_
      rintro e wd ⟨rfl, kd⟩
      refine hK _ _ (fun _ => trivial) ?_
      clear hK K
      have hcv := run_str1 wd w.heap.size m (New.cell kd (New.cell ((New.refl _).drew) (lit_cell w _ _)))
      refine anyX_one 8 (by kernel_rfl) ?_
      intro oi ho; cases ho; intro K hK
      (try simp only [Act.put, List.setIfInBounds_toArray, List.set_cons_zero, List.set_cons_succ])
      go_simp
      refine hK _ _ (fun _ => trivial) ?_
      clear hK K
      refine anyX_one 9 (by kernel_rfl) ?_
      intro oi ho; cases ho; intro K hK
      (try simp only [Act.put, List.setIfInBounds_toArray, List.set_cons_zero, List.set_cons_succ])
      go_simp
      refine hK _ _ (fun _ => trivial) ?_
      clear hK K
      refine anyX_one 10 (by kernel_rfl) ?_
      intro oi ho; cases ho; intro K hK
      (try simp only [Act.put, List.setIfInBounds_toArray, List.set_cons_zero, List.set_cons_succ])
      go_simp
      refine hK _ _ (fun _ => trivial) ?_
      clear hK K
      refine anyX_done (by kernel_rfl) ?_
      (try simp only [Act.put, List.setIfInBounds_toArray, List.set_cons_zero, List.set_cons_succ])
      (try simp only [Exit.then])
      go_wp2
      go_ret
      exact ⟨rfl, (((New.refl w).alloc _).drew).trans kd⟩
    · skip
      have hcv := run_str1 (w.alloc (.cells #[.int .u8 (m : Int)] 5)).drew w.heap.size m (New.cell ((New.refl _).drew) (lit_cell w _ _))
      intro oi ho; cases ho; intro K hK
      (try simp only [Act.put, List.setIfInBounds_toArray, List.set_cons_zero, List.set_cons_succ])
      go_simp
      refine hK _ _ (fun _ => trivial) ?_
      clear hK K
      refine anyX_one 2 (by kernel_rfl) ?_
      intro oi ho; cases ho; intro K hK
      (try simp only [Act.put, List.setIfInBounds_toArray, List.set_cons_zero, List.set_cons_succ])
      go_simp
      refine (ih _).mono ?_
      rintro e wd ⟨rfl, kd⟩
      refine hK _ _ (fun _ => trivial) ?_
      clear hK K
      refine anyX_one 9 (by kernel_rfl) ?_
      intro oi ho; cases ho; intro K hK
      (try simp only [Act.put, List.setIfInBounds_toArray, List.set_cons_zero, List.set_cons_succ])
      go_simp
      refine hK _ _ (fun _ => trivial) ?_
      clear hK K
      refine anyX_one 10 (by kernel_rfl) ?_
      intro oi ho; cases ho; intro K hK
      (try simp only [Act.put, List.setIfInBounds_toArray, List.set_cons_zero, List.set_cons_succ])
      go_simp
      refine hK _ _ (fun _ => trivial) ?_
      clear hK K
      refine anyX_done (by kernel_rfl) ?_
      (try simp only [Act.put, List.setIfInBounds_toArray, List.set_cons_zero, List.set_cons_succ])
      (try simp only [Exit.then])
      go_wp2
      go_ret
      exact ⟨rfl, (((New.refl w).alloc _).drew).trans kd⟩

theorem decimal_pos : ∀ (d k : Nat), k ≤ d → (k : Int) ≤ 9223372036854775807 → ∀ w, Calls Tryd.prog 7 #[I (k : Int)] w fun e w' => e = .returned (.string (decS (k : Int))) ∧ New w w' := by
  intro d
  induction d with
  | zero => intro k hk hb w; exact decimal_small w k (by omega)
  | succ d ih =>
    intro k hk hb w
    by_cases h : k < 10
    · exact decimal_small w k h
    · exact decimal_more w k (by omega) hb (fun w => ih (k / 10) (by omega) (by omega) w)

set_option maxRecDepth 100000 in
set_option maxHeartbeats 1000000 in
theorem decimal_neg1 (w : World) (k : Nat) (hk : k < 10) (h1 : 1 ≤ k) :
    Calls Tryd.prog 7 #[I (-(k : Int))] w fun e w' => e = .returned (.string (decS (-(k : Int)))) ∧ New w w' := by
  rw [← decS_neg k h1]
  have ih := fun w => decimal_small w k hk
  obtain ⟨n, hn⟩ : ∃ n : Int, -(k : Int) = n := ⟨_, rfl⟩
  rw [hn]
  have q1 : IntKind.i64.wrap (-n) = (k : Int) := by rw [IntWalk.i64_in _ (by omega)]; omega
  have d0 : decide ((0 : Int) ≤ n) = false := decide_eq_false (by omega)
  have d2 : decide (n < 0) = true := decide_eq_true (by omega)
  have d3 : decide (-10 < n) = true := decide_eq_true (by omega)
  have hadd : ∀ w : World, (Op.stringOp .add (⟨#[45]⟩ : ByteArray) (decS (k : Int))).run Tryd.prog w = .ok (.string ((⟨#[45]⟩ : ByteArray) ++ decS (k : Int))) w := fun w => run_string_add_sum w _ _ (by have := decS_size k (by omega) (by omega); rw [one_size]; omega)
  clear hn hk h1
  go_enter Tryd.func7, Tryd.ntmps7
  go_wp2_with fail
  refine (ih _).mono ?_
  rintro e w2 ⟨rfl, k2⟩
  go_wp2_with fail
  go_ret
  exact ⟨rfl, k2⟩
theorem decimal_neg : ∀ (d k : Nat), k ≤ d → 1 ≤ k → (k : Int) ≤ 9223372036854775808 → ∀ w, Calls Tryd.prog 7 #[I (-(k : Int))] w fun e w' => e = .returned (.string (decS (-(k : Int)))) ∧ New w w' := by
  intro d
  induction d with
  | zero => intro k hk h1 hb w; omega
  | succ d ih =>
    intro k hk h1 hb w
    by_cases h : k < 10
    · exact decimal_neg1 w k h h1
    · exact decimal_less w k (by omega) hb (fun w => ih (k / 10) (by omega) (by omega) (by omega) w)
/-- Decimal, at any number. -/
theorem decimal_any (w : World) (n : Int) (h0 : -9223372036854775808 ≤ n) (h1 : n ≤ 9223372036854775807) :
    Calls Tryd.prog 7 #[I n] w fun e w' => e = .returned (.string (decS n)) ∧ New w w' := by
  by_cases h : 0 ≤ n
  · obtain ⟨k, rfl⟩ := Int.eq_ofNat_of_zero_le h
    exact decimal_pos k k (Nat.le_refl _) h1 w
  · obtain ⟨k, hk⟩ : ∃ k : Nat, n = -(k : Int) := ⟨n.natAbs, by omega⟩
    subst hk
    exact decimal_neg k k (Nat.le_refl _) (by omega) (by omega) w
end Go.Proofs.YtfmpjbiaamkobaaDoor
