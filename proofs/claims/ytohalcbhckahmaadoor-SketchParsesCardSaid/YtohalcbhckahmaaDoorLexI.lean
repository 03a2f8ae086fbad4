/-
  Layer 4: the document's Digits and Spelt; the law's right and between.
-/
import Derived.Test.YtohalcbhckahmaaDoorLexH
import Derived.Laws.BytesArg
namespace Go.Proofs.YtohalcbhckahmaaDoor
open Go Go.RowKit Go.Joins
set_option linter.all false

theorem lx_cell (w : World) (v : Value) (e : TypeId) : (w.alloc (.cells #[v] e)).cell? ⟨w.heap.size, 0, none⟩ = some v := by
  have := (SlAt.lit w #[v] e).at (i := 0) (by simp)
  obtain ⟨b, off, h, hc⟩ := this
  cases h
  simpa using hc
theorem lx_str1 (w : World) (B : Nat) (m : Nat) (hc : w.cell? ⟨B, 0, none⟩ = some (.int .u8 (m : Int))) :
    (convert 47 9 (.slice (some ⟨B, 0, none⟩) 1 1)).run Tryd.prog w = .ok (.string ⟨#[UInt8.ofNat m]⟩) w := by
  have := run_convert_bytes_arg (P := Tryd.prog) w 47 5 Tryd.underlying47 Tryd.underlying5 B 0 1 1 [(m : Int)] rfl (fun i hi => by
    obtain rfl : i = 0 := by omega
    simpa using hc) 9 Tryd.underlying9
  rw [this]
  simp [strOfNums]
/-- How far Digits has come. -/
def DgSt (n k : Int) (S : ByteArray) : Prop := Lib.decDigits n.natAbs = (if k = 0 then [] else Lib.decDigits k.natAbs) ++ S.data.toList ∧ -9223372036854775808 ≤ k ∧ k ≤ 9223372036854775807
theorem DgSt.size {n k : Int} {S : ByteArray} (h : DgSt n k S) (h0 : -9223372036854775808 ≤ n) (h1 : n ≤ 9223372036854775807) : S.size ≤ 19 := by
  have e := congrArg List.length h.1
  have := decDigits_len_le 19 n.natAbs (by omega) (by omega)
  rw [List.length_append, toList_len] at e
  omega
theorem DgSt.step {n k : Int} {S : ByteArray} (h : DgSt n k S) (hk : k ≠ 0) : DgSt n (k.tdiv 10) ((⟨#[UInt8.ofNat (48 + k.natAbs % 10)]⟩ : ByteArray) ++ S) ∧ (k.tdiv 10).natAbs < k.natAbs := by
  have hq : (k.tdiv 10).natAbs = k.natAbs / 10 := by rw [Int.natAbs_tdiv]; rfl
  refine ⟨⟨?_, ?_⟩, by omega⟩
  · rw [h.1, if_neg hk, ByteArray.data_append, Array.toList_append]
    by_cases hz : k.tdiv 10 = 0
    · rw [if_pos hz]
      have hs : k.natAbs < 10 := by rw [hz] at hq; simp at hq; omega
      rw [Lib.decDigits_one hs, show k.natAbs % 10 = k.natAbs by omega]
      try rfl
    · rw [if_neg hz, hq]
      have hb : ¬ k.natAbs < 10 := by
        intro hlt
        apply hz
        have : (k.tdiv 10).natAbs = 0 := by rw [hq]; omega
        omega
      rw [Lib.decDigits, dif_neg hb, List.append_assoc]
      try rfl
  · have h2 := h.2
    rcases Int.le_total 0 k with hp | hp
    · have e : k.tdiv 10 = k / 10 := Int.tdiv_eq_ediv_of_nonneg hp
      rw [e]; omega
    · have h3 : (k.tdiv 10).natAbs ≤ k.natAbs := by omega
      have h5 : (-k).tdiv 10 = (-k) / 10 := Int.tdiv_eq_ediv_of_nonneg (by omega)
      have h6 : (-k).tdiv 10 = -(k.tdiv 10) := Int.neg_tdiv k 10
      omega
theorem DgSt.done {n : Int} {S : ByteArray} (h : DgSt n 0 S) : S.data.toList = Lib.decDigits n.natAbs := by rw [h.1, if_pos rfl]; rfl

set_option maxRecDepth 100000 in
set_option maxHeartbeats 4000000 in
theorem digits_any (w : World) (n : Int) (h0 : -9223372036854775808 ≤ n) (h1 : n ≤ 9223372036854775807) :
    Calls Tryd.prog 54 #[I n] w fun e w' => e = .returned (.string (itoaS n)) ∧ New w w' := by
  by_cases hn : n = 0
  · subst hn
    have e : itoaS 0 = ⟨#[48]⟩ := by
      unfold itoaS
      have : Lib.itoa ((0 : Nat) : Int) = [48] := by rw [Lib.itoa_nonneg, decDigits_zero]
      rw [show (0 : Int) = ((0 : Nat) : Int) from rfl, this]
    rw [e]
    go_enter Tryd.func54, Tryd.ntmps54
    go_wp2_with fail
    go_ret
    exact ⟨rfl, New.refl _⟩
  · have hn0 : (n == 0) = false := by simpa using hn
    have hst : DgSt n n ⟨#[]⟩ := ⟨by rw [if_neg hn]; simp, h0, h1⟩
    have HST := Lib.hid hst
    have HN := Lib.hid hn
    clear hst hn
    go_enter Tryd.func54, Tryd.ntmps54
    go_wp2_with fail
    go_loopw [3, 4] (fun x y wr => ∃ (k : Int) (S : ByteArray), x = .string S ∧ y = I k ∧ Hid (DgSt n k S) ∧ New w wr) (fun _ y _ => (intOf y).natAbs)
    case atStart => exact ⟨n, ⟨#[]⟩, rfl, rfl, HST, New.refl _⟩
    case round =>
      clear HST
      obtain ⟨k, S, rfl, rfl, HS, hN⟩ := hrel
      by_cases hk : k = 0
      · subst hk
        have hS := HS.out.done
        have hsz := HS.out.size h0 h1
        by_cases hneg : n < 0
        · obtain ⟨X, hX⟩ : ∃ X, (⟨#[45]⟩ : ByteArray) ++ S = X := ⟨_, rfl⟩
          have hadd : ∀ w : World, (Op.stringOp .add (⟨#[45]⟩ : ByteArray) S).run Tryd.prog w = .ok (.string X) w := fun w => by rw [← hX]; exact run_string_add_sum w _ _ (by show 1 + S.size ≤ _; omega)
          have HX : Hid (itoaS n = X) := Lib.hid (by
            obtain ⟨j, hj⟩ : ∃ j : Nat, n = -(j : Int) := ⟨n.natAbs, by omega⟩
            rw [← hX]
            apply ByteArray.ext
            apply Array.toList_inj.1
            rw [ByteArray.data_append, Array.toList_append, hS, hj]
            unfold itoaS
            rw [Lib.itoa_neg j (by omega)]
            simp)
          clear hX hS
          go_wp2_with fail
          go_ret
          exact ⟨by rw [HX.out]; rfl, hN⟩
        · have HX : Hid (itoaS n = S) := Lib.hid (by
            obtain ⟨j, hj⟩ : ∃ j : Nat, n = (j : Int) := ⟨n.natAbs, by omega⟩
            apply ByteArray.ext
            apply Array.toList_inj.1
            rw [hS, hj]
            unfold itoaS
            rw [Lib.itoa_nonneg]
            simp)
          clear hS
          go_wp2_with fail
          go_ret
          exact ⟨by rw [HX.out]; rfl, hN⟩
      · have hk0 : (k == 0) = false := by simpa using hk
        obtain ⟨hs2, hlt⟩ := HS.out.step hk
        have hb := HS.out.2
        have hsz := HS.out.size h0 h1
        obtain ⟨m, hm⟩ : ∃ m : Nat, 48 + k.natAbs % 10 = m := ⟨_, rfl⟩
        rw [hm] at hs2
        obtain ⟨q, hq⟩ : ∃ q : Int, k.tdiv 10 = q := ⟨_, rfl⟩
        obtain ⟨x, hx⟩ : ∃ x : Int, k.tmod 10 = x := ⟨_, rfl⟩
        have hxa : x.natAbs = k.natAbs % 10 := by rw [← hx, Int.natAbs_tmod]; rfl
        rw [hq] at hs2 hlt
        have hqb := hs2.2
        have q3 : IntKind.i64.wrap q = q := IntWalk.i64_in _ (by omega)
        have q4 : IntKind.i64.wrap x = x := IntWalk.i64_in _ (by omega)
        have q6 : IntKind.u8.wrap (m : Int) = (m : Int) := IntWalk.u8_in _ (by omega)
        obtain ⟨X, hX⟩ : ∃ X, (⟨#[UInt8.ofNat m]⟩ : ByteArray) ++ S = X := ⟨_, rfl⟩
        have hadd : ∀ w : World, (Op.stringOp .add (⟨#[UInt8.ofNat m]⟩ : ByteArray) S).run Tryd.prog w = .ok (.string X) w := fun w => by rw [← hX]; exact run_string_add_sum w _ _ (by show 1 + S.size ≤ _; omega)
        rw [hX] at hs2
        have hcv := lx_str1 (wr.alloc (.cells #[.int .u8 (m : Int)] 5)) wr.heap.size m (lx_cell _ _ _)
        have HS2 := Lib.hid hs2
        have HLT := Lib.hid hlt
        have hN2 := hN.alloc (.cells #[.int .u8 (m : Int)] 5)
        by_cases hneg : x < 0
        · have q5 : IntKind.i64.wrap (-x) = -x := IntWalk.i64_in _ (by omega)
          have q7 : IntKind.i64.wrap (48 + -x) = (m : Int) := by rw [IntWalk.i64_in _ (by omega)]; omega
          have q8 : IntKind.i64.wrap (48 - x) = (m : Int) := by rw [IntWalk.i64_in _ (by omega)]; omega
          have dx : decide (x < 0) = true := decide_eq_true hneg
          clear hX hs2 hlt hm hxa hb hqb hN hk
          go_wp2_with fail
          go_roundw
          case rel => exact ⟨q, X, rfl, rfl, HS2, by first | exact hN2 | exact hN2.drewN _⟩
          case measure => simp only [intOf]; exact HLT.out
        · have q7 : IntKind.i64.wrap (48 + x) = (m : Int) := by rw [IntWalk.i64_in _ (by omega)]; omega
          have dx : decide (x < 0) = false := decide_eq_false hneg
          clear hX hs2 hlt hm hxa hb hqb hN hk
          go_wp2_with fail
          go_roundw
          case rel => exact ⟨q, X, rfl, rfl, HS2, by first | exact hN2 | exact hN2.drewN _⟩
          case measure => simp only [intOf]; exact HLT.out

theorem tok_cells (w : World) (a b c d : Value) :
    let W := w.alloc (.cells #[a, b, c, d] 50)
    W.cell? ⟨w.heap.size, 0, none⟩ = some a ∧ W.cell? ⟨w.heap.size, 1, none⟩ = some b ∧ W.cell? ⟨w.heap.size, 2, none⟩ = some c ∧ W.cell? ⟨w.heap.size, 3, none⟩ = some d := by
  refine ⟨?_, ?_, ?_, ?_⟩
  · rw [cell_of_block (heap_alloc_new w _) 0]; simp
  · rw [cell_of_block (heap_alloc_new w _) 1]; simp
  · rw [cell_of_block (heap_alloc_new w _) 2]; simp
  · rw [cell_of_block (heap_alloc_new w _) 3]; simp
def speltS (t : LTok) : ByteArray := ⟨t.spelt.toArray⟩
set_option maxRecDepth 100000 in
set_option maxHeartbeats 4000000 in
theorem spelt_any (w : World) (t : LTok) (aI : Int) (h0 : -9223372036854775808 ≤ t.num) (h1 : t.num ≤ 9223372036854775807) :
    Calls Tryd.prog 24 #[.agg #[.int .u8 t.sort, .string ⟨t.text.toArray⟩, I t.num, I aI]] w fun e w' => e = .returned (.string (speltS t)) ∧ New w w' := by
  obtain ⟨so, tx, nu, at_⟩ := t
  simp only at h0 h1 ⊢
  obtain ⟨T, hT⟩ : ∃ T : ByteArray, (⟨tx.toArray⟩ : ByteArray) = T := ⟨_, rfl⟩
  rw [hT]
  have hd := fun W => digits_any W nu h0 h1
  by_cases h2 : so = 2
  · have e : speltS ⟨so, tx, nu, at_⟩ = itoaS nu := by unfold speltS LTok.spelt itoaS; rw [if_pos h2]
    rw [e]
    subst h2
    obtain ⟨D, hD⟩ : ∃ D, itoaS nu = D := ⟨_, rfl⟩
    rw [hD] at hd ⊢
    clear hT h0 h1 e hD
    go_enter Tryd.func24, Tryd.ntmps24
    go_wp2_with fail
    refine (hd _).mono ?_
    rintro e w2 ⟨rfl, n2⟩
    go_wp2_with fail
    go_ret
    exact ⟨rfl, ((New.refl w).alloc _).trans n2⟩
  · have e : speltS ⟨so, tx, nu, at_⟩ = T := by unfold speltS LTok.spelt; rw [if_neg h2]; exact hT
    rw [e]
    have h2b : (so == 2) = false := by simpa using h2
    clear hT h0 h1 e h2 hd
    go_enter Tryd.func24, Tryd.ntmps24
    go_wp2_with fail
    go_ret
    exact ⟨rfl, (New.refl w).alloc _⟩
-- RIGHT
theorem text_eq (tx : List UInt8) (b : List UInt8) (T : ByteArray) (hT : (⟨tx.toArray⟩ : ByteArray) = T) : (T.toList == b) = decide (tx = b) := by
  subst hT
  rw [ByteArray.toList_eq]
  by_cases h : tx = b
  · subst h; simp
  · rw [decide_eq_false h, beq_eq_false_iff_ne]; simpa using h
def gapS (k : Nat) : ByteArray := ⟨(gapU k).toArray⟩
end Go.Proofs.YtohalcbhckahmaaDoor
