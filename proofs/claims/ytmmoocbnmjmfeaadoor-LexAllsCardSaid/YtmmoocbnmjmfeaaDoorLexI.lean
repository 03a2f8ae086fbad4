/-
  Layer 4: the document's Digits and Spelt; the law's right and between.
-/
import Derived.Test.YtmmoocbnmjmfeaaDoorLexH
import Derived.Laws.BytesArg
namespace Go.Proofs.YtmmoocbnmjmfeaaDoor
open Go Go.RowKit Go.Joins
set_option linter.all false

theorem lx_cell (w : World) (v : Value) (e : TypeId) : (w.alloc (.cells #[v] e)).cell? ⟨w.heap.size, 0, none⟩ = some v := by
  have := (SlAt.lit w #[v] e).at (i := 0) (by simp)
  obtain ⟨b, off, h, hc⟩ := this
  cases h
  simpa using hc
theorem lx_str1 (w : World) (B : Nat) (m : Nat) (hc : w.cell? ⟨B, 0, none⟩ = some (.int .u8 (m : Int))) :
    (convert 34 9 (.slice (some ⟨B, 0, none⟩) 1 1)).run Tryd.prog w = .ok (.string ⟨#[UInt8.ofNat m]⟩) w := by
  have := run_convert_bytes_arg (P := Tryd.prog) w 34 5 Tryd.underlying34 Tryd.underlying5 B 0 1 1 [(m : Int)] rfl (fun i hi => by
    obtain rfl : i = 0 := by omega
    simpa using hc) 9 Tryd.underlying9
  rw [this]
  simp [strOfNums]
/-- How far Digits has come. -/
def DgSt (n k : Int) (S : ByteArray) : Prop := Lib.decDigits n.natAbs = (if k = 0 then [] else Lib.decDigits k.natAbs) ++ S.data.toList ∧ -9223372036854775808 ≤ k ∧ k ≤ 9223372036854775807
theorem DgSt.size {n k : Int} {S : ByteArray} (h : DgSt n k S) (h0 : -9223372036854775808 ≤ n) (h1 : n ≤ 9223372036854775807) : S.size ≤ 19 := by
  have e := congrArg List.length h.1
  have := decDigits_len_le 19 n.natAbs (by omega) (by omega)
  rw [List.length_append, toList_len] at e
  omega
theorem DgSt.step {n k : Int} {S : ByteArray} (h : DgSt n k S) (hk : k ≠ 0) : DgSt n (k.tdiv 10) ((⟨#[UInt8.ofNat (48 + k.natAbs % 10)]⟩ : ByteArray) ++ S) ∧ (k.tdiv 10).natAbs < k.natAbs := by
  have hq : (k.tdiv 10).natAbs = k.natAbs / 10 := by rw [Int.natAbs_tdiv]; rfl
  refine ⟨⟨?_, ?_⟩, by omega⟩
  · rw [h.1, if_neg hk, ByteArray.data_append, Array.toList_append]
    by_cases hz : k.tdiv 10 = 0
    · rw [if_pos hz]
      have hs : k.natAbs < 10 := by rw [hz] at hq; simp at hq; omega
      rw [Lib.decDigits_one hs, show k.natAbs % 10 = k.natAbs by omega]
      try rfl
    · rw [if_neg hz, hq]
      have hb : ¬ k.natAbs < 10 := by
        intro hlt
        apply hz
        have : (k.tdiv 10).natAbs = 0 := by rw [hq]; omega
        omega
      rw [Lib.decDigits, dif_neg hb, List.append_assoc]
      try rfl
  · have h2 := h.2
    rcases Int.le_total 0 k with hp | hp
    · have e : k.tdiv 10 = k / 10 := Int.tdiv_eq_ediv_of_nonneg hp
      rw [e]; omega
    · have h3 : (k.tdiv 10).natAbs ≤ k.natAbs := by omega
      have h5 : (-k).tdiv 10 = (-k) / 10 := Int.tdiv_eq_ediv_of_nonneg (by omega)
      have h6 : (-k).tdiv 10 = -(k.tdiv 10) := Int.neg_tdiv k 10
      omega
theorem DgSt.done {n : Int} {S : ByteArray} (h : DgSt n 0 S) : S.data.toList = Lib.decDigits n.natAbs := by rw [h.1, if_pos rfl]; rfl

set_option maxRecDepth 100000 in
set_option maxHeartbeats 4000000 in
theorem digits_any (w : World) (n : Int) (h0 : -9223372036854775808 ≤ n) (h1 : n ≤ 9223372036854775807) :
    Calls Tryd.prog 33 #[I n] w fun e w' => e = .returned (.string (itoaS n)) ∧ New w w' := by
  by_cases hn : n = 0
  · subst hn
    have e : itoaS 0 = ⟨#[48]⟩ := by
      unfold itoaS
      have : Lib.itoa ((0 : Nat) : Int) = [48] := by rw [Lib.itoa_nonneg, decDigits_zero]
      rw [show (0 : Int) = ((0 : Nat) : Int) from rfl, this]
    rw [e]
    go_enter Tryd.func33, Tryd.ntmps33
    go_wp2_with fail
    go_ret
    exact ⟨rfl, New.refl _⟩
  · have hn0 : (n == 0) = false := by simpa using hn
    have hst : DgSt n n ⟨#[]⟩ := ⟨by rw [if_neg hn]; simp, h0, h1⟩
    have HST := Lib.hid hst
    have HN := Lib.hid hn
    clear hst hn
    go_enter Tryd.func33, Tryd.ntmps33
    go_wp2_with fail
    go_loopw [3, 4] (fun x y wr => ∃ (k : Int) (S : ByteArray), x = .string S ∧ y = I k ∧ Hid (DgSt n k S) ∧ New w wr) (fun _ y _ => (intOf y).natAbs)
    case atStart => exact ⟨n, ⟨#[]⟩, rfl, rfl, HST, New.refl _⟩
    case round =>
      clear HST
      obtain ⟨k, S, rfl, rfl, HS, hN⟩ := hrel
      by_cases hk : k = 0
      · subst hk
        have hS := HS.out.done
        have hsz := HS.out.size h0 h1
        by_cases hneg : n < 0
        · obtain ⟨X, hX⟩ : ∃ X, (⟨#[45]⟩ : ByteArray) ++ S = X := ⟨_, rfl⟩
          have hadd : ∀ w : World, (Op.stringOp .add (⟨#[45]⟩ : ByteArray) S).run Tryd.prog w = .ok (.string X) w := fun w => by rw [← hX]; exact run_string_add_sum w _ _ (by show 1 + S.size ≤ _; omega)
          have HX : Hid (itoaS n = X) := Lib.hid (by
            obtain ⟨j, hj⟩ : ∃ j : Nat, n = -(j : Int) := ⟨n.natAbs, by omega⟩
            rw [← hX]
            apply ByteArray.ext
            apply Array.toList_inj.1
            rw [ByteArray.data_append, Array.toList_append, hS, hj]
            unfold itoaS
            rw [Lib.itoa_neg j (by omega)]
            simp)
          clear hX hS
          go_wp2_with fail
          go_ret
          exact ⟨by rw [HX.out]; rfl, hN⟩
        · have HX : Hid (itoaS n = S) := Lib.hid (by
            obtain ⟨j, hj⟩ : ∃ j : Nat, n = (j : Int) := ⟨n.natAbs, by omega⟩
            apply ByteArray.ext
            apply Array.toList_inj.1
            rw [hS, hj]
            unfold itoaS
            rw [Lib.itoa_nonneg]
            simp)
          clear hS
          go_wp2_with fail
          go_ret
          exact ⟨by rw [HX.out]; rfl, hN⟩
      · have hk0 : (k == 0) = false := by simpa using hk
        obtain ⟨hs2, hlt⟩ := HS.out.step hk
        have hb := HS.out.2
        have hsz := HS.out.size h0 h1
        obtain ⟨m, hm⟩ : ∃ m : Nat, 48 + k.natAbs % 10 = m := ⟨_, rfl⟩
        rw [hm] at hs2
        obtain ⟨q, hq⟩ : ∃ q : Int, k.tdiv 10 = q := ⟨_, rfl⟩
        obtain ⟨x, hx⟩ : ∃ x : Int, k.tmod 10 = x := ⟨_, rfl⟩
        have hxa : x.natAbs = k.natAbs % 10 := by rw [← hx, Int.natAbs_tmod]; rfl
        rw [hq] at hs2 hlt
        have hqb := hs2.2
        have q3 : IntKind.i64.wrap q = q := IntWalk.i64_in _ (by omega)
        have q4 : IntKind.i64.wrap x = x := IntWalk.i64_in _ (by omega)
        have q6 : IntKind.u8.wrap (m : Int) = (m : Int) := IntWalk.u8_in _ (by omega)
        obtain ⟨X, hX⟩ : ∃ X, (⟨#[UInt8.ofNat m]⟩ : ByteArray) ++ S = X := ⟨_, rfl⟩
        have hadd : ∀ w : World, (Op.stringOp .add (⟨#[UInt8.ofNat m]⟩ : ByteArray) S).run Tryd.prog w = .ok (.string X) w := fun w => by rw [← hX]; exact run_string_add_sum w _ _ (by show 1 + S.size ≤ _; omega)
        rw [hX] at hs2
        have hcv := lx_str1 (wr.alloc (.cells #[.int .u8 (m : Int)] 5)) wr.heap.size m (lx_cell _ _ _)
        have HS2 := Lib.hid hs2
        have HLT := Lib.hid hlt
        have hN2 := hN.alloc (.cells #[.int .u8 (m : Int)] 5)
        by_cases hneg : x < 0
        · have q5 : IntKind.i64.wrap (-x) = -x := IntWalk.i64_in _ (by omega)
          have q7 : IntKind.i64.wrap (48 + -x) = (m : Int) := by rw [IntWalk.i64_in _ (by omega)]; omega
          have q8 : IntKind.i64.wrap (48 - x) = (m : Int) := by rw [IntWalk.i64_in _ (by omega)]; omega
          have dx : decide (x < 0) = true := decide_eq_true hneg
          clear hX hs2 hlt hm hxa hb hqb hN hk
          go_wp2_with fail
          go_roundw
          case rel => exact ⟨q, X, rfl, rfl, HS2, by first | exact hN2 | exact hN2.drewN _⟩
          case measure => simp only [intOf]; exact HLT.out
        · have q7 : IntKind.i64.wrap (48 + x) = (m : Int) := by rw [IntWalk.i64_in _ (by omega)]; omega
          have dx : decide (x < 0) = false := decide_eq_false hneg
          clear hX hs2 hlt hm hxa hb hqb hN hk
          go_wp2_with fail
          go_roundw
          case rel => exact ⟨q, X, rfl, rfl, HS2, by first | exact hN2 | exact hN2.drewN _⟩
          case measure => simp only [intOf]; exact HLT.out

theorem tok_cells (w : World) (a b c d : Value) :
    let W := w.alloc (.cells #[a, b, c, d] 33)
    W.cell? ⟨w.heap.size, 0, none⟩ = some a ∧ W.cell? ⟨w.heap.size, 1, none⟩ = some b ∧ W.cell? ⟨w.heap.size, 2, none⟩ = some c ∧ W.cell? ⟨w.heap.size, 3, none⟩ = some d := by
  refine ⟨?_, ?_, ?_, ?_⟩
  · rw [cell_of_block (heap_alloc_new w _) 0]; simp
  · rw [cell_of_block (heap_alloc_new w _) 1]; simp
  · rw [cell_of_block (heap_alloc_new w _) 2]; simp
  · rw [cell_of_block (heap_alloc_new w _) 3]; simp
def speltS (t : LTok) : ByteArray := ⟨t.spelt.toArray⟩
set_option maxRecDepth 100000 in
set_option maxHeartbeats 4000000 in
theorem spelt_any (w : World) (t : LTok) (aI : Int) (h0 : -9223372036854775808 ≤ t.num) (h1 : t.num ≤ 9223372036854775807) :
    Calls Tryd.prog 19 #[.agg #[.int .u8 t.sort, .string ⟨t.text.toArray⟩, I t.num, I aI]] w fun e w' => e = .returned (.string (speltS t)) ∧ New w w' := by
  obtain ⟨so, tx, nu, at_⟩ := t
  simp only at h0 h1 ⊢
  obtain ⟨T, hT⟩ : ∃ T : ByteArray, (⟨tx.toArray⟩ : ByteArray) = T := ⟨_, rfl⟩
  rw [hT]
  have hd := fun W => digits_any W nu h0 h1
  by_cases h2 : so = 2
  · have e : speltS ⟨so, tx, nu, at_⟩ = itoaS nu := by unfold speltS LTok.spelt itoaS; rw [if_pos h2]
    rw [e]
    subst h2
    obtain ⟨D, hD⟩ : ∃ D, itoaS nu = D := ⟨_, rfl⟩
    rw [hD] at hd ⊢
    clear hT h0 h1 e hD
    go_enter Tryd.func19, Tryd.ntmps19
    go_wp2_with fail
    refine (hd _).mono ?_
    rintro e w2 ⟨rfl, n2⟩
    go_wp2_with fail
    go_ret
    exact ⟨rfl, ((New.refl w).alloc _).trans n2⟩
  · have e : speltS ⟨so, tx, nu, at_⟩ = T := by unfold speltS LTok.spelt; rw [if_neg h2]; exact hT
    rw [e]
    have h2b : (so == 2) = false := by simpa using h2
    clear hT h0 h1 e h2 hd
    go_enter Tryd.func19, Tryd.ntmps19
    go_wp2_with fail
    go_ret
    exact ⟨rfl, (New.refl w).alloc _⟩
-- RIGHT
theorem text_eq (tx : List UInt8) (b : List UInt8) (T : ByteArray) (hT : (⟨tx.toArray⟩ : ByteArray) = T) : (T.toList == b) = decide (tx = b) := by
  subst hT
  rw [ByteArray.toList_eq]
  by_cases h : tx = b
  · subst h; simp
  · rw [decide_eq_false h, beq_eq_false_iff_ne]; simpa using h
set_option maxRecDepth 100000 in
set_option maxHeartbeats 8000000 in
theorem right_any (w : World) (t : LTok) (aI : Int) (hs : t.text.length ≤ 9223372036854775807) :
    Calls Tryd.prog 18 #[.agg #[.int .u8 t.sort, .string ⟨t.text.toArray⟩, I t.num, I aI]] w fun e w' => e = .returned (.bool t.right) ∧ New w w' := by
  obtain ⟨so, tx, nu, at_⟩ := t
  simp only at hs ⊢
  obtain ⟨T, hT⟩ : ∃ T : ByteArray, (⟨tx.toArray⟩ : ByteArray) = T := ⟨_, rfl⟩
  have hTs : T.size ≤ 9223372036854775807 := by rw [← hT]; exact hs
  have hTl : T.data.toList = tx := by rw [← hT]
  rw [hT]
  obtain ⟨r, hr⟩ : ∃ r, (LTok.mk so tx nu at_).right = r := ⟨_, rfl⟩
  rw [hr]
  unfold LTok.right at hr
  simp only at hr
  by_cases h1 : so = 1
  · rw [if_pos h1] at hr
    subst h1
    have hn := fun W => rname_any W T hTs
    rw [nameB_eq, hTl] at hn
    by_cases hz : nu = 0
    · subst hz
      rw [decide_eq_true rfl, Bool.true_and] at hr
      rw [hr] at hn
      clear hr hT hTl hs hTs
      go_enter Tryd.func18, Tryd.ntmps18
      go_wp2_with fail
      refine (hn _).mono ?_
      rintro e w2 ⟨rfl, n2⟩
      go_wp2_with fail
      go_ret
      exact ⟨rfl, ((New.refl w).alloc _).trans n2⟩
    · rw [decide_eq_false hz, Bool.false_and] at hr
      subst hr
      have hzb : (nu == 0) = false := by simpa using hz
      clear hT hTl hs hTs hn hz
      go_enter Tryd.func18, Tryd.ntmps18
      go_wp2_with fail
      go_ret
      exact ⟨rfl, (New.refl w).alloc _⟩
  · rw [if_neg h1] at hr
    have h1b : (so == 1) = false := by simpa using h1
    by_cases h2 : so = 2
    · rw [if_pos h2] at hr
      subst h2
      have he : (T.toList == []) = r := by rw [← hr]; exact text_eq tx [] T hT
      clear hr hT hTl hs hTs h1
      cases r with
      | true =>
        go_enter Tryd.func18, Tryd.ntmps18
        go_wp2_with fail
        go_ret
        exact ⟨by first | rfl | simp_all, (New.refl w).alloc _⟩
      | false =>
        go_enter Tryd.func18, Tryd.ntmps18
        go_wp2_with fail
        go_ret
        exact ⟨by first | rfl | simp_all, (New.refl w).alloc _⟩
    · rw [if_neg h2] at hr
      have h2b : (so == 2) = false := by simpa using h2
      by_cases h3 : so = 3
      · rw [if_pos h3] at hr
        subst h3
        by_cases hz : nu = 0
        · subst hz
          rw [decide_eq_true rfl, Bool.true_and] at hr
          unfold markU at hr
          have e0 : (T.toList == [123]) = decide (tx = [123]) := text_eq tx [123] T hT
          by_cases m0 : tx = [123]
          · rw [decide_eq_true m0] at e0
            obtain rfl : r = true := by rw [← hr, decide_eq_true_iff]; simp [m0]
            clear hr hT hTl hs hTs m0
            go_enter Tryd.func18, Tryd.ntmps18
            go_wp2_with fail
            go_ret
            exact ⟨rfl, (New.refl w).alloc _⟩
          rw [decide_eq_false m0] at e0
          have e1 : (T.toList == [125]) = decide (tx = [125]) := text_eq tx [125] T hT
          by_cases m1 : tx = [125]
          · rw [decide_eq_true m1] at e1
            obtain rfl : r = true := by rw [← hr, decide_eq_true_iff]; simp [m1]
            clear hr hT hTl hs hTs m1
            go_enter Tryd.func18, Tryd.ntmps18
            go_wp2_with fail
            go_ret
            exact ⟨rfl, (New.refl w).alloc _⟩
          rw [decide_eq_false m1] at e1
          have e2 : (T.toList == [61]) = decide (tx = [61]) := text_eq tx [61] T hT
          by_cases m2 : tx = [61]
          · rw [decide_eq_true m2] at e2
            obtain rfl : r = true := by rw [← hr, decide_eq_true_iff]; simp [m2]
            clear hr hT hTl hs hTs m2
            go_enter Tryd.func18, Tryd.ntmps18
            go_wp2_with fail
            go_ret
            exact ⟨rfl, (New.refl w).alloc _⟩
          rw [decide_eq_false m2] at e2
          have e3 : (T.toList == [59]) = decide (tx = [59]) := text_eq tx [59] T hT
          by_cases m3 : tx = [59]
          · rw [decide_eq_true m3] at e3
            obtain rfl : r = true := by rw [← hr, decide_eq_true_iff]; simp [m3]
            clear hr hT hTl hs hTs m3
            go_enter Tryd.func18, Tryd.ntmps18
            go_wp2_with fail
            go_ret
            exact ⟨rfl, (New.refl w).alloc _⟩
          rw [decide_eq_false m3] at e3
          have e4 : (T.toList == [46]) = decide (tx = [46]) := text_eq tx [46] T hT
          by_cases m4 : tx = [46]
          · rw [decide_eq_true m4] at e4
            obtain rfl : r = true := by rw [← hr, decide_eq_true_iff]; simp [m4]
            clear hr hT hTl hs hTs m4
            go_enter Tryd.func18, Tryd.ntmps18
            go_wp2_with fail
            go_ret
            exact ⟨rfl, (New.refl w).alloc _⟩
          rw [decide_eq_false m4] at e4
          have e5 : (T.toList == [45, 62]) = decide (tx = [45, 62]) := text_eq tx [45, 62] T hT
          by_cases m5 : tx = [45, 62]
          · rw [decide_eq_true m5] at e5
            obtain rfl : r = true := by rw [← hr, decide_eq_true_iff]; simp [m5]
            clear hr hT hTl hs hTs m5
            go_enter Tryd.func18, Tryd.ntmps18
            go_wp2_with fail
            go_ret
            exact ⟨rfl, (New.refl w).alloc _⟩
          rw [decide_eq_false m5] at e5
          obtain rfl : r = false := by rw [← hr, decide_eq_false_iff_not]; simp [m0, m1, m2, m3, m4, m5]
          clear hr hT hTl hs hTs m0 m1 m2 m3 m4 m5
          go_enter Tryd.func18, Tryd.ntmps18
          go_wp2_with fail
          go_ret
          exact ⟨rfl, (New.refl w).alloc _⟩
        · rw [decide_eq_false hz, Bool.false_and] at hr
          subst hr
          have hzb : (nu == 0) = false := by simpa using hz
          clear hT hTl hs hTs hz
          go_enter Tryd.func18, Tryd.ntmps18
          go_wp2_with fail
          go_ret
          exact ⟨rfl, (New.refl w).alloc _⟩
      · rw [if_neg h3] at hr
        subst hr
        have h3b : (so == 3) = false := by simpa using h3
        clear hT hTl hs hTs h1 h2 h3
        go_enter Tryd.func18, Tryd.ntmps18
        go_wp2_with fail
        go_ret
        exact ⟨rfl, (New.refl w).alloc _⟩
def gapS (k : Nat) : ByteArray := ⟨(gapU k).toArray⟩
set_option maxRecDepth 100000 in
set_option maxHeartbeats 4000000 in
theorem between_any (w : World) (k : Nat) (hk : k ≤ 100000) : Calls Tryd.prog 20 #[I k] w fun e w' => e = .returned (.string (gapS k)) ∧ w' = w := by
  obtain ⟨x, hx⟩ : ∃ x : Int, (k : Int).tmod 5 = x := ⟨_, rfl⟩
  have hxk : x = ((k % 5 : Nat) : Int) := by rw [← hx, Int.tmod_eq_emod_of_nonneg (by omega)]; omega
  have q4 : IntKind.i64.wrap x = x := IntWalk.i64_in _ (by omega)
  by_cases c1 : k % 5 = 1
  · have e : gapS k = ⟨#[10]⟩ := by unfold gapS gapU; rw [if_pos c1]
    have hx1 : x = 1 := by omega
    rw [e]; clear e c1 hxk; subst hx1
    go_enter Tryd.func20, Tryd.ntmps20
    go_wp2_with fail
    go_ret
    exact ⟨rfl, rfl⟩
  by_cases c2 : k % 5 = 2
  · have e : gapS k = ⟨#[9, 32, 13]⟩ := by unfold gapS gapU; rw [if_neg c1, if_pos c2]
    have hx1 : x = 2 := by omega
    rw [e]; clear e c1 c2 hxk; subst hx1
    go_enter Tryd.func20, Tryd.ntmps20
    go_wp2_with fail
    go_ret
    exact ⟨rfl, rfl⟩
  by_cases c3 : k % 5 = 3
  · have e : gapS k = ⟨#[35, 120, 32, 45, 49, 32, 35, 10]⟩ := by unfold gapS gapU; rw [if_neg c1, if_neg c2, if_pos c3]
    have hx1 : x = 3 := by omega
    rw [e]; clear e c1 c2 c3 hxk; subst hx1
    go_enter Tryd.func20, Tryd.ntmps20
    go_wp2_with fail
    go_ret
    exact ⟨rfl, rfl⟩
  have e : gapS k = ⟨#[32]⟩ := by unfold gapS gapU; rw [if_neg c1, if_neg c2, if_neg c3]
  have b1 : (x == 1) = false := by simpa using fun h : x = 1 => c1 (by omega)
  have b2 : (x == 2) = false := by simpa using fun h : x = 2 => c2 (by omega)
  have b3 : (x == 3) = false := by simpa using fun h : x = 3 => c3 (by omega)
  rw [e]; clear e c1 c2 c3 hxk
  go_enter Tryd.func20, Tryd.ntmps20
  go_wp2_with fail
  go_ret
  exact ⟨rfl, rfl⟩
end Go.Proofs.YtmmoocbnmjmfeaaDoor
