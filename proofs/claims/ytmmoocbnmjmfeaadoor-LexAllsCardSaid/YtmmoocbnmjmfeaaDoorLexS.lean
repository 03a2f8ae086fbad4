/-
  Layer 4, the document's side: one token.
-/
import Derived.Test.YtmmoocbnmjmfeaaDoorLexR
namespace Go.Proofs.YtmmoocbnmjmfeaaDoor
open Go Go.RowKit Go.Joins
set_option linter.all false

/-- What the document's token answers. -/
def RTokAns (w : World) (s : ByteArray) (k : Nat) (e : Ending) (w' : World) : Prop :=
  (match tokR (s.data.toList.drop k) with
    | .good so tx nu len => e = .returned (.tuple #[.agg #[.int .u8 so, .string ⟨tx.toArray⟩, I nu, I k], I ((k + len : Nat) : Int), I 0])
    | .bad c => e = .returned (.tuple #[.agg #[.int .u8 0, .string ⟨#[]⟩, I 0, I 0], I 0, I c])) ∧ New w w'
theorem rgood {w w' : World} {s : ByteArray} {k : Nat} {so nu : Int} {tx : List UInt8} {len : Nat} {T : ByteArray} {z : Nat} (ht : tokR (s.data.toList.drop k) = .good so tx nu len) (hT : (⟨tx.toArray⟩ : ByteArray) = T) (hz : k + len = z) (h : New w w') :
    RTokAns w s k (.returned (.tuple #[.agg #[.int .u8 so, .string T, I nu, I k], I (z : Int), I 0])) w' := by
  subst hT; subst hz
  unfold RTokAns; rw [ht]; exact ⟨rfl, h⟩
theorem rbad {w w' : World} {s : ByteArray} {k : Nat} {c : Int} (ht : tokR (s.data.toList.drop k) = .bad c) (h : New w w') : RTokAns w s k (.returned (.tuple #[.agg #[.int .u8 0, .string ⟨#[]⟩, I 0, I 0], I 0, I c])) w' := by
  unfold RTokAns; rw [ht]; exact ⟨rfl, h⟩
set_option maxRecDepth 100000 in
set_option maxHeartbeats 8000000 in
theorem rtok_word_i (w : World) (s : ByteArray) (k j : Nat) (hj : k + 1 = j) (hk : k < s.size) (hs : s.size ≤ 1048576) (hin : j < s.size) (hl : isLet (byteAt s k) = true) :
    Calls Tryd.prog 26 #[.string s, I k] w (RTokAns w s k) := by
  obtain ⟨PO, hPO⟩ : ∃ PO, PO = RTokAns w s k := ⟨_, rfl⟩
  rw [← hPO]
  have HPO := Lib.hid hPO
  have hdr := dropAt' s k hk
  have hlen := toList_len s
  have h255 := (byteAt s k).toNat_lt
  have hkI : (k : Int) < (s.size : Int) := by omega
  have hw1 : IntKind.i64.wrap ((k : Int) + 1) = (j : Int) := by rw [IntWalk.i64_in _ (by omega)]; omega
  have hbk : byteAt s k = s[k] := byteAt_in s k hk
  have hjI : (j : Int) < (s.size : Int) := by omega
  have hjs : j ≤ s.size := by omega
  have hb1 : byteAt s j = s[j] := byteAt_in s j hin
  rw [hj] at hdr
  obtain ⟨L, hL⟩ : ∃ L, s.data.toList.drop j = L := ⟨_, rfl⟩
  have hLlen : L.length = s.size - j := by rw [← hL, List.length_drop, hlen]
  have hLat : ∀ t (ht : t < s.size), j ≤ t → L[t - j]? = some s[t] := fun t ht h0 => by
    rw [← hL, List.getElem?_drop, show j + (t - j) = t by omega, Array.getElem?_toList]
    exact Array.getElem?_eq_getElem ht
  have hL0 : L.headD 0 = byteAt s j := by rw [← hL]; rfl
  rw [hL] at hdr
  have HL := Lib.hid hLlen
  have HAT := Lib.hid hLat
  have HJ := Lib.hid hj
  have HDR := Lib.hid hdr
  clear hPO hL hLlen hLat hlen
  have hins : isIns (byteAt s k) = true := (isIns_iff _).2 (Or.inl hl)
  have HTK : Hid (tokR (s.data.toList.drop k) = if 16 < (L.takeWhile isIns).length + 1 then .bad 42 else .good 1 (byteAt s k :: L.takeWhile isIns) 0 ((L.takeWhile isIns).length + 1)) := Lib.hid (by
    rw [hdr, tokR_cons, if_pos hl, List.takeWhile_cons, if_pos hins]; rfl)
  have hlet := fun W => rlet_any W ((byteAt s k).toNat : Int)
  have e1 : letterB ((byteAt s k).toNat : Int) = true := hl
  rw [e1, hbk] at hlet
  clear hins hdr e1 hl hb1 hL0 hj hbk
  go_enter Tryd.func26, Tryd.ntmps26
  go_wp2_with fail
  refine (hlet _).mono ?_
  rintro e w2 ⟨rfl, rfl⟩
  go_wp2_with fail
  go_loopw [9] (fun x wr => ∃ t : Nat, j ≤ t ∧ t ≤ s.size ∧ x = .int .i64 t ∧ Hid ((L.take (t - j)).all isIns = true) ∧ wr = w.alloc (.cells #[.int .u8 0, .string ⟨#[]⟩, I 0, I 0] 33)) (fun x _ => s.size - (intOf x).toNat)
  case atStart => exact ⟨j, Nat.le_refl _, hjs, by rfl, Lib.hid (by rw [Nat.sub_self]; rfl), rfl⟩
  case round =>
    obtain ⟨t, ht1, ht2, rfl, HA, rfl⟩ := hrel
    by_cases ht3 : t < s.size
    · have hjj : True := trivial
      have hi := fun W => rins_any W (s[t].toNat : Int)
      have hat := HAT.out t ht3 ht1
      have h256 : s[t].toNat < 256 := s[t].toNat_lt
      have htI : (t : Int) < (s.size : Int) := by omega
      have hwt : IntKind.i64.wrap ((t : Int) + 1) = (t : Int) + 1 := IntWalk.i64_in _ (by omega)
      have hfold : insideB (s[t].toNat : Int) = isIns s[t] := rfl
      rw [hfold] at hi
      clear hfold
      cases e2 : isIns s[t] with
      | true =>
        rw [e2] at hi
        have HA2 : Hid ((L.take (t + 1 - j)).all isIns = true) := Lib.hid (by
          rw [show t + 1 - j = (t - j) + 1 by omega, List.take_succ, hat, List.all_append, HA.out]
          simp [e2])
        clear e2 hat
        go_wp2_with fail
        refine (hi _).mono ?_
        rintro e w2 ⟨rfl, rfl⟩
        go_wp2_with fail
        go_roundw
        case rel => exact ⟨t + 1, by omega, by omega, by go_num, HA2, by first | rfl | trivial⟩
        case measure => simp [intOf]; omega
      | false =>
        rw [e2] at hi
        have HSP : Hid ((L.takeWhile isIns).length = t - j) := Lib.hid (takeWhile_cut _ _ _ HA.out (fun b hb => by rw [hat] at hb; cases hb; exact e2) (by rw [HL.out]; omega))
        clear e2 hat
        have hkt : (k : Int) ≤ (t : Int) := by have := HJ.out; omega
        have hts : (t : Int) ≤ (s.size : Int) := by omega
        have hsub : IntKind.i64.wrap ((t : Int) - (k : Int)) = (t : Int) - (k : Int) := IntWalk.i64_in _ (by omega)
        by_cases h16 : 16 < t - k
        · have HB : Hid (tokR (s.data.toList.drop k) = .bad 42) := Lib.hid (by rw [HTK.out, HSP.out, if_pos (by have := HJ.out; omega)])
          have hd16 : decide (16 < (t : Int) - (k : Int)) = true := decide_eq_true (by omega)
          go_wp2_with fail
          refine (hi _).mono ?_
          rintro e w2 ⟨rfl, rfl⟩
          go_wp2_with fail
          refine bodyPost_ret (v := .tuple #[.agg #[.int .u8 0, .string ⟨#[]⟩, I 0, I 0], I 0, I 42]) (by simp [results, Tryd.results26, go_sem]) rfl ?_
          rw [HPO.out]
          exact rbad HB.out ((New.refl w).alloc _)
        · obtain ⟨Wd, hWd⟩ : ∃ Wd, s.extract k t = Wd := ⟨_, rfl⟩
          have HWL : Hid ((⟨(byteAt s k :: L.takeWhile isIns).toArray⟩ : ByteArray) = Wd) := Lib.hid (by
            apply ByteArray.ext
            apply Array.toList_inj.1
            rw [← hWd, extract_list, HDR.out, show t - k = (t - j) + 1 by have := HJ.out; omega, List.take_succ_cons, ← HSP.out, takeWhile_take])
          have HG : Hid (tokR (s.data.toList.drop k) = .good 1 (byteAt s k :: L.takeWhile isIns) 0 ((L.takeWhile isIns).length + 1)) := Lib.hid (by rw [HTK.out, if_neg (by rw [HSP.out]; have := HJ.out; omega)])
          have hd16 : decide (16 < (t : Int) - (k : Int)) = false := decide_eq_false (by omega)
          go_wp2_with fail
          refine (hi _).mono ?_
          rintro e w2 ⟨rfl, rfl⟩
          go_wp2_with fail
          refine bodyPost_ret (v := .tuple #[.agg #[.int .u8 1, .string Wd, I 0, I k], I t, I 0]) (by simp [results, Tryd.results26, go_sem, hWd]) rfl ?_
          rw [HPO.out]
          exact rgood HG.out HWL.out (by rw [HSP.out]; have := HJ.out; omega) ((New.refl w).alloc _)
    · have HSP : Hid ((L.takeWhile isIns).length = t - j) := Lib.hid (takeWhile_cut _ _ _ HA.out (fun b hb => by rw [List.getElem?_eq_none (by rw [HL.out]; omega)] at hb; cases hb) (by rw [HL.out]; omega))
      have htI : ¬ (t : Int) < (s.size : Int) := by omega
      have hkt : (k : Int) ≤ (t : Int) := by have := HJ.out; omega
      have hts : (t : Int) ≤ (s.size : Int) := by omega
      have hsub : IntKind.i64.wrap ((t : Int) - (k : Int)) = (t : Int) - (k : Int) := IntWalk.i64_in _ (by omega)
      by_cases h16 : 16 < t - k
      · have HB : Hid (tokR (s.data.toList.drop k) = .bad 42) := Lib.hid (by rw [HTK.out, HSP.out, if_pos (by have := HJ.out; omega)])
        have hd16 : decide (16 < (t : Int) - (k : Int)) = true := decide_eq_true (by omega)
        go_wp2_with fail
        refine bodyPost_ret (v := .tuple #[.agg #[.int .u8 0, .string ⟨#[]⟩, I 0, I 0], I 0, I 42]) (by simp [results, Tryd.results26, go_sem]) rfl ?_
        rw [HPO.out]
        exact rbad HB.out ((New.refl w).alloc _)
      · obtain ⟨Wd, hWd⟩ : ∃ Wd, s.extract k t = Wd := ⟨_, rfl⟩
        have HWL : Hid ((⟨(byteAt s k :: L.takeWhile isIns).toArray⟩ : ByteArray) = Wd) := Lib.hid (by
          apply ByteArray.ext
          apply Array.toList_inj.1
          rw [← hWd, extract_list, HDR.out, show t - k = (t - j) + 1 by have := HJ.out; omega, List.take_succ_cons, ← HSP.out, takeWhile_take])
        have HG : Hid (tokR (s.data.toList.drop k) = .good 1 (byteAt s k :: L.takeWhile isIns) 0 ((L.takeWhile isIns).length + 1)) := Lib.hid (by rw [HTK.out, if_neg (by rw [HSP.out]; have := HJ.out; omega)])
        have hd16 : decide (16 < (t : Int) - (k : Int)) = false := decide_eq_false (by omega)
        go_wp2_with fail
        refine bodyPost_ret (v := .tuple #[.agg #[.int .u8 1, .string Wd, I 0, I k], I t, I 0]) (by simp [results, Tryd.results26, go_sem, hWd]) rfl ?_
        rw [HPO.out]
        exact rgood HG.out HWL.out (by rw [HSP.out]; have := HJ.out; omega) ((New.refl w).alloc _)
set_option maxRecDepth 100000 in
set_option maxHeartbeats 8000000 in
theorem rtok_word_o (w : World) (s : ByteArray) (k j : Nat) (hj : k + 1 = j) (hk : k < s.size) (hs : s.size ≤ 1048576) (hin : ¬ j < s.size) (hl : isLet (byteAt s k) = true) :
    Calls Tryd.prog 26 #[.string s, I k] w (RTokAns w s k) := by
  obtain ⟨PO, hPO⟩ : ∃ PO, PO = RTokAns w s k := ⟨_, rfl⟩
  rw [← hPO]
  have HPO := Lib.hid hPO
  have hdr := dropAt' s k hk
  have hlen := toList_len s
  have h255 := (byteAt s k).toNat_lt
  have hkI : (k : Int) < (s.size : Int) := by omega
  have hw1 : IntKind.i64.wrap ((k : Int) + 1) = (j : Int) := by rw [IntWalk.i64_in _ (by omega)]; omega
  have hbk : byteAt s k = s[k] := byteAt_in s k hk
  have hjI : ¬ (j : Int) < (s.size : Int) := by omega
  have hjs : j ≤ s.size := by omega
  have hb1 : byteAt s j = 0 := byteAt_out s j hin
  rw [hj] at hdr
  obtain ⟨L, hL⟩ : ∃ L, s.data.toList.drop j = L := ⟨_, rfl⟩
  have hLlen : L.length = s.size - j := by rw [← hL, List.length_drop, hlen]
  have hLat : ∀ t (ht : t < s.size), j ≤ t → L[t - j]? = some s[t] := fun t ht h0 => by
    rw [← hL, List.getElem?_drop, show j + (t - j) = t by omega, Array.getElem?_toList]
    exact Array.getElem?_eq_getElem ht
  have hL0 : L.headD 0 = byteAt s j := by rw [← hL]; rfl
  rw [hL] at hdr
  have HL := Lib.hid hLlen
  have HAT := Lib.hid hLat
  have HJ := Lib.hid hj
  have HDR := Lib.hid hdr
  clear hPO hL hLlen hLat hlen
  have hins : isIns (byteAt s k) = true := (isIns_iff _).2 (Or.inl hl)
  have HTK : Hid (tokR (s.data.toList.drop k) = if 16 < (L.takeWhile isIns).length + 1 then .bad 42 else .good 1 (byteAt s k :: L.takeWhile isIns) 0 ((L.takeWhile isIns).length + 1)) := Lib.hid (by
    rw [hdr, tokR_cons, if_pos hl, List.takeWhile_cons, if_pos hins]; rfl)
  have hlet := fun W => rlet_any W ((byteAt s k).toNat : Int)
  have e1 : letterB ((byteAt s k).toNat : Int) = true := hl
  rw [e1, hbk] at hlet
  clear hins hdr e1 hl hb1 hL0 hj hbk
  go_enter Tryd.func26, Tryd.ntmps26
  go_wp2_with fail
  refine (hlet _).mono ?_
  rintro e w2 ⟨rfl, rfl⟩
  go_wp2_with fail
  go_loopw [9] (fun x wr => ∃ t : Nat, j ≤ t ∧ t ≤ s.size ∧ x = .int .i64 t ∧ Hid ((L.take (t - j)).all isIns = true) ∧ wr = w.alloc (.cells #[.int .u8 0, .string ⟨#[]⟩, I 0, I 0] 33)) (fun x _ => s.size - (intOf x).toNat)
  case atStart => exact ⟨j, Nat.le_refl _, hjs, by rfl, Lib.hid (by rw [Nat.sub_self]; rfl), rfl⟩
  case round =>
    obtain ⟨t, ht1, ht2, rfl, HA, rfl⟩ := hrel
    by_cases ht3 : t < s.size
    · exact absurd ht3 (by omega)
    · have HSP : Hid ((L.takeWhile isIns).length = t - j) := Lib.hid (takeWhile_cut _ _ _ HA.out (fun b hb => by rw [List.getElem?_eq_none (by rw [HL.out]; omega)] at hb; cases hb) (by rw [HL.out]; omega))
      have htI : ¬ (t : Int) < (s.size : Int) := by omega
      have hkt : (k : Int) ≤ (t : Int) := by have := HJ.out; omega
      have hts : (t : Int) ≤ (s.size : Int) := by omega
      have hsub : IntKind.i64.wrap ((t : Int) - (k : Int)) = (t : Int) - (k : Int) := IntWalk.i64_in _ (by omega)
      by_cases h16 : 16 < t - k
      · have HB : Hid (tokR (s.data.toList.drop k) = .bad 42) := Lib.hid (by rw [HTK.out, HSP.out, if_pos (by have := HJ.out; omega)])
        have hd16 : decide (16 < (t : Int) - (k : Int)) = true := decide_eq_true (by omega)
        go_wp2_with fail
        refine bodyPost_ret (v := .tuple #[.agg #[.int .u8 0, .string ⟨#[]⟩, I 0, I 0], I 0, I 42]) (by simp [results, Tryd.results26, go_sem]) rfl ?_
        rw [HPO.out]
        exact rbad HB.out ((New.refl w).alloc _)
      · obtain ⟨Wd, hWd⟩ : ∃ Wd, s.extract k t = Wd := ⟨_, rfl⟩
        have HWL : Hid ((⟨(byteAt s k :: L.takeWhile isIns).toArray⟩ : ByteArray) = Wd) := Lib.hid (by
          apply ByteArray.ext
          apply Array.toList_inj.1
          rw [← hWd, extract_list, HDR.out, show t - k = (t - j) + 1 by have := HJ.out; omega, List.take_succ_cons, ← HSP.out, takeWhile_take])
        have HG : Hid (tokR (s.data.toList.drop k) = .good 1 (byteAt s k :: L.takeWhile isIns) 0 ((L.takeWhile isIns).length + 1)) := Lib.hid (by rw [HTK.out, if_neg (by rw [HSP.out]; have := HJ.out; omega)])
        have hd16 : decide (16 < (t : Int) - (k : Int)) = false := decide_eq_false (by omega)
        go_wp2_with fail
        refine bodyPost_ret (v := .tuple #[.agg #[.int .u8 1, .string Wd, I 0, I k], I t, I 0]) (by simp [results, Tryd.results26, go_sem, hWd]) rfl ?_
        rw [HPO.out]
        exact rgood HG.out HWL.out (by rw [HSP.out]; have := HJ.out; omega) ((New.refl w).alloc _)
theorem tok_stored {w : World} {R : Nat} {x0 x1 x2 x3 : Value} (h : w.heap[R]? = some (.cells #[x0, x1, x2, x3] 33 (0, 0))) (u0 u1 u2 u3 : Value) :
    ((((w.setCell ⟨R, 0, none⟩ u0).setCell ⟨R, 1, none⟩ u1).setCell ⟨R, 2, none⟩ u2).setCell ⟨R, 3, none⟩ u3).heap[R]? = some (.cells #[u0, u1, u2, u3] 33 (0, 0)) ∧ Keeps (fun k => k = R) w ((((w.setCell ⟨R, 0, none⟩ u0).setCell ⟨R, 1, none⟩ u1).setCell ⟨R, 2, none⟩ u2).setCell ⟨R, 3, none⟩ u3) := by
  have h1 := block_setCell (i := 0) h u0
  have h2 := block_setCell (i := 1) h1 u1
  have h3 := block_setCell (i := 2) h2 u2
  have h4 := block_setCell (i := 3) h3 u3
  refine ⟨by rw [h4]; simp, ?_⟩
  have k1 : Keeps (fun k => k = R) w (w.setCell ⟨R, 0, none⟩ u0) := Keeps.setCell w _ _ rfl
  have k2 : Keeps (fun k => k = R) (w.setCell ⟨R, 0, none⟩ u0) ((w.setCell ⟨R, 0, none⟩ u0).setCell ⟨R, 1, none⟩ u1) := Keeps.setCell _ _ _ rfl
  have k3 : Keeps (fun k => k = R) ((w.setCell ⟨R, 0, none⟩ u0).setCell ⟨R, 1, none⟩ u1) (((w.setCell ⟨R, 0, none⟩ u0).setCell ⟨R, 1, none⟩ u1).setCell ⟨R, 2, none⟩ u2) := Keeps.setCell _ _ _ rfl
  have k4 : Keeps (fun k => k = R) (((w.setCell ⟨R, 0, none⟩ u0).setCell ⟨R, 1, none⟩ u1).setCell ⟨R, 2, none⟩ u2) ((((w.setCell ⟨R, 0, none⟩ u0).setCell ⟨R, 1, none⟩ u1).setCell ⟨R, 2, none⟩ u2).setCell ⟨R, 3, none⟩ u3) := Keeps.setCell _ _ _ rfl
  exact ((k1.trans k2 (fun _ _ h => h)).trans k3 (fun _ _ h => h)).trans k4 (fun _ _ h => h)
theorem tokb_cells {w : World} {R : Nat} {x0 x1 x2 x3 : Value} (h : w.heap[R]? = some (.cells #[x0, x1, x2, x3] 33 (0, 0))) :
    w.cell? ⟨R, 0, none⟩ = some x0 ∧ w.cell? ⟨R, 1, none⟩ = some x1 ∧ w.cell? ⟨R, 2, none⟩ = some x2 ∧ w.cell? ⟨R, 3, none⟩ = some x3 ∧ w.frozen? ⟨R, 0, none⟩ = false ∧ w.frozen? ⟨R, 1, none⟩ = false ∧ w.frozen? ⟨R, 2, none⟩ = false ∧ w.frozen? ⟨R, 3, none⟩ = false ∧ R < w.heap.size := by
  refine ⟨?_, ?_, ?_, ?_, unfrozen_of_block h 0, unfrozen_of_block h 1, unfrozen_of_block h 2, unfrozen_of_block h 3, (Array.getElem?_eq_some_iff.1 h).1⟩
  · rw [cell_of_block h 0]; simp
  · rw [cell_of_block h 1]; simp
  · rw [cell_of_block h 2]; simp
  · rw [cell_of_block h 3]; simp
set_option maxRecDepth 100000 in
set_option maxHeartbeats 8000000 in
theorem rtok_digit_i (w : World) (s : ByteArray) (k j : Nat) (hj : k + 1 = j) (hk : k < s.size) (hs : s.size ≤ 1048576) (hin : j < s.size) (hl : isLet (byteAt s k) = false) (hd : isDig (byteAt s k) = true) :
    Calls Tryd.prog 26 #[.string s, I k] w (RTokAns w s k) := by
  obtain ⟨PO, hPO⟩ : ∃ PO, PO = RTokAns w s k := ⟨_, rfl⟩
  rw [← hPO]
  have HPO := Lib.hid hPO
  have hdr := dropAt' s k hk
  have hlen := toList_len s
  have h255 := (byteAt s k).toNat_lt
  have hkI : (k : Int) < (s.size : Int) := by omega
  have hw1 : IntKind.i64.wrap ((k : Int) + 1) = (j : Int) := by rw [IntWalk.i64_in _ (by omega)]; omega
  have hbk : byteAt s k = s[k] := byteAt_in s k hk
  have hjI : (j : Int) < (s.size : Int) := by omega
  have hjs : j ≤ s.size := by omega
  have hb1 : byteAt s j = s[j] := byteAt_in s j hin
  rw [hj] at hdr
  obtain ⟨L, hL⟩ : ∃ L, s.data.toList.drop j = L := ⟨_, rfl⟩
  have hLlen : L.length = s.size - j := by rw [← hL, List.length_drop, hlen]
  have hLat : ∀ t (ht : t < s.size), j ≤ t → L[t - j]? = some s[t] := fun t ht h0 => by
    rw [← hL, List.getElem?_drop, show j + (t - j) = t by omega, Array.getElem?_toList]
    exact Array.getElem?_eq_getElem ht
  have hL0 : L.headD 0 = byteAt s j := by rw [← hL]; rfl
  rw [hL] at hdr
  have HL := Lib.hid hLlen
  have HAT := Lib.hid hLat
  have HJ := Lib.hid hj
  have HDR := Lib.hid hdr
  clear hPO hL hLlen hLat hlen
  have hc : isDig (byteAt s k) = true ∨ ((byteAt s k).toNat = 45 ∧ isDig (L.headD 0) = true) := Or.inl hd
  have HC := Lib.hid hc
  have HT1 : Hid (∀ v, numB (byteAt s k :: L.takeWhile isDig) = some v → tokR (s.data.toList.drop k) = .good 2 [] v ((L.takeWhile isDig).length + 1)) := Lib.hid (by
    intro v hv
    rw [hdr, tokR_cons, if_neg (by rw [hl]; simp), if_pos hc, hv])
  have HT2 : Hid (numB (byteAt s k :: L.takeWhile isDig) = none → tokR (s.data.toList.drop k) = .bad 41) := Lib.hid (by
    intro hv
    rw [hdr, tokR_cons, if_neg (by rw [hl]; simp), if_pos hc, hv])
  have hlet := fun W => rlet_any W ((byteAt s k).toNat : Int)
  have hdig := fun W => rdig_any W ((byteAt s k).toNat : Int)
  have e1 : letterB ((byteAt s k).toNat : Int) = false := hl
  rw [e1, hbk] at hlet
  have e2 : digitB ((byteAt s k).toNat : Int) = true := hd
  rw [e2, hbk] at hdig
  clear hc hdr e1 e2 hl hd hb1 hL0 hj hbk
  go_enter Tryd.func26, Tryd.ntmps26
  go_wp2_with fail
  refine (hlet _).mono ?_
  rintro e w2 ⟨rfl, rfl⟩
  go_wp2_with fail
  refine (hdig _).mono ?_
  rintro e w2 ⟨rfl, rfl⟩
  go_wp2_with fail
  go_loopw [9] (fun x wr => ∃ t : Nat, j ≤ t ∧ t ≤ s.size ∧ x = .int .i64 t ∧ Hid ((L.take (t - j)).all isDig = true) ∧ wr = w.alloc (.cells #[.int .u8 0, .string ⟨#[]⟩, I 0, I 0] 33)) (fun x _ => s.size - (intOf x).toNat)
  case atStart => exact ⟨j, Nat.le_refl _, hjs, by rfl, Lib.hid (by rw [Nat.sub_self]; rfl), rfl⟩
  case round =>
    obtain ⟨t, ht1, ht2, rfl, HA, rfl⟩ := hrel
    by_cases ht3 : t < s.size
    · have hjj : True := trivial
      have hi := fun W => rdig_any W (s[t].toNat : Int)
      have hat := HAT.out t ht3 ht1
      have h256 : s[t].toNat < 256 := s[t].toNat_lt
      have htI : (t : Int) < (s.size : Int) := by omega
      have hwt : IntKind.i64.wrap ((t : Int) + 1) = (t : Int) + 1 := IntWalk.i64_in _ (by omega)
      have hfold : digitB (s[t].toNat : Int) = isDig s[t] := rfl
      rw [hfold] at hi
      clear hfold
      cases e2 : isDig s[t] with
      | true =>
        rw [e2] at hi
        have HA2 : Hid ((L.take (t + 1 - j)).all isDig = true) := Lib.hid (by
          rw [show t + 1 - j = (t - j) + 1 by omega, List.take_succ, hat, List.all_append, HA.out]
          simp [e2])
        clear e2 hat
        go_wp2_with fail
        refine (hi _).mono ?_
        rintro e w2 ⟨rfl, rfl⟩
        go_wp2_with fail
        go_roundw
        case rel => exact ⟨t + 1, by omega, by omega, by go_num, HA2, by first | rfl | trivial⟩
        case measure => simp [intOf]; omega
      | false =>
        rw [e2] at hi
        have HSP : Hid ((L.takeWhile isDig).length = t - j) := Lib.hid (takeWhile_cut _ _ _ HA.out (fun b hb => by rw [hat] at hb; cases hb; exact e2) (by rw [HL.out]; omega))
        clear e2 hat
        have hkt : (k : Int) ≤ (t : Int) := by have := HJ.out; omega
        have hts : (t : Int) ≤ (s.size : Int) := by omega
        obtain ⟨Wd, hWd⟩ : ∃ Wd, s.extract k t = Wd := ⟨_, rfl⟩
        have hWl : Wd.data.toList = byteAt s k :: L.takeWhile isDig := by
          rw [← hWd, extract_list, HDR.out, show t - k = (t - j) + 1 by have := HJ.out; omega, List.take_succ_cons, ← HSP.out, takeWhile_take]
        have hWs : Wd.size ≤ 1048577 := by rw [← toList_len, hWl, List.length_cons, HSP.out]; omega
        have hnum := fun W => rnum_any W Wd (byteAt s k) L hWl HC.out hWs
        have HZ : Hid (k + ((L.takeWhile isDig).length + 1) = t) := Lib.hid (by rw [HSP.out]; have := HJ.out; omega)
        clear hWl hWs
        go_wp2_with fail
        refine (hi _).mono ?_
        rintro e w2 ⟨rfl, rfl⟩
        go_wp2_with fail
        refine (hnum _).mono ?_
        rintro e w3 ⟨hm, n3⟩
        have hb3 := Keeps.heap n3 (heap_alloc_new w (.cells #[.int .u8 0, .string ⟨#[]⟩, I 0, I 0] 33)) (fun h => h)
        obtain ⟨r0, r1, r2, r3, f0, f1, f2, f3, hBB⟩ := tokb_cells hb3
        obtain ⟨nb, hnb⟩ : ∃ nb, numB (byteAt s k :: L.takeWhile isDig) = nb := ⟨_, rfl⟩
        rw [hnb] at hm
        cases nb with
        | some v =>
          simp only at hm
          subst hm
          obtain ⟨hst, kst⟩ := tok_stored hb3 (.int .u8 2) (.string ⟨#[]⟩) (I v) (I k)
          obtain ⟨x0, x1, x2, x3, y0, y1, y2, y3, hXX⟩ := tokb_cells hst
          have HF : Hid (PO (.returned (.tuple #[.agg #[.int .u8 2, .string ⟨#[]⟩, I v, I k], I t, I 0])) ((((w3.setCell ⟨w.heap.size, 0, none⟩ (.int .u8 2)).setCell ⟨w.heap.size, 1, none⟩ (.string ⟨#[]⟩)).setCell ⟨w.heap.size, 2, none⟩ (I v)).setCell ⟨w.heap.size, 3, none⟩ (I k))) := Lib.hid (by
            rw [HPO.out]
            exact rgood (HT1.out v hnb) rfl HZ.out (New.keeps (((New.refl w).alloc _).trans n3) kst (fun i hi hx => by omega)))
          clear hst kst hb3 n3 hnb
          go_wp2_with fail
          refine bodyPost_ret (v := .tuple #[.agg #[.int .u8 2, .string ⟨#[]⟩, I v, I k], I t, I 0]) (by simp [results, Tryd.results26, go_sem, x0, x1, x2, x3, y0, y1, y2, y3, hXX]) rfl ?_
          exact HF.out
        | none =>
          simp only at hm
          subst hm
          obtain ⟨hst, kst⟩ := tok_stored hb3 (.int .u8 0) (.string ⟨#[]⟩) (I 0) (I 0)
          obtain ⟨x0, x1, x2, x3, y0, y1, y2, y3, hXX⟩ := tokb_cells hst
          have HF : Hid (PO (.returned (.tuple #[.agg #[.int .u8 0, .string ⟨#[]⟩, I 0, I 0], I 0, I 41])) ((((w3.setCell ⟨w.heap.size, 0, none⟩ (.int .u8 0)).setCell ⟨w.heap.size, 1, none⟩ (.string ⟨#[]⟩)).setCell ⟨w.heap.size, 2, none⟩ (I 0)).setCell ⟨w.heap.size, 3, none⟩ (I 0))) := Lib.hid (by
            rw [HPO.out]
            exact rbad (HT2.out hnb) (New.keeps (((New.refl w).alloc _).trans n3) kst (fun i hi hx => by omega)))
          clear hst kst hb3 n3 hnb
          go_wp2_with fail
          refine bodyPost_ret (v := .tuple #[.agg #[.int .u8 0, .string ⟨#[]⟩, I 0, I 0], I 0, I 41]) (by simp [results, Tryd.results26, go_sem, x0, x1, x2, x3, y0, y1, y2, y3, hXX]) rfl ?_
          exact HF.out
    · have HSP : Hid ((L.takeWhile isDig).length = t - j) := Lib.hid (takeWhile_cut _ _ _ HA.out (fun b hb => by rw [List.getElem?_eq_none (by rw [HL.out]; omega)] at hb; cases hb) (by rw [HL.out]; omega))
      have htI : ¬ (t : Int) < (s.size : Int) := by omega
      have hkt : (k : Int) ≤ (t : Int) := by have := HJ.out; omega
      have hts : (t : Int) ≤ (s.size : Int) := by omega
      obtain ⟨Wd, hWd⟩ : ∃ Wd, s.extract k t = Wd := ⟨_, rfl⟩
      have hWl : Wd.data.toList = byteAt s k :: L.takeWhile isDig := by
        rw [← hWd, extract_list, HDR.out, show t - k = (t - j) + 1 by have := HJ.out; omega, List.take_succ_cons, ← HSP.out, takeWhile_take]
      have hWs : Wd.size ≤ 1048577 := by rw [← toList_len, hWl, List.length_cons, HSP.out]; omega
      have hnum := fun W => rnum_any W Wd (byteAt s k) L hWl HC.out hWs
      have HZ : Hid (k + ((L.takeWhile isDig).length + 1) = t) := Lib.hid (by rw [HSP.out]; have := HJ.out; omega)
      clear hWl hWs
      go_wp2_with fail
      refine (hnum _).mono ?_
      rintro e w3 ⟨hm, n3⟩
      have hb3 := Keeps.heap n3 (heap_alloc_new w (.cells #[.int .u8 0, .string ⟨#[]⟩, I 0, I 0] 33)) (fun h => h)
      obtain ⟨r0, r1, r2, r3, f0, f1, f2, f3, hBB⟩ := tokb_cells hb3
      obtain ⟨nb, hnb⟩ : ∃ nb, numB (byteAt s k :: L.takeWhile isDig) = nb := ⟨_, rfl⟩
      rw [hnb] at hm
      cases nb with
      | some v =>
        simp only at hm
        subst hm
        obtain ⟨hst, kst⟩ := tok_stored hb3 (.int .u8 2) (.string ⟨#[]⟩) (I v) (I k)
        obtain ⟨x0, x1, x2, x3, y0, y1, y2, y3, hXX⟩ := tokb_cells hst
        have HF : Hid (PO (.returned (.tuple #[.agg #[.int .u8 2, .string ⟨#[]⟩, I v, I k], I t, I 0])) ((((w3.setCell ⟨w.heap.size, 0, none⟩ (.int .u8 2)).setCell ⟨w.heap.size, 1, none⟩ (.string ⟨#[]⟩)).setCell ⟨w.heap.size, 2, none⟩ (I v)).setCell ⟨w.heap.size, 3, none⟩ (I k))) := Lib.hid (by
          rw [HPO.out]
          exact rgood (HT1.out v hnb) rfl HZ.out (New.keeps (((New.refl w).alloc _).trans n3) kst (fun i hi hx => by omega)))
        clear hst kst hb3 n3 hnb
        go_wp2_with fail
        refine bodyPost_ret (v := .tuple #[.agg #[.int .u8 2, .string ⟨#[]⟩, I v, I k], I t, I 0]) (by simp [results, Tryd.results26, go_sem, x0, x1, x2, x3, y0, y1, y2, y3, hXX]) rfl ?_
        exact HF.out
      | none =>
        simp only at hm
        subst hm
        obtain ⟨hst, kst⟩ := tok_stored hb3 (.int .u8 0) (.string ⟨#[]⟩) (I 0) (I 0)
        obtain ⟨x0, x1, x2, x3, y0, y1, y2, y3, hXX⟩ := tokb_cells hst
        have HF : Hid (PO (.returned (.tuple #[.agg #[.int .u8 0, .string ⟨#[]⟩, I 0, I 0], I 0, I 41])) ((((w3.setCell ⟨w.heap.size, 0, none⟩ (.int .u8 0)).setCell ⟨w.heap.size, 1, none⟩ (.string ⟨#[]⟩)).setCell ⟨w.heap.size, 2, none⟩ (I 0)).setCell ⟨w.heap.size, 3, none⟩ (I 0))) := Lib.hid (by
          rw [HPO.out]
          exact rbad (HT2.out hnb) (New.keeps (((New.refl w).alloc _).trans n3) kst (fun i hi hx => by omega)))
        clear hst kst hb3 n3 hnb
        go_wp2_with fail
        refine bodyPost_ret (v := .tuple #[.agg #[.int .u8 0, .string ⟨#[]⟩, I 0, I 0], I 0, I 41]) (by simp [results, Tryd.results26, go_sem, x0, x1, x2, x3, y0, y1, y2, y3, hXX]) rfl ?_
        exact HF.out
set_option maxRecDepth 100000 in
set_option maxHeartbeats 8000000 in
theorem rtok_digit_o (w : World) (s : ByteArray) (k j : Nat) (hj : k + 1 = j) (hk : k < s.size) (hs : s.size ≤ 1048576) (hin : ¬ j < s.size) (hl : isLet (byteAt s k) = false) (hd : isDig (byteAt s k) = true) :
    Calls Tryd.prog 26 #[.string s, I k] w (RTokAns w s k) := by
  obtain ⟨PO, hPO⟩ : ∃ PO, PO = RTokAns w s k := ⟨_, rfl⟩
  rw [← hPO]
  have HPO := Lib.hid hPO
  have hdr := dropAt' s k hk
  have hlen := toList_len s
  have h255 := (byteAt s k).toNat_lt
  have hkI : (k : Int) < (s.size : Int) := by omega
  have hw1 : IntKind.i64.wrap ((k : Int) + 1) = (j : Int) := by rw [IntWalk.i64_in _ (by omega)]; omega
  have hbk : byteAt s k = s[k] := byteAt_in s k hk
  have hjI : ¬ (j : Int) < (s.size : Int) := by omega
  have hjs : j ≤ s.size := by omega
  have hb1 : byteAt s j = 0 := byteAt_out s j hin
  rw [hj] at hdr
  obtain ⟨L, hL⟩ : ∃ L, s.data.toList.drop j = L := ⟨_, rfl⟩
  have hLlen : L.length = s.size - j := by rw [← hL, List.length_drop, hlen]
  have hLat : ∀ t (ht : t < s.size), j ≤ t → L[t - j]? = some s[t] := fun t ht h0 => by
    rw [← hL, List.getElem?_drop, show j + (t - j) = t by omega, Array.getElem?_toList]
    exact Array.getElem?_eq_getElem ht
  have hL0 : L.headD 0 = byteAt s j := by rw [← hL]; rfl
  rw [hL] at hdr
  have HL := Lib.hid hLlen
  have HAT := Lib.hid hLat
  have HJ := Lib.hid hj
  have HDR := Lib.hid hdr
  clear hPO hL hLlen hLat hlen
  have hc : isDig (byteAt s k) = true ∨ ((byteAt s k).toNat = 45 ∧ isDig (L.headD 0) = true) := Or.inl hd
  have HC := Lib.hid hc
  have HT1 : Hid (∀ v, numB (byteAt s k :: L.takeWhile isDig) = some v → tokR (s.data.toList.drop k) = .good 2 [] v ((L.takeWhile isDig).length + 1)) := Lib.hid (by
    intro v hv
    rw [hdr, tokR_cons, if_neg (by rw [hl]; simp), if_pos hc, hv])
  have HT2 : Hid (numB (byteAt s k :: L.takeWhile isDig) = none → tokR (s.data.toList.drop k) = .bad 41) := Lib.hid (by
    intro hv
    rw [hdr, tokR_cons, if_neg (by rw [hl]; simp), if_pos hc, hv])
  have hlet := fun W => rlet_any W ((byteAt s k).toNat : Int)
  have hdig := fun W => rdig_any W ((byteAt s k).toNat : Int)
  have e1 : letterB ((byteAt s k).toNat : Int) = false := hl
  rw [e1, hbk] at hlet
  have e2 : digitB ((byteAt s k).toNat : Int) = true := hd
  rw [e2, hbk] at hdig
  clear hc hdr e1 e2 hl hd hb1 hL0 hj hbk
  go_enter Tryd.func26, Tryd.ntmps26
  go_wp2_with fail
  refine (hlet _).mono ?_
  rintro e w2 ⟨rfl, rfl⟩
  go_wp2_with fail
  refine (hdig _).mono ?_
  rintro e w2 ⟨rfl, rfl⟩
  go_wp2_with fail
  go_loopw [9] (fun x wr => ∃ t : Nat, j ≤ t ∧ t ≤ s.size ∧ x = .int .i64 t ∧ Hid ((L.take (t - j)).all isDig = true) ∧ wr = w.alloc (.cells #[.int .u8 0, .string ⟨#[]⟩, I 0, I 0] 33)) (fun x _ => s.size - (intOf x).toNat)
  case atStart => exact ⟨j, Nat.le_refl _, hjs, by rfl, Lib.hid (by rw [Nat.sub_self]; rfl), rfl⟩
  case round =>
    obtain ⟨t, ht1, ht2, rfl, HA, rfl⟩ := hrel
    by_cases ht3 : t < s.size
    · exact absurd ht3 (by omega)
    · have HSP : Hid ((L.takeWhile isDig).length = t - j) := Lib.hid (takeWhile_cut _ _ _ HA.out (fun b hb => by rw [List.getElem?_eq_none (by rw [HL.out]; omega)] at hb; cases hb) (by rw [HL.out]; omega))
      have htI : ¬ (t : Int) < (s.size : Int) := by omega
      have hkt : (k : Int) ≤ (t : Int) := by have := HJ.out; omega
      have hts : (t : Int) ≤ (s.size : Int) := by omega
      obtain ⟨Wd, hWd⟩ : ∃ Wd, s.extract k t = Wd := ⟨_, rfl⟩
      have hWl : Wd.data.toList = byteAt s k :: L.takeWhile isDig := by
        rw [← hWd, extract_list, HDR.out, show t - k = (t - j) + 1 by have := HJ.out; omega, List.take_succ_cons, ← HSP.out, takeWhile_take]
      have hWs : Wd.size ≤ 1048577 := by rw [← toList_len, hWl, List.length_cons, HSP.out]; omega
      have hnum := fun W => rnum_any W Wd (byteAt s k) L hWl HC.out hWs
      have HZ : Hid (k + ((L.takeWhile isDig).length + 1) = t) := Lib.hid (by rw [HSP.out]; have := HJ.out; omega)
      clear hWl hWs
      go_wp2_with fail
      refine (hnum _).mono ?_
      rintro e w3 ⟨hm, n3⟩
      have hb3 := Keeps.heap n3 (heap_alloc_new w (.cells #[.int .u8 0, .string ⟨#[]⟩, I 0, I 0] 33)) (fun h => h)
      obtain ⟨r0, r1, r2, r3, f0, f1, f2, f3, hBB⟩ := tokb_cells hb3
      obtain ⟨nb, hnb⟩ : ∃ nb, numB (byteAt s k :: L.takeWhile isDig) = nb := ⟨_, rfl⟩
      rw [hnb] at hm
      cases nb with
      | some v =>
        simp only at hm
        subst hm
        obtain ⟨hst, kst⟩ := tok_stored hb3 (.int .u8 2) (.string ⟨#[]⟩) (I v) (I k)
        obtain ⟨x0, x1, x2, x3, y0, y1, y2, y3, hXX⟩ := tokb_cells hst
        have HF : Hid (PO (.returned (.tuple #[.agg #[.int .u8 2, .string ⟨#[]⟩, I v, I k], I t, I 0])) ((((w3.setCell ⟨w.heap.size, 0, none⟩ (.int .u8 2)).setCell ⟨w.heap.size, 1, none⟩ (.string ⟨#[]⟩)).setCell ⟨w.heap.size, 2, none⟩ (I v)).setCell ⟨w.heap.size, 3, none⟩ (I k))) := Lib.hid (by
          rw [HPO.out]
          exact rgood (HT1.out v hnb) rfl HZ.out (New.keeps (((New.refl w).alloc _).trans n3) kst (fun i hi hx => by omega)))
        clear hst kst hb3 n3 hnb
        go_wp2_with fail
        refine bodyPost_ret (v := .tuple #[.agg #[.int .u8 2, .string ⟨#[]⟩, I v, I k], I t, I 0]) (by simp [results, Tryd.results26, go_sem, x0, x1, x2, x3, y0, y1, y2, y3, hXX]) rfl ?_
        exact HF.out
      | none =>
        simp only at hm
        subst hm
        obtain ⟨hst, kst⟩ := tok_stored hb3 (.int .u8 0) (.string ⟨#[]⟩) (I 0) (I 0)
        obtain ⟨x0, x1, x2, x3, y0, y1, y2, y3, hXX⟩ := tokb_cells hst
        have HF : Hid (PO (.returned (.tuple #[.agg #[.int .u8 0, .string ⟨#[]⟩, I 0, I 0], I 0, I 41])) ((((w3.setCell ⟨w.heap.size, 0, none⟩ (.int .u8 0)).setCell ⟨w.heap.size, 1, none⟩ (.string ⟨#[]⟩)).setCell ⟨w.heap.size, 2, none⟩ (I 0)).setCell ⟨w.heap.size, 3, none⟩ (I 0))) := Lib.hid (by
          rw [HPO.out]
          exact rbad (HT2.out hnb) (New.keeps (((New.refl w).alloc _).trans n3) kst (fun i hi hx => by omega)))
        clear hst kst hb3 n3 hnb
        go_wp2_with fail
        refine bodyPost_ret (v := .tuple #[.agg #[.int .u8 0, .string ⟨#[]⟩, I 0, I 0], I 0, I 41]) (by simp [results, Tryd.results26, go_sem, x0, x1, x2, x3, y0, y1, y2, y3, hXX]) rfl ?_
        exact HF.out
set_option maxRecDepth 100000 in
set_option maxHeartbeats 8000000 in
theorem rtok_minus_i (w : World) (s : ByteArray) (k j : Nat) (hj : k + 1 = j) (hk : k < s.size) (hs : s.size ≤ 1048576) (hin : j < s.size) (h45 : (byteAt s k).toNat = 45) (hd1 : isDig (byteAt s j) = true) :
    Calls Tryd.prog 26 #[.string s, I k] w (RTokAns w s k) := by
  obtain ⟨PO, hPO⟩ : ∃ PO, PO = RTokAns w s k := ⟨_, rfl⟩
  rw [← hPO]
  have HPO := Lib.hid hPO
  have hdr := dropAt' s k hk
  have hlen := toList_len s
  have h255 := (byteAt s k).toNat_lt
  have hkI : (k : Int) < (s.size : Int) := by omega
  have hw1 : IntKind.i64.wrap ((k : Int) + 1) = (j : Int) := by rw [IntWalk.i64_in _ (by omega)]; omega
  have hbk : byteAt s k = s[k] := byteAt_in s k hk
  have hjI : (j : Int) < (s.size : Int) := by omega
  have hjs : j ≤ s.size := by omega
  have hb1 : byteAt s j = s[j] := byteAt_in s j hin
  rw [hj] at hdr
  obtain ⟨L, hL⟩ : ∃ L, s.data.toList.drop j = L := ⟨_, rfl⟩
  have hLlen : L.length = s.size - j := by rw [← hL, List.length_drop, hlen]
  have hLat : ∀ t (ht : t < s.size), j ≤ t → L[t - j]? = some s[t] := fun t ht h0 => by
    rw [← hL, List.getElem?_drop, show j + (t - j) = t by omega, Array.getElem?_toList]
    exact Array.getElem?_eq_getElem ht
  have hL0 : L.headD 0 = byteAt s j := by rw [← hL]; rfl
  rw [hL] at hdr
  have HL := Lib.hid hLlen
  have HAT := Lib.hid hLat
  have HJ := Lib.hid hj
  have HDR := Lib.hid hdr
  clear hPO hL hLlen hLat hlen
  have hl : isLet (byteAt s k) = false := by
    cases e : isLet (byteAt s k) with
    | false => rfl
    | true => have := (isLet_iff _).1 e; omega
  have hd : isDig (byteAt s k) = false := by
    cases e : isDig (byteAt s k) with
    | false => rfl
    | true => have := (isDig_iff _).1 e; omega
  have e45 : ((s[k].toNat : Int) == 45) = true := by rw [← hbk]; exact b_yes (k := 45) h45
  have hdg1 := fun W => rdig_any W ((byteAt s j).toNat : Int)
  have hc : isDig (byteAt s k) = true ∨ ((byteAt s k).toNat = 45 ∧ isDig (L.headD 0) = true) := Or.inr ⟨h45, by rw [hL0]; exact hd1⟩
  have HC := Lib.hid hc
  have HT1 : Hid (∀ v, numB (byteAt s k :: L.takeWhile isDig) = some v → tokR (s.data.toList.drop k) = .good 2 [] v ((L.takeWhile isDig).length + 1)) := Lib.hid (by
    intro v hv
    rw [hdr, tokR_cons, if_neg (by rw [hl]; simp), if_pos hc, hv])
  have HT2 : Hid (numB (byteAt s k :: L.takeWhile isDig) = none → tokR (s.data.toList.drop k) = .bad 41) := Lib.hid (by
    intro hv
    rw [hdr, tokR_cons, if_neg (by rw [hl]; simp), if_pos hc, hv])
  have hlet := fun W => rlet_any W ((byteAt s k).toNat : Int)
  have hdig := fun W => rdig_any W ((byteAt s k).toNat : Int)
  have e1 : letterB ((byteAt s k).toNat : Int) = false := hl
  rw [e1, hbk] at hlet
  have e2 : digitB ((byteAt s k).toNat : Int) = false := hd
  have e3 : digitB ((byteAt s j).toNat : Int) = true := hd1
  rw [e2, hbk] at hdig
  rw [e3, hb1] at hdg1
  clear hc hdr e1 e2 e3 hl hd hb1 hL0 hj hbk h45 hd1
  go_enter Tryd.func26, Tryd.ntmps26
  go_wp2_with fail
  refine (hlet _).mono ?_
  rintro e w2 ⟨rfl, rfl⟩
  go_wp2_with fail
  refine (hdig _).mono ?_
  rintro e w2 ⟨rfl, rfl⟩
  go_wp2_with fail
  refine (hdg1 _).mono ?_
  rintro e w2 ⟨rfl, rfl⟩
  go_wp2_with fail
  go_loopw [9] (fun x wr => ∃ t : Nat, j ≤ t ∧ t ≤ s.size ∧ x = .int .i64 t ∧ Hid ((L.take (t - j)).all isDig = true) ∧ wr = w.alloc (.cells #[.int .u8 0, .string ⟨#[]⟩, I 0, I 0] 33)) (fun x _ => s.size - (intOf x).toNat)
  case atStart => exact ⟨j, Nat.le_refl _, hjs, by rfl, Lib.hid (by rw [Nat.sub_self]; rfl), rfl⟩
  case round =>
    obtain ⟨t, ht1, ht2, rfl, HA, rfl⟩ := hrel
    by_cases ht3 : t < s.size
    · have hjj : True := trivial
      have hi := fun W => rdig_any W (s[t].toNat : Int)
      have hat := HAT.out t ht3 ht1
      have h256 : s[t].toNat < 256 := s[t].toNat_lt
      have htI : (t : Int) < (s.size : Int) := by omega
      have hwt : IntKind.i64.wrap ((t : Int) + 1) = (t : Int) + 1 := IntWalk.i64_in _ (by omega)
      have hfold : digitB (s[t].toNat : Int) = isDig s[t] := rfl
      rw [hfold] at hi
      clear hfold
      cases e2 : isDig s[t] with
      | true =>
        rw [e2] at hi
        have HA2 : Hid ((L.take (t + 1 - j)).all isDig = true) := Lib.hid (by
          rw [show t + 1 - j = (t - j) + 1 by omega, List.take_succ, hat, List.all_append, HA.out]
          simp [e2])
        clear e2 hat
        go_wp2_with fail
        refine (hi _).mono ?_
        rintro e w2 ⟨rfl, rfl⟩
        go_wp2_with fail
        go_roundw
        case rel => exact ⟨t + 1, by omega, by omega, by go_num, HA2, by first | rfl | trivial⟩
        case measure => simp [intOf]; omega
      | false =>
        rw [e2] at hi
        have HSP : Hid ((L.takeWhile isDig).length = t - j) := Lib.hid (takeWhile_cut _ _ _ HA.out (fun b hb => by rw [hat] at hb; cases hb; exact e2) (by rw [HL.out]; omega))
        clear e2 hat
        have hkt : (k : Int) ≤ (t : Int) := by have := HJ.out; omega
        have hts : (t : Int) ≤ (s.size : Int) := by omega
        obtain ⟨Wd, hWd⟩ : ∃ Wd, s.extract k t = Wd := ⟨_, rfl⟩
        have hWl : Wd.data.toList = byteAt s k :: L.takeWhile isDig := by
          rw [← hWd, extract_list, HDR.out, show t - k = (t - j) + 1 by have := HJ.out; omega, List.take_succ_cons, ← HSP.out, takeWhile_take]
        have hWs : Wd.size ≤ 1048577 := by rw [← toList_len, hWl, List.length_cons, HSP.out]; omega
        have hnum := fun W => rnum_any W Wd (byteAt s k) L hWl HC.out hWs
        have HZ : Hid (k + ((L.takeWhile isDig).length + 1) = t) := Lib.hid (by rw [HSP.out]; have := HJ.out; omega)
        clear hWl hWs
        go_wp2_with fail
        refine (hi _).mono ?_
        rintro e w2 ⟨rfl, rfl⟩
        go_wp2_with fail
        refine (hnum _).mono ?_
        rintro e w3 ⟨hm, n3⟩
        have hb3 := Keeps.heap n3 (heap_alloc_new w (.cells #[.int .u8 0, .string ⟨#[]⟩, I 0, I 0] 33)) (fun h => h)
        obtain ⟨r0, r1, r2, r3, f0, f1, f2, f3, hBB⟩ := tokb_cells hb3
        obtain ⟨nb, hnb⟩ : ∃ nb, numB (byteAt s k :: L.takeWhile isDig) = nb := ⟨_, rfl⟩
        rw [hnb] at hm
        cases nb with
        | some v =>
          simp only at hm
          subst hm
          obtain ⟨hst, kst⟩ := tok_stored hb3 (.int .u8 2) (.string ⟨#[]⟩) (I v) (I k)
          obtain ⟨x0, x1, x2, x3, y0, y1, y2, y3, hXX⟩ := tokb_cells hst
          have HF : Hid (PO (.returned (.tuple #[.agg #[.int .u8 2, .string ⟨#[]⟩, I v, I k], I t, I 0])) ((((w3.setCell ⟨w.heap.size, 0, none⟩ (.int .u8 2)).setCell ⟨w.heap.size, 1, none⟩ (.string ⟨#[]⟩)).setCell ⟨w.heap.size, 2, none⟩ (I v)).setCell ⟨w.heap.size, 3, none⟩ (I k))) := Lib.hid (by
            rw [HPO.out]
            exact rgood (HT1.out v hnb) rfl HZ.out (New.keeps (((New.refl w).alloc _).trans n3) kst (fun i hi hx => by omega)))
          clear hst kst hb3 n3 hnb
          go_wp2_with fail
          refine bodyPost_ret (v := .tuple #[.agg #[.int .u8 2, .string ⟨#[]⟩, I v, I k], I t, I 0]) (by simp [results, Tryd.results26, go_sem, x0, x1, x2, x3, y0, y1, y2, y3, hXX]) rfl ?_
          exact HF.out
        | none =>
          simp only at hm
          subst hm
          obtain ⟨hst, kst⟩ := tok_stored hb3 (.int .u8 0) (.string ⟨#[]⟩) (I 0) (I 0)
          obtain ⟨x0, x1, x2, x3, y0, y1, y2, y3, hXX⟩ := tokb_cells hst
          have HF : Hid (PO (.returned (.tuple #[.agg #[.int .u8 0, .string ⟨#[]⟩, I 0, I 0], I 0, I 41])) ((((w3.setCell ⟨w.heap.size, 0, none⟩ (.int .u8 0)).setCell ⟨w.heap.size, 1, none⟩ (.string ⟨#[]⟩)).setCell ⟨w.heap.size, 2, none⟩ (I 0)).setCell ⟨w.heap.size, 3, none⟩ (I 0))) := Lib.hid (by
            rw [HPO.out]
            exact rbad (HT2.out hnb) (New.keeps (((New.refl w).alloc _).trans n3) kst (fun i hi hx => by omega)))
          clear hst kst hb3 n3 hnb
          go_wp2_with fail
          refine bodyPost_ret (v := .tuple #[.agg #[.int .u8 0, .string ⟨#[]⟩, I 0, I 0], I 0, I 41]) (by simp [results, Tryd.results26, go_sem, x0, x1, x2, x3, y0, y1, y2, y3, hXX]) rfl ?_
          exact HF.out
    · have HSP : Hid ((L.takeWhile isDig).length = t - j) := Lib.hid (takeWhile_cut _ _ _ HA.out (fun b hb => by rw [List.getElem?_eq_none (by rw [HL.out]; omega)] at hb; cases hb) (by rw [HL.out]; omega))
      have htI : ¬ (t : Int) < (s.size : Int) := by omega
      have hkt : (k : Int) ≤ (t : Int) := by have := HJ.out; omega
      have hts : (t : Int) ≤ (s.size : Int) := by omega
      obtain ⟨Wd, hWd⟩ : ∃ Wd, s.extract k t = Wd := ⟨_, rfl⟩
      have hWl : Wd.data.toList = byteAt s k :: L.takeWhile isDig := by
        rw [← hWd, extract_list, HDR.out, show t - k = (t - j) + 1 by have := HJ.out; omega, List.take_succ_cons, ← HSP.out, takeWhile_take]
      have hWs : Wd.size ≤ 1048577 := by rw [← toList_len, hWl, List.length_cons, HSP.out]; omega
      have hnum := fun W => rnum_any W Wd (byteAt s k) L hWl HC.out hWs
      have HZ : Hid (k + ((L.takeWhile isDig).length + 1) = t) := Lib.hid (by rw [HSP.out]; have := HJ.out; omega)
      clear hWl hWs
      go_wp2_with fail
      refine (hnum _).mono ?_
      rintro e w3 ⟨hm, n3⟩
      have hb3 := Keeps.heap n3 (heap_alloc_new w (.cells #[.int .u8 0, .string ⟨#[]⟩, I 0, I 0] 33)) (fun h => h)
      obtain ⟨r0, r1, r2, r3, f0, f1, f2, f3, hBB⟩ := tokb_cells hb3
      obtain ⟨nb, hnb⟩ : ∃ nb, numB (byteAt s k :: L.takeWhile isDig) = nb := ⟨_, rfl⟩
      rw [hnb] at hm
      cases nb with
      | some v =>
        simp only at hm
        subst hm
        obtain ⟨hst, kst⟩ := tok_stored hb3 (.int .u8 2) (.string ⟨#[]⟩) (I v) (I k)
        obtain ⟨x0, x1, x2, x3, y0, y1, y2, y3, hXX⟩ := tokb_cells hst
        have HF : Hid (PO (.returned (.tuple #[.agg #[.int .u8 2, .string ⟨#[]⟩, I v, I k], I t, I 0])) ((((w3.setCell ⟨w.heap.size, 0, none⟩ (.int .u8 2)).setCell ⟨w.heap.size, 1, none⟩ (.string ⟨#[]⟩)).setCell ⟨w.heap.size, 2, none⟩ (I v)).setCell ⟨w.heap.size, 3, none⟩ (I k))) := Lib.hid (by
          rw [HPO.out]
          exact rgood (HT1.out v hnb) rfl HZ.out (New.keeps (((New.refl w).alloc _).trans n3) kst (fun i hi hx => by omega)))
        clear hst kst hb3 n3 hnb
        go_wp2_with fail
        refine bodyPost_ret (v := .tuple #[.agg #[.int .u8 2, .string ⟨#[]⟩, I v, I k], I t, I 0]) (by simp [results, Tryd.results26, go_sem, x0, x1, x2, x3, y0, y1, y2, y3, hXX]) rfl ?_
        exact HF.out
      | none =>
        simp only at hm
        subst hm
        obtain ⟨hst, kst⟩ := tok_stored hb3 (.int .u8 0) (.string ⟨#[]⟩) (I 0) (I 0)
        obtain ⟨x0, x1, x2, x3, y0, y1, y2, y3, hXX⟩ := tokb_cells hst
        have HF : Hid (PO (.returned (.tuple #[.agg #[.int .u8 0, .string ⟨#[]⟩, I 0, I 0], I 0, I 41])) ((((w3.setCell ⟨w.heap.size, 0, none⟩ (.int .u8 0)).setCell ⟨w.heap.size, 1, none⟩ (.string ⟨#[]⟩)).setCell ⟨w.heap.size, 2, none⟩ (I 0)).setCell ⟨w.heap.size, 3, none⟩ (I 0))) := Lib.hid (by
          rw [HPO.out]
          exact rbad (HT2.out hnb) (New.keeps (((New.refl w).alloc _).trans n3) kst (fun i hi hx => by omega)))
        clear hst kst hb3 n3 hnb
        go_wp2_with fail
        refine bodyPost_ret (v := .tuple #[.agg #[.int .u8 0, .string ⟨#[]⟩, I 0, I 0], I 0, I 41]) (by simp [results, Tryd.results26, go_sem, x0, x1, x2, x3, y0, y1, y2, y3, hXX]) rfl ?_
        exact HF.out
set_option maxRecDepth 100000 in
set_option maxHeartbeats 8000000 in
theorem rtok_arrow_i (w : World) (s : ByteArray) (k j : Nat) (hj : k + 1 = j) (hk : k < s.size) (hs : s.size ≤ 1048576) (hin : j < s.size) (h45 : (byteAt s k).toNat = 45) (hd1 : isDig (byteAt s j) = false) (h62 : (byteAt s j).toNat = 62) :
    Calls Tryd.prog 26 #[.string s, I k] w (RTokAns w s k) := by
  obtain ⟨PO, hPO⟩ : ∃ PO, PO = RTokAns w s k := ⟨_, rfl⟩
  rw [← hPO]
  have HPO := Lib.hid hPO
  have hdr := dropAt' s k hk
  have hlen := toList_len s
  have h255 := (byteAt s k).toNat_lt
  have hkI : (k : Int) < (s.size : Int) := by omega
  have hw1 : IntKind.i64.wrap ((k : Int) + 1) = (j : Int) := by rw [IntWalk.i64_in _ (by omega)]; omega
  have hbk : byteAt s k = s[k] := byteAt_in s k hk
  have hjI : (j : Int) < (s.size : Int) := by omega
  have hjs : j ≤ s.size := by omega
  have hb1 : byteAt s j = s[j] := byteAt_in s j hin
  rw [hj] at hdr
  obtain ⟨L, hL⟩ : ∃ L, s.data.toList.drop j = L := ⟨_, rfl⟩
  have hLlen : L.length = s.size - j := by rw [← hL, List.length_drop, hlen]
  have hLat : ∀ t (ht : t < s.size), j ≤ t → L[t - j]? = some s[t] := fun t ht h0 => by
    rw [← hL, List.getElem?_drop, show j + (t - j) = t by omega, Array.getElem?_toList]
    exact Array.getElem?_eq_getElem ht
  have hL0 : L.headD 0 = byteAt s j := by rw [← hL]; rfl
  rw [hL] at hdr
  have HL := Lib.hid hLlen
  have HAT := Lib.hid hLat
  have HJ := Lib.hid hj
  have HDR := Lib.hid hdr
  clear hPO hL hLlen hLat hlen
  have hl : isLet (byteAt s k) = false := by
    cases e : isLet (byteAt s k) with
    | false => rfl
    | true => have := (isLet_iff _).1 e; omega
  have hd : isDig (byteAt s k) = false := by
    cases e : isDig (byteAt s k) with
    | false => rfl
    | true => have := (isDig_iff _).1 e; omega
  have e45 : ((s[k].toNat : Int) == 45) = true := by rw [← hbk]; exact b_yes (k := 45) h45
  have hdg1 := fun W => rdig_any W ((byteAt s j).toNat : Int)
  have HT : Hid (tokR (s.data.toList.drop k) = .good 3 [45, 62] 0 2) := Lib.hid (by
    have hn1 : ¬ (isDig (byteAt s k) = true ∨ ((byteAt s k).toNat = 45 ∧ isDig (L.headD 0) = true)) := by
      rintro (x | ⟨_, x⟩)
      · rw [hd] at x; cases x
      · rw [hL0, hd1] at x; cases x
    rw [hdr, tokR_cons, if_neg (by rw [hl]; simp), if_neg hn1, hL0]
    rw [if_pos ⟨h45, h62⟩])
  have hlet := fun W => rlet_any W ((byteAt s k).toNat : Int)
  have hdig := fun W => rdig_any W ((byteAt s k).toNat : Int)
  have e1 : letterB ((byteAt s k).toNat : Int) = false := hl
  have e2 : digitB ((byteAt s k).toNat : Int) = false := hd
  have e3 : digitB ((byteAt s j).toNat : Int) = false := hd1
  rw [e1, hbk] at hlet
  rw [e2, hbk] at hdig

  have e62 : ((s[j].toNat : Int) == 62) = true := by rw [← hb1]; exact b_yes (k := 62) h62
  have hw2 : IntKind.i64.wrap ((k : Int) + 2) = ((k + 2 : Nat) : Int) := by rw [IntWalk.i64_in _ (by omega)]; omega

  rw [e3, hb1] at hdg1

  clear hdr e1 e2 e3 hl hd hb1 hL0 hj hbk h45 hd1 h62
  go_enter Tryd.func26, Tryd.ntmps26
  go_wp2_with fail
  refine (hlet _).mono ?_
  rintro e w2 ⟨rfl, rfl⟩
  go_wp2_with fail
  refine (hdig _).mono ?_
  rintro e w2 ⟨rfl, rfl⟩
  go_wp2_with fail
  refine (hdg1 _).mono ?_
  rintro e w2 ⟨rfl, rfl⟩
  go_wp2_with fail
  refine bodyPost_ret (v := .tuple #[.agg #[.int .u8 3, .string ⟨#[45, 62]⟩, I 0, I k], I ((k + 2 : Nat) : Int), I 0]) (by simp [results, Tryd.results26, go_sem]) rfl ?_
  rw [HPO.out]
  exact rgood HT.out rfl rfl ((New.refl w).alloc _)
set_option maxRecDepth 100000 in
set_option maxHeartbeats 8000000 in
theorem rtok_dash_i (w : World) (s : ByteArray) (k j : Nat) (hj : k + 1 = j) (hk : k < s.size) (hs : s.size ≤ 1048576) (hin : j < s.size) (h45 : (byteAt s k).toNat = 45) (hd1 : isDig (byteAt s j) = false) (h62 : (byteAt s j).toNat ≠ 62) :
    Calls Tryd.prog 26 #[.string s, I k] w (RTokAns w s k) := by
  obtain ⟨PO, hPO⟩ : ∃ PO, PO = RTokAns w s k := ⟨_, rfl⟩
  rw [← hPO]
  have HPO := Lib.hid hPO
  have hdr := dropAt' s k hk
  have hlen := toList_len s
  have h255 := (byteAt s k).toNat_lt
  have hkI : (k : Int) < (s.size : Int) := by omega
  have hw1 : IntKind.i64.wrap ((k : Int) + 1) = (j : Int) := by rw [IntWalk.i64_in _ (by omega)]; omega
  have hbk : byteAt s k = s[k] := byteAt_in s k hk
  have hjI : (j : Int) < (s.size : Int) := by omega
  have hjs : j ≤ s.size := by omega
  have hb1 : byteAt s j = s[j] := byteAt_in s j hin
  rw [hj] at hdr
  obtain ⟨L, hL⟩ : ∃ L, s.data.toList.drop j = L := ⟨_, rfl⟩
  have hLlen : L.length = s.size - j := by rw [← hL, List.length_drop, hlen]
  have hLat : ∀ t (ht : t < s.size), j ≤ t → L[t - j]? = some s[t] := fun t ht h0 => by
    rw [← hL, List.getElem?_drop, show j + (t - j) = t by omega, Array.getElem?_toList]
    exact Array.getElem?_eq_getElem ht
  have hL0 : L.headD 0 = byteAt s j := by rw [← hL]; rfl
  rw [hL] at hdr
  have HL := Lib.hid hLlen
  have HAT := Lib.hid hLat
  have HJ := Lib.hid hj
  have HDR := Lib.hid hdr
  clear hPO hL hLlen hLat hlen
  have hl : isLet (byteAt s k) = false := by
    cases e : isLet (byteAt s k) with
    | false => rfl
    | true => have := (isLet_iff _).1 e; omega
  have hd : isDig (byteAt s k) = false := by
    cases e : isDig (byteAt s k) with
    | false => rfl
    | true => have := (isDig_iff _).1 e; omega
  have e45 : ((s[k].toNat : Int) == 45) = true := by rw [← hbk]; exact b_yes (k := 45) h45
  have hdg1 := fun W => rdig_any W ((byteAt s j).toNat : Int)
  have HT : Hid (tokR (s.data.toList.drop k) = .bad 40) := Lib.hid (by
    have hn1 : ¬ (isDig (byteAt s k) = true ∨ ((byteAt s k).toNat = 45 ∧ isDig (L.headD 0) = true)) := by
      rintro (x | ⟨_, x⟩)
      · rw [hd] at x; cases x
      · rw [hL0, hd1] at x; cases x
    rw [hdr, tokR_cons, if_neg (by rw [hl]; simp), if_neg hn1, hL0]
    rw [if_neg (fun x => h62 x.2), if_neg (by unfold isMrk; rw [decide_eq_true_iff]; omega)])
  have hlet := fun W => rlet_any W ((byteAt s k).toNat : Int)
  have hdig := fun W => rdig_any W ((byteAt s k).toNat : Int)
  have e1 : letterB ((byteAt s k).toNat : Int) = false := hl
  have e2 : digitB ((byteAt s k).toNat : Int) = false := hd
  have e3 : digitB ((byteAt s j).toNat : Int) = false := hd1
  rw [e1, hbk] at hlet
  rw [e2, hbk] at hdig
  have m123 : ((s[k].toNat : Int) == 123) = false := by rw [← hbk]; exact b_no (k := 123) (by omega)
  have m125 : ((s[k].toNat : Int) == 125) = false := by rw [← hbk]; exact b_no (k := 125) (by omega)
  have m61 : ((s[k].toNat : Int) == 61) = false := by rw [← hbk]; exact b_no (k := 61) (by omega)
  have m59 : ((s[k].toNat : Int) == 59) = false := by rw [← hbk]; exact b_no (k := 59) (by omega)
  have m46 : ((s[k].toNat : Int) == 46) = false := by rw [← hbk]; exact b_no (k := 46) (by omega)
  have e62 : ((s[j].toNat : Int) == 62) = false := by rw [← hb1]; exact b_no (k := 62) h62


  rw [e3, hb1] at hdg1

  clear hdr e1 e2 e3 hl hd hb1 hL0 hj hbk h45 hd1 h62
  go_enter Tryd.func26, Tryd.ntmps26
  go_wp2_with fail
  refine (hlet _).mono ?_
  rintro e w2 ⟨rfl, rfl⟩
  go_wp2_with fail
  refine (hdig _).mono ?_
  rintro e w2 ⟨rfl, rfl⟩
  go_wp2_with fail
  refine (hdg1 _).mono ?_
  rintro e w2 ⟨rfl, rfl⟩
  go_wp2_with fail
  refine bodyPost_ret (v := .tuple #[.agg #[.int .u8 0, .string ⟨#[]⟩, I 0, I 0], I 0, I 40]) (by simp [results, Tryd.results26, go_sem]) rfl ?_
  rw [HPO.out]
  exact rbad HT.out ((New.refl w).alloc _)
set_option maxRecDepth 100000 in
set_option maxHeartbeats 8000000 in
theorem rtok_dash_o (w : World) (s : ByteArray) (k j : Nat) (hj : k + 1 = j) (hk : k < s.size) (hs : s.size ≤ 1048576) (hin : ¬ j < s.size) (h45 : (byteAt s k).toNat = 45) (hd1 : isDig (byteAt s j) = false) (h62 : (byteAt s j).toNat ≠ 62) :
    Calls Tryd.prog 26 #[.string s, I k] w (RTokAns w s k) := by
  obtain ⟨PO, hPO⟩ : ∃ PO, PO = RTokAns w s k := ⟨_, rfl⟩
  rw [← hPO]
  have HPO := Lib.hid hPO
  have hdr := dropAt' s k hk
  have hlen := toList_len s
  have h255 := (byteAt s k).toNat_lt
  have hkI : (k : Int) < (s.size : Int) := by omega
  have hw1 : IntKind.i64.wrap ((k : Int) + 1) = (j : Int) := by rw [IntWalk.i64_in _ (by omega)]; omega
  have hbk : byteAt s k = s[k] := byteAt_in s k hk
  have hjI : ¬ (j : Int) < (s.size : Int) := by omega
  have hjs : j ≤ s.size := by omega
  have hb1 : byteAt s j = 0 := byteAt_out s j hin
  rw [hj] at hdr
  obtain ⟨L, hL⟩ : ∃ L, s.data.toList.drop j = L := ⟨_, rfl⟩
  have hLlen : L.length = s.size - j := by rw [← hL, List.length_drop, hlen]
  have hLat : ∀ t (ht : t < s.size), j ≤ t → L[t - j]? = some s[t] := fun t ht h0 => by
    rw [← hL, List.getElem?_drop, show j + (t - j) = t by omega, Array.getElem?_toList]
    exact Array.getElem?_eq_getElem ht
  have hL0 : L.headD 0 = byteAt s j := by rw [← hL]; rfl
  rw [hL] at hdr
  have HL := Lib.hid hLlen
  have HAT := Lib.hid hLat
  have HJ := Lib.hid hj
  have HDR := Lib.hid hdr
  clear hPO hL hLlen hLat hlen
  have hl : isLet (byteAt s k) = false := by
    cases e : isLet (byteAt s k) with
    | false => rfl
    | true => have := (isLet_iff _).1 e; omega
  have hd : isDig (byteAt s k) = false := by
    cases e : isDig (byteAt s k) with
    | false => rfl
    | true => have := (isDig_iff _).1 e; omega
  have e45 : ((s[k].toNat : Int) == 45) = true := by rw [← hbk]; exact b_yes (k := 45) h45
  have hdg1 := fun W => rdig_any W ((byteAt s j).toNat : Int)
  have HT : Hid (tokR (s.data.toList.drop k) = .bad 40) := Lib.hid (by
    have hn1 : ¬ (isDig (byteAt s k) = true ∨ ((byteAt s k).toNat = 45 ∧ isDig (L.headD 0) = true)) := by
      rintro (x | ⟨_, x⟩)
      · rw [hd] at x; cases x
      · rw [hL0, hd1] at x; cases x
    rw [hdr, tokR_cons, if_neg (by rw [hl]; simp), if_neg hn1, hL0]
    rw [if_neg (fun x => h62 x.2), if_neg (by unfold isMrk; rw [decide_eq_true_iff]; omega)])
  have hlet := fun W => rlet_any W ((byteAt s k).toNat : Int)
  have hdig := fun W => rdig_any W ((byteAt s k).toNat : Int)
  have e1 : letterB ((byteAt s k).toNat : Int) = false := hl
  have e2 : digitB ((byteAt s k).toNat : Int) = false := hd
  have e3 : digitB ((byteAt s j).toNat : Int) = false := hd1
  rw [e1, hbk] at hlet
  rw [e2, hbk] at hdig
  have m123 : ((s[k].toNat : Int) == 123) = false := by rw [← hbk]; exact b_no (k := 123) (by omega)
  have m125 : ((s[k].toNat : Int) == 125) = false := by rw [← hbk]; exact b_no (k := 125) (by omega)
  have m61 : ((s[k].toNat : Int) == 61) = false := by rw [← hbk]; exact b_no (k := 61) (by omega)
  have m59 : ((s[k].toNat : Int) == 59) = false := by rw [← hbk]; exact b_no (k := 59) (by omega)
  have m46 : ((s[k].toNat : Int) == 46) = false := by rw [← hbk]; exact b_no (k := 46) (by omega)


  have hz0 : ((0 : UInt8).toNat : Int) = 0 := rfl
  rw [e3, hb1] at hdg1
  rw [hz0] at hdg1
  clear hdr e1 e2 e3 hl hd hb1 hL0 hj hbk h45 hd1 h62
  go_enter Tryd.func26, Tryd.ntmps26
  go_wp2_with fail
  refine (hlet _).mono ?_
  rintro e w2 ⟨rfl, rfl⟩
  go_wp2_with fail
  refine (hdig _).mono ?_
  rintro e w2 ⟨rfl, rfl⟩
  go_wp2_with fail
  refine (hdg1 _).mono ?_
  rintro e w2 ⟨rfl, rfl⟩
  go_wp2_with fail
  refine bodyPost_ret (v := .tuple #[.agg #[.int .u8 0, .string ⟨#[]⟩, I 0, I 0], I 0, I 40]) (by simp [results, Tryd.results26, go_sem]) rfl ?_
  rw [HPO.out]
  exact rbad HT.out ((New.refl w).alloc _)
set_option maxRecDepth 100000 in
set_option maxHeartbeats 8000000 in
theorem rtok_m123_i (w : World) (s : ByteArray) (k j : Nat) (hj : k + 1 = j) (hk : k < s.size) (hs : s.size ≤ 1048576) (hin : j < s.size) (hm : (byteAt s k).toNat = 123) :
    Calls Tryd.prog 26 #[.string s, I k] w (RTokAns w s k) := by
  obtain ⟨PO, hPO⟩ : ∃ PO, PO = RTokAns w s k := ⟨_, rfl⟩
  rw [← hPO]
  have HPO := Lib.hid hPO
  have hdr := dropAt' s k hk
  have hlen := toList_len s
  have h255 := (byteAt s k).toNat_lt
  have hkI : (k : Int) < (s.size : Int) := by omega
  have hw1 : IntKind.i64.wrap ((k : Int) + 1) = (j : Int) := by rw [IntWalk.i64_in _ (by omega)]; omega
  have hbk : byteAt s k = s[k] := byteAt_in s k hk
  have hjI : (j : Int) < (s.size : Int) := by omega
  have hjs : j ≤ s.size := by omega
  have hb1 : byteAt s j = s[j] := byteAt_in s j hin
  rw [hj] at hdr
  obtain ⟨L, hL⟩ : ∃ L, s.data.toList.drop j = L := ⟨_, rfl⟩
  have hLlen : L.length = s.size - j := by rw [← hL, List.length_drop, hlen]
  have hLat : ∀ t (ht : t < s.size), j ≤ t → L[t - j]? = some s[t] := fun t ht h0 => by
    rw [← hL, List.getElem?_drop, show j + (t - j) = t by omega, Array.getElem?_toList]
    exact Array.getElem?_eq_getElem ht
  have hL0 : L.headD 0 = byteAt s j := by rw [← hL]; rfl
  rw [hL] at hdr
  have HL := Lib.hid hLlen
  have HAT := Lib.hid hLat
  have HJ := Lib.hid hj
  have HDR := Lib.hid hdr
  clear hPO hL hLlen hLat hlen
  have h45 : (byteAt s k).toNat ≠ 45 := by omega
  have hl : isLet (byteAt s k) = false := by
    cases e : isLet (byteAt s k) with
    | false => rfl
    | true => have := (isLet_iff _).1 e; omega
  have hd : isDig (byteAt s k) = false := by
    cases e : isDig (byteAt s k) with
    | false => rfl
    | true => have := (isDig_iff _).1 e; omega
  have HT : Hid (tokR (s.data.toList.drop k) = .good 3 [byteAt s k] 0 1) := Lib.hid (by
    have hn1 : ¬ (isDig (byteAt s k) = true ∨ ((byteAt s k).toNat = 45 ∧ isDig (L.headD 0) = true)) := by
      rintro (x | ⟨x, _⟩)
      · rw [hd] at x; cases x
      · exact h45 x
    rw [hdr, tokR_cons, if_neg (by rw [hl]; simp), if_neg hn1, if_neg (fun x => h45 x.1)]
    rw [if_pos (by unfold isMrk; rw [decide_eq_true_iff]; omega)])
  have hlet := fun W => rlet_any W ((byteAt s k).toNat : Int)
  have hdig := fun W => rdig_any W ((byteAt s k).toNat : Int)
  have e1 : letterB ((byteAt s k).toNat : Int) = false := hl
  have e2 : digitB ((byteAt s k).toNat : Int) = false := hd
  rw [e1, hbk] at hlet
  rw [e2, hbk] at hdig
  have e45 : ((s[k].toNat : Int) == 45) = false := by rw [← hbk]; exact b_no (k := 45) h45
  have m123 : ((s[k].toNat : Int) == 123) = true := by rw [← hbk]; exact b_yes (k := 123) (by omega)
  obtain ⟨Wd, hWd⟩ : ∃ Wd, s.extract k j = Wd := ⟨_, rfl⟩
  have HWL : Hid ((⟨[byteAt s k].toArray⟩ : ByteArray) = Wd) := Lib.hid (by
    apply ByteArray.ext
    apply Array.toList_inj.1
    rw [← hWd, extract_list, hdr, show j - k = 1 by omega]
    rfl)
  have hkj : (k : Int) ≤ (j : Int) := by omega
  have hjS : (j : Int) ≤ (s.size : Int) := by omega
  clear hdr e1 e2 hl hd hb1 hL0 hj hbk h45 hm
  go_enter Tryd.func26, Tryd.ntmps26
  go_wp2_with fail
  refine (hlet _).mono ?_
  rintro e w2 ⟨rfl, rfl⟩
  go_wp2_with fail
  refine (hdig _).mono ?_
  rintro e w2 ⟨rfl, rfl⟩
  go_wp2_with fail
  refine bodyPost_ret (v := .tuple #[.agg #[.int .u8 3, .string Wd, I 0, I k], I j, I 0]) (by simp [results, Tryd.results26, go_sem, hWd]) rfl ?_
  rw [HPO.out]
  exact rgood HT.out HWL.out HJ.out ((New.refl w).alloc _)
set_option maxRecDepth 100000 in
set_option maxHeartbeats 8000000 in
theorem rtok_m125_i (w : World) (s : ByteArray) (k j : Nat) (hj : k + 1 = j) (hk : k < s.size) (hs : s.size ≤ 1048576) (hin : j < s.size) (hm : (byteAt s k).toNat = 125) :
    Calls Tryd.prog 26 #[.string s, I k] w (RTokAns w s k) := by
  obtain ⟨PO, hPO⟩ : ∃ PO, PO = RTokAns w s k := ⟨_, rfl⟩
  rw [← hPO]
  have HPO := Lib.hid hPO
  have hdr := dropAt' s k hk
  have hlen := toList_len s
  have h255 := (byteAt s k).toNat_lt
  have hkI : (k : Int) < (s.size : Int) := by omega
  have hw1 : IntKind.i64.wrap ((k : Int) + 1) = (j : Int) := by rw [IntWalk.i64_in _ (by omega)]; omega
  have hbk : byteAt s k = s[k] := byteAt_in s k hk
  have hjI : (j : Int) < (s.size : Int) := by omega
  have hjs : j ≤ s.size := by omega
  have hb1 : byteAt s j = s[j] := byteAt_in s j hin
  rw [hj] at hdr
  obtain ⟨L, hL⟩ : ∃ L, s.data.toList.drop j = L := ⟨_, rfl⟩
  have hLlen : L.length = s.size - j := by rw [← hL, List.length_drop, hlen]
  have hLat : ∀ t (ht : t < s.size), j ≤ t → L[t - j]? = some s[t] := fun t ht h0 => by
    rw [← hL, List.getElem?_drop, show j + (t - j) = t by omega, Array.getElem?_toList]
    exact Array.getElem?_eq_getElem ht
  have hL0 : L.headD 0 = byteAt s j := by rw [← hL]; rfl
  rw [hL] at hdr
  have HL := Lib.hid hLlen
  have HAT := Lib.hid hLat
  have HJ := Lib.hid hj
  have HDR := Lib.hid hdr
  clear hPO hL hLlen hLat hlen
  have h45 : (byteAt s k).toNat ≠ 45 := by omega
  have hl : isLet (byteAt s k) = false := by
    cases e : isLet (byteAt s k) with
    | false => rfl
    | true => have := (isLet_iff _).1 e; omega
  have hd : isDig (byteAt s k) = false := by
    cases e : isDig (byteAt s k) with
    | false => rfl
    | true => have := (isDig_iff _).1 e; omega
  have HT : Hid (tokR (s.data.toList.drop k) = .good 3 [byteAt s k] 0 1) := Lib.hid (by
    have hn1 : ¬ (isDig (byteAt s k) = true ∨ ((byteAt s k).toNat = 45 ∧ isDig (L.headD 0) = true)) := by
      rintro (x | ⟨x, _⟩)
      · rw [hd] at x; cases x
      · exact h45 x
    rw [hdr, tokR_cons, if_neg (by rw [hl]; simp), if_neg hn1, if_neg (fun x => h45 x.1)]
    rw [if_pos (by unfold isMrk; rw [decide_eq_true_iff]; omega)])
  have hlet := fun W => rlet_any W ((byteAt s k).toNat : Int)
  have hdig := fun W => rdig_any W ((byteAt s k).toNat : Int)
  have e1 : letterB ((byteAt s k).toNat : Int) = false := hl
  have e2 : digitB ((byteAt s k).toNat : Int) = false := hd
  rw [e1, hbk] at hlet
  rw [e2, hbk] at hdig
  have e45 : ((s[k].toNat : Int) == 45) = false := by rw [← hbk]; exact b_no (k := 45) h45
  have m123 : ((s[k].toNat : Int) == 123) = false := by rw [← hbk]; exact b_no (k := 123) (by omega)
  have m125 : ((s[k].toNat : Int) == 125) = true := by rw [← hbk]; exact b_yes (k := 125) (by omega)
  obtain ⟨Wd, hWd⟩ : ∃ Wd, s.extract k j = Wd := ⟨_, rfl⟩
  have HWL : Hid ((⟨[byteAt s k].toArray⟩ : ByteArray) = Wd) := Lib.hid (by
    apply ByteArray.ext
    apply Array.toList_inj.1
    rw [← hWd, extract_list, hdr, show j - k = 1 by omega]
    rfl)
  have hkj : (k : Int) ≤ (j : Int) := by omega
  have hjS : (j : Int) ≤ (s.size : Int) := by omega
  clear hdr e1 e2 hl hd hb1 hL0 hj hbk h45 hm
  go_enter Tryd.func26, Tryd.ntmps26
  go_wp2_with fail
  refine (hlet _).mono ?_
  rintro e w2 ⟨rfl, rfl⟩
  go_wp2_with fail
  refine (hdig _).mono ?_
  rintro e w2 ⟨rfl, rfl⟩
  go_wp2_with fail
  refine bodyPost_ret (v := .tuple #[.agg #[.int .u8 3, .string Wd, I 0, I k], I j, I 0]) (by simp [results, Tryd.results26, go_sem, hWd]) rfl ?_
  rw [HPO.out]
  exact rgood HT.out HWL.out HJ.out ((New.refl w).alloc _)
set_option maxRecDepth 100000 in
set_option maxHeartbeats 8000000 in
theorem rtok_m61_i (w : World) (s : ByteArray) (k j : Nat) (hj : k + 1 = j) (hk : k < s.size) (hs : s.size ≤ 1048576) (hin : j < s.size) (hm : (byteAt s k).toNat = 61) :
    Calls Tryd.prog 26 #[.string s, I k] w (RTokAns w s k) := by
  obtain ⟨PO, hPO⟩ : ∃ PO, PO = RTokAns w s k := ⟨_, rfl⟩
  rw [← hPO]
  have HPO := Lib.hid hPO
  have hdr := dropAt' s k hk
  have hlen := toList_len s
  have h255 := (byteAt s k).toNat_lt
  have hkI : (k : Int) < (s.size : Int) := by omega
  have hw1 : IntKind.i64.wrap ((k : Int) + 1) = (j : Int) := by rw [IntWalk.i64_in _ (by omega)]; omega
  have hbk : byteAt s k = s[k] := byteAt_in s k hk
  have hjI : (j : Int) < (s.size : Int) := by omega
  have hjs : j ≤ s.size := by omega
  have hb1 : byteAt s j = s[j] := byteAt_in s j hin
  rw [hj] at hdr
  obtain ⟨L, hL⟩ : ∃ L, s.data.toList.drop j = L := ⟨_, rfl⟩
  have hLlen : L.length = s.size - j := by rw [← hL, List.length_drop, hlen]
  have hLat : ∀ t (ht : t < s.size), j ≤ t → L[t - j]? = some s[t] := fun t ht h0 => by
    rw [← hL, List.getElem?_drop, show j + (t - j) = t by omega, Array.getElem?_toList]
    exact Array.getElem?_eq_getElem ht
  have hL0 : L.headD 0 = byteAt s j := by rw [← hL]; rfl
  rw [hL] at hdr
  have HL := Lib.hid hLlen
  have HAT := Lib.hid hLat
  have HJ := Lib.hid hj
  have HDR := Lib.hid hdr
  clear hPO hL hLlen hLat hlen
  have h45 : (byteAt s k).toNat ≠ 45 := by omega
  have hl : isLet (byteAt s k) = false := by
    cases e : isLet (byteAt s k) with
    | false => rfl
    | true => have := (isLet_iff _).1 e; omega
  have hd : isDig (byteAt s k) = false := by
    cases e : isDig (byteAt s k) with
    | false => rfl
    | true => have := (isDig_iff _).1 e; omega
  have HT : Hid (tokR (s.data.toList.drop k) = .good 3 [byteAt s k] 0 1) := Lib.hid (by
    have hn1 : ¬ (isDig (byteAt s k) = true ∨ ((byteAt s k).toNat = 45 ∧ isDig (L.headD 0) = true)) := by
      rintro (x | ⟨x, _⟩)
      · rw [hd] at x; cases x
      · exact h45 x
    rw [hdr, tokR_cons, if_neg (by rw [hl]; simp), if_neg hn1, if_neg (fun x => h45 x.1)]
    rw [if_pos (by unfold isMrk; rw [decide_eq_true_iff]; omega)])
  have hlet := fun W => rlet_any W ((byteAt s k).toNat : Int)
  have hdig := fun W => rdig_any W ((byteAt s k).toNat : Int)
  have e1 : letterB ((byteAt s k).toNat : Int) = false := hl
  have e2 : digitB ((byteAt s k).toNat : Int) = false := hd
  rw [e1, hbk] at hlet
  rw [e2, hbk] at hdig
  have e45 : ((s[k].toNat : Int) == 45) = false := by rw [← hbk]; exact b_no (k := 45) h45
  have m123 : ((s[k].toNat : Int) == 123) = false := by rw [← hbk]; exact b_no (k := 123) (by omega)
  have m125 : ((s[k].toNat : Int) == 125) = false := by rw [← hbk]; exact b_no (k := 125) (by omega)
  have m61 : ((s[k].toNat : Int) == 61) = true := by rw [← hbk]; exact b_yes (k := 61) (by omega)
  obtain ⟨Wd, hWd⟩ : ∃ Wd, s.extract k j = Wd := ⟨_, rfl⟩
  have HWL : Hid ((⟨[byteAt s k].toArray⟩ : ByteArray) = Wd) := Lib.hid (by
    apply ByteArray.ext
    apply Array.toList_inj.1
    rw [← hWd, extract_list, hdr, show j - k = 1 by omega]
    rfl)
  have hkj : (k : Int) ≤ (j : Int) := by omega
  have hjS : (j : Int) ≤ (s.size : Int) := by omega
  clear hdr e1 e2 hl hd hb1 hL0 hj hbk h45 hm
  go_enter Tryd.func26, Tryd.ntmps26
  go_wp2_with fail
  refine (hlet _).mono ?_
  rintro e w2 ⟨rfl, rfl⟩
  go_wp2_with fail
  refine (hdig _).mono ?_
  rintro e w2 ⟨rfl, rfl⟩
  go_wp2_with fail
  refine bodyPost_ret (v := .tuple #[.agg #[.int .u8 3, .string Wd, I 0, I k], I j, I 0]) (by simp [results, Tryd.results26, go_sem, hWd]) rfl ?_
  rw [HPO.out]
  exact rgood HT.out HWL.out HJ.out ((New.refl w).alloc _)
set_option maxRecDepth 100000 in
set_option maxHeartbeats 8000000 in
theorem rtok_m59_i (w : World) (s : ByteArray) (k j : Nat) (hj : k + 1 = j) (hk : k < s.size) (hs : s.size ≤ 1048576) (hin : j < s.size) (hm : (byteAt s k).toNat = 59) :
    Calls Tryd.prog 26 #[.string s, I k] w (RTokAns w s k) := by
  obtain ⟨PO, hPO⟩ : ∃ PO, PO = RTokAns w s k := ⟨_, rfl⟩
  rw [← hPO]
  have HPO := Lib.hid hPO
  have hdr := dropAt' s k hk
  have hlen := toList_len s
  have h255 := (byteAt s k).toNat_lt
  have hkI : (k : Int) < (s.size : Int) := by omega
  have hw1 : IntKind.i64.wrap ((k : Int) + 1) = (j : Int) := by rw [IntWalk.i64_in _ (by omega)]; omega
  have hbk : byteAt s k = s[k] := byteAt_in s k hk
  have hjI : (j : Int) < (s.size : Int) := by omega
  have hjs : j ≤ s.size := by omega
  have hb1 : byteAt s j = s[j] := byteAt_in s j hin
  rw [hj] at hdr
  obtain ⟨L, hL⟩ : ∃ L, s.data.toList.drop j = L := ⟨_, rfl⟩
  have hLlen : L.length = s.size - j := by rw [← hL, List.length_drop, hlen]
  have hLat : ∀ t (ht : t < s.size), j ≤ t → L[t - j]? = some s[t] := fun t ht h0 => by
    rw [← hL, List.getElem?_drop, show j + (t - j) = t by omega, Array.getElem?_toList]
    exact Array.getElem?_eq_getElem ht
  have hL0 : L.headD 0 = byteAt s j := by rw [← hL]; rfl
  rw [hL] at hdr
  have HL := Lib.hid hLlen
  have HAT := Lib.hid hLat
  have HJ := Lib.hid hj
  have HDR := Lib.hid hdr
  clear hPO hL hLlen hLat hlen
  have h45 : (byteAt s k).toNat ≠ 45 := by omega
  have hl : isLet (byteAt s k) = false := by
    cases e : isLet (byteAt s k) with
    | false => rfl
    | true => have := (isLet_iff _).1 e; omega
  have hd : isDig (byteAt s k) = false := by
    cases e : isDig (byteAt s k) with
    | false => rfl
    | true => have := (isDig_iff _).1 e; omega
  have HT : Hid (tokR (s.data.toList.drop k) = .good 3 [byteAt s k] 0 1) := Lib.hid (by
    have hn1 : ¬ (isDig (byteAt s k) = true ∨ ((byteAt s k).toNat = 45 ∧ isDig (L.headD 0) = true)) := by
      rintro (x | ⟨x, _⟩)
      · rw [hd] at x; cases x
      · exact h45 x
    rw [hdr, tokR_cons, if_neg (by rw [hl]; simp), if_neg hn1, if_neg (fun x => h45 x.1)]
    rw [if_pos (by unfold isMrk; rw [decide_eq_true_iff]; omega)])
  have hlet := fun W => rlet_any W ((byteAt s k).toNat : Int)
  have hdig := fun W => rdig_any W ((byteAt s k).toNat : Int)
  have e1 : letterB ((byteAt s k).toNat : Int) = false := hl
  have e2 : digitB ((byteAt s k).toNat : Int) = false := hd
  rw [e1, hbk] at hlet
  rw [e2, hbk] at hdig
  have e45 : ((s[k].toNat : Int) == 45) = false := by rw [← hbk]; exact b_no (k := 45) h45
  have m123 : ((s[k].toNat : Int) == 123) = false := by rw [← hbk]; exact b_no (k := 123) (by omega)
  have m125 : ((s[k].toNat : Int) == 125) = false := by rw [← hbk]; exact b_no (k := 125) (by omega)
  have m61 : ((s[k].toNat : Int) == 61) = false := by rw [← hbk]; exact b_no (k := 61) (by omega)
  have m59 : ((s[k].toNat : Int) == 59) = true := by rw [← hbk]; exact b_yes (k := 59) (by omega)
  obtain ⟨Wd, hWd⟩ : ∃ Wd, s.extract k j = Wd := ⟨_, rfl⟩
  have HWL : Hid ((⟨[byteAt s k].toArray⟩ : ByteArray) = Wd) := Lib.hid (by
    apply ByteArray.ext
    apply Array.toList_inj.1
    rw [← hWd, extract_list, hdr, show j - k = 1 by omega]
    rfl)
  have hkj : (k : Int) ≤ (j : Int) := by omega
  have hjS : (j : Int) ≤ (s.size : Int) := by omega
  clear hdr e1 e2 hl hd hb1 hL0 hj hbk h45 hm
  go_enter Tryd.func26, Tryd.ntmps26
  go_wp2_with fail
  refine (hlet _).mono ?_
  rintro e w2 ⟨rfl, rfl⟩
  go_wp2_with fail
  refine (hdig _).mono ?_
  rintro e w2 ⟨rfl, rfl⟩
  go_wp2_with fail
  refine bodyPost_ret (v := .tuple #[.agg #[.int .u8 3, .string Wd, I 0, I k], I j, I 0]) (by simp [results, Tryd.results26, go_sem, hWd]) rfl ?_
  rw [HPO.out]
  exact rgood HT.out HWL.out HJ.out ((New.refl w).alloc _)
set_option maxRecDepth 100000 in
set_option maxHeartbeats 8000000 in
theorem rtok_m46_i (w : World) (s : ByteArray) (k j : Nat) (hj : k + 1 = j) (hk : k < s.size) (hs : s.size ≤ 1048576) (hin : j < s.size) (hm : (byteAt s k).toNat = 46) :
    Calls Tryd.prog 26 #[.string s, I k] w (RTokAns w s k) := by
  obtain ⟨PO, hPO⟩ : ∃ PO, PO = RTokAns w s k := ⟨_, rfl⟩
  rw [← hPO]
  have HPO := Lib.hid hPO
  have hdr := dropAt' s k hk
  have hlen := toList_len s
  have h255 := (byteAt s k).toNat_lt
  have hkI : (k : Int) < (s.size : Int) := by omega
  have hw1 : IntKind.i64.wrap ((k : Int) + 1) = (j : Int) := by rw [IntWalk.i64_in _ (by omega)]; omega
  have hbk : byteAt s k = s[k] := byteAt_in s k hk
  have hjI : (j : Int) < (s.size : Int) := by omega
  have hjs : j ≤ s.size := by omega
  have hb1 : byteAt s j = s[j] := byteAt_in s j hin
  rw [hj] at hdr
  obtain ⟨L, hL⟩ : ∃ L, s.data.toList.drop j = L := ⟨_, rfl⟩
  have hLlen : L.length = s.size - j := by rw [← hL, List.length_drop, hlen]
  have hLat : ∀ t (ht : t < s.size), j ≤ t → L[t - j]? = some s[t] := fun t ht h0 => by
    rw [← hL, List.getElem?_drop, show j + (t - j) = t by omega, Array.getElem?_toList]
    exact Array.getElem?_eq_getElem ht
  have hL0 : L.headD 0 = byteAt s j := by rw [← hL]; rfl
  rw [hL] at hdr
  have HL := Lib.hid hLlen
  have HAT := Lib.hid hLat
  have HJ := Lib.hid hj
  have HDR := Lib.hid hdr
  clear hPO hL hLlen hLat hlen
  have h45 : (byteAt s k).toNat ≠ 45 := by omega
  have hl : isLet (byteAt s k) = false := by
    cases e : isLet (byteAt s k) with
    | false => rfl
    | true => have := (isLet_iff _).1 e; omega
  have hd : isDig (byteAt s k) = false := by
    cases e : isDig (byteAt s k) with
    | false => rfl
    | true => have := (isDig_iff _).1 e; omega
  have HT : Hid (tokR (s.data.toList.drop k) = .good 3 [byteAt s k] 0 1) := Lib.hid (by
    have hn1 : ¬ (isDig (byteAt s k) = true ∨ ((byteAt s k).toNat = 45 ∧ isDig (L.headD 0) = true)) := by
      rintro (x | ⟨x, _⟩)
      · rw [hd] at x; cases x
      · exact h45 x
    rw [hdr, tokR_cons, if_neg (by rw [hl]; simp), if_neg hn1, if_neg (fun x => h45 x.1)]
    rw [if_pos (by unfold isMrk; rw [decide_eq_true_iff]; omega)])
  have hlet := fun W => rlet_any W ((byteAt s k).toNat : Int)
  have hdig := fun W => rdig_any W ((byteAt s k).toNat : Int)
  have e1 : letterB ((byteAt s k).toNat : Int) = false := hl
  have e2 : digitB ((byteAt s k).toNat : Int) = false := hd
  rw [e1, hbk] at hlet
  rw [e2, hbk] at hdig
  have e45 : ((s[k].toNat : Int) == 45) = false := by rw [← hbk]; exact b_no (k := 45) h45
  have m123 : ((s[k].toNat : Int) == 123) = false := by rw [← hbk]; exact b_no (k := 123) (by omega)
  have m125 : ((s[k].toNat : Int) == 125) = false := by rw [← hbk]; exact b_no (k := 125) (by omega)
  have m61 : ((s[k].toNat : Int) == 61) = false := by rw [← hbk]; exact b_no (k := 61) (by omega)
  have m59 : ((s[k].toNat : Int) == 59) = false := by rw [← hbk]; exact b_no (k := 59) (by omega)
  have m46 : ((s[k].toNat : Int) == 46) = true := by rw [← hbk]; exact b_yes (k := 46) (by omega)
  obtain ⟨Wd, hWd⟩ : ∃ Wd, s.extract k j = Wd := ⟨_, rfl⟩
  have HWL : Hid ((⟨[byteAt s k].toArray⟩ : ByteArray) = Wd) := Lib.hid (by
    apply ByteArray.ext
    apply Array.toList_inj.1
    rw [← hWd, extract_list, hdr, show j - k = 1 by omega]
    rfl)
  have hkj : (k : Int) ≤ (j : Int) := by omega
  have hjS : (j : Int) ≤ (s.size : Int) := by omega
  clear hdr e1 e2 hl hd hb1 hL0 hj hbk h45 hm
  go_enter Tryd.func26, Tryd.ntmps26
  go_wp2_with fail
  refine (hlet _).mono ?_
  rintro e w2 ⟨rfl, rfl⟩
  go_wp2_with fail
  refine (hdig _).mono ?_
  rintro e w2 ⟨rfl, rfl⟩
  go_wp2_with fail
  refine bodyPost_ret (v := .tuple #[.agg #[.int .u8 3, .string Wd, I 0, I k], I j, I 0]) (by simp [results, Tryd.results26, go_sem, hWd]) rfl ?_
  rw [HPO.out]
  exact rgood HT.out HWL.out HJ.out ((New.refl w).alloc _)
set_option maxRecDepth 100000 in
set_option maxHeartbeats 8000000 in
theorem rtok_byte_i (w : World) (s : ByteArray) (k j : Nat) (hj : k + 1 = j) (hk : k < s.size) (hs : s.size ≤ 1048576) (hin : j < s.size) (hl : isLet (byteAt s k) = false) (hd : isDig (byteAt s k) = false) (h45 : (byteAt s k).toNat ≠ 45) (hm : isMrk (byteAt s k) = false) :
    Calls Tryd.prog 26 #[.string s, I k] w (RTokAns w s k) := by
  obtain ⟨PO, hPO⟩ : ∃ PO, PO = RTokAns w s k := ⟨_, rfl⟩
  rw [← hPO]
  have HPO := Lib.hid hPO
  have hdr := dropAt' s k hk
  have hlen := toList_len s
  have h255 := (byteAt s k).toNat_lt
  have hkI : (k : Int) < (s.size : Int) := by omega
  have hw1 : IntKind.i64.wrap ((k : Int) + 1) = (j : Int) := by rw [IntWalk.i64_in _ (by omega)]; omega
  have hbk : byteAt s k = s[k] := byteAt_in s k hk
  have hjI : (j : Int) < (s.size : Int) := by omega
  have hjs : j ≤ s.size := by omega
  have hb1 : byteAt s j = s[j] := byteAt_in s j hin
  rw [hj] at hdr
  obtain ⟨L, hL⟩ : ∃ L, s.data.toList.drop j = L := ⟨_, rfl⟩
  have hLlen : L.length = s.size - j := by rw [← hL, List.length_drop, hlen]
  have hLat : ∀ t (ht : t < s.size), j ≤ t → L[t - j]? = some s[t] := fun t ht h0 => by
    rw [← hL, List.getElem?_drop, show j + (t - j) = t by omega, Array.getElem?_toList]
    exact Array.getElem?_eq_getElem ht
  have hL0 : L.headD 0 = byteAt s j := by rw [← hL]; rfl
  rw [hL] at hdr
  have HL := Lib.hid hLlen
  have HAT := Lib.hid hLat
  have HJ := Lib.hid hj
  have HDR := Lib.hid hdr
  clear hPO hL hLlen hLat hlen
  have HT : Hid (tokR (s.data.toList.drop k) = .bad 40) := Lib.hid (by
    have hn1 : ¬ (isDig (byteAt s k) = true ∨ ((byteAt s k).toNat = 45 ∧ isDig (L.headD 0) = true)) := by
      rintro (x | ⟨x, _⟩)
      · rw [hd] at x; cases x
      · exact h45 x
    rw [hdr, tokR_cons, if_neg (by rw [hl]; simp), if_neg hn1, if_neg (fun x => h45 x.1)]
    rw [if_neg (by rw [hm]; simp)])
  have hlet := fun W => rlet_any W ((byteAt s k).toNat : Int)
  have hdig := fun W => rdig_any W ((byteAt s k).toNat : Int)
  have e1 : letterB ((byteAt s k).toNat : Int) = false := hl
  have e2 : digitB ((byteAt s k).toNat : Int) = false := hd
  rw [e1, hbk] at hlet
  rw [e2, hbk] at hdig
  have e45 : ((s[k].toNat : Int) == 45) = false := by rw [← hbk]; exact b_no (k := 45) h45
  unfold isMrk at hm
  rw [decide_eq_false_iff_not] at hm
  have m123 : ((s[k].toNat : Int) == 123) = false := by rw [← hbk]; exact b_no (k := 123) (by omega)
  have m125 : ((s[k].toNat : Int) == 125) = false := by rw [← hbk]; exact b_no (k := 125) (by omega)
  have m61 : ((s[k].toNat : Int) == 61) = false := by rw [← hbk]; exact b_no (k := 61) (by omega)
  have m59 : ((s[k].toNat : Int) == 59) = false := by rw [← hbk]; exact b_no (k := 59) (by omega)
  have m46 : ((s[k].toNat : Int) == 46) = false := by rw [← hbk]; exact b_no (k := 46) (by omega)
  clear hdr e1 e2 hl hd hb1 hL0 hj hbk h45 hm
  go_enter Tryd.func26, Tryd.ntmps26
  go_wp2_with fail
  refine (hlet _).mono ?_
  rintro e w2 ⟨rfl, rfl⟩
  go_wp2_with fail
  refine (hdig _).mono ?_
  rintro e w2 ⟨rfl, rfl⟩
  go_wp2_with fail
  refine bodyPost_ret (v := .tuple #[.agg #[.int .u8 0, .string ⟨#[]⟩, I 0, I 0], I 0, I 40]) (by simp [results, Tryd.results26, go_sem]) rfl ?_
  rw [HPO.out]
  exact rbad HT.out ((New.refl w).alloc _)
set_option maxRecDepth 100000 in
set_option maxHeartbeats 8000000 in
theorem rtok_m123_o (w : World) (s : ByteArray) (k j : Nat) (hj : k + 1 = j) (hk : k < s.size) (hs : s.size ≤ 1048576) (hin : ¬ j < s.size) (hm : (byteAt s k).toNat = 123) :
    Calls Tryd.prog 26 #[.string s, I k] w (RTokAns w s k) := by
  obtain ⟨PO, hPO⟩ : ∃ PO, PO = RTokAns w s k := ⟨_, rfl⟩
  rw [← hPO]
  have HPO := Lib.hid hPO
  have hdr := dropAt' s k hk
  have hlen := toList_len s
  have h255 := (byteAt s k).toNat_lt
  have hkI : (k : Int) < (s.size : Int) := by omega
  have hw1 : IntKind.i64.wrap ((k : Int) + 1) = (j : Int) := by rw [IntWalk.i64_in _ (by omega)]; omega
  have hbk : byteAt s k = s[k] := byteAt_in s k hk
  have hjI : ¬ (j : Int) < (s.size : Int) := by omega
  have hjs : j ≤ s.size := by omega
  have hb1 : byteAt s j = 0 := byteAt_out s j hin
  rw [hj] at hdr
  obtain ⟨L, hL⟩ : ∃ L, s.data.toList.drop j = L := ⟨_, rfl⟩
  have hLlen : L.length = s.size - j := by rw [← hL, List.length_drop, hlen]
  have hLat : ∀ t (ht : t < s.size), j ≤ t → L[t - j]? = some s[t] := fun t ht h0 => by
    rw [← hL, List.getElem?_drop, show j + (t - j) = t by omega, Array.getElem?_toList]
    exact Array.getElem?_eq_getElem ht
  have hL0 : L.headD 0 = byteAt s j := by rw [← hL]; rfl
  rw [hL] at hdr
  have HL := Lib.hid hLlen
  have HAT := Lib.hid hLat
  have HJ := Lib.hid hj
  have HDR := Lib.hid hdr
  clear hPO hL hLlen hLat hlen
  have h45 : (byteAt s k).toNat ≠ 45 := by omega
  have hl : isLet (byteAt s k) = false := by
    cases e : isLet (byteAt s k) with
    | false => rfl
    | true => have := (isLet_iff _).1 e; omega
  have hd : isDig (byteAt s k) = false := by
    cases e : isDig (byteAt s k) with
    | false => rfl
    | true => have := (isDig_iff _).1 e; omega
  have HT : Hid (tokR (s.data.toList.drop k) = .good 3 [byteAt s k] 0 1) := Lib.hid (by
    have hn1 : ¬ (isDig (byteAt s k) = true ∨ ((byteAt s k).toNat = 45 ∧ isDig (L.headD 0) = true)) := by
      rintro (x | ⟨x, _⟩)
      · rw [hd] at x; cases x
      · exact h45 x
    rw [hdr, tokR_cons, if_neg (by rw [hl]; simp), if_neg hn1, if_neg (fun x => h45 x.1)]
    rw [if_pos (by unfold isMrk; rw [decide_eq_true_iff]; omega)])
  have hlet := fun W => rlet_any W ((byteAt s k).toNat : Int)
  have hdig := fun W => rdig_any W ((byteAt s k).toNat : Int)
  have e1 : letterB ((byteAt s k).toNat : Int) = false := hl
  have e2 : digitB ((byteAt s k).toNat : Int) = false := hd
  rw [e1, hbk] at hlet
  rw [e2, hbk] at hdig
  have e45 : ((s[k].toNat : Int) == 45) = false := by rw [← hbk]; exact b_no (k := 45) h45
  have m123 : ((s[k].toNat : Int) == 123) = true := by rw [← hbk]; exact b_yes (k := 123) (by omega)
  obtain ⟨Wd, hWd⟩ : ∃ Wd, s.extract k j = Wd := ⟨_, rfl⟩
  have HWL : Hid ((⟨[byteAt s k].toArray⟩ : ByteArray) = Wd) := Lib.hid (by
    apply ByteArray.ext
    apply Array.toList_inj.1
    rw [← hWd, extract_list, hdr, show j - k = 1 by omega]
    rfl)
  have hkj : (k : Int) ≤ (j : Int) := by omega
  have hjS : (j : Int) ≤ (s.size : Int) := by omega
  clear hdr e1 e2 hl hd hb1 hL0 hj hbk h45 hm
  go_enter Tryd.func26, Tryd.ntmps26
  go_wp2_with fail
  refine (hlet _).mono ?_
  rintro e w2 ⟨rfl, rfl⟩
  go_wp2_with fail
  refine (hdig _).mono ?_
  rintro e w2 ⟨rfl, rfl⟩
  go_wp2_with fail
  refine bodyPost_ret (v := .tuple #[.agg #[.int .u8 3, .string Wd, I 0, I k], I j, I 0]) (by simp [results, Tryd.results26, go_sem, hWd]) rfl ?_
  rw [HPO.out]
  exact rgood HT.out HWL.out HJ.out ((New.refl w).alloc _)
set_option maxRecDepth 100000 in
set_option maxHeartbeats 8000000 in
theorem rtok_m125_o (w : World) (s : ByteArray) (k j : Nat) (hj : k + 1 = j) (hk : k < s.size) (hs : s.size ≤ 1048576) (hin : ¬ j < s.size) (hm : (byteAt s k).toNat = 125) :
    Calls Tryd.prog 26 #[.string s, I k] w (RTokAns w s k) := by
  obtain ⟨PO, hPO⟩ : ∃ PO, PO = RTokAns w s k := ⟨_, rfl⟩
  rw [← hPO]
  have HPO := Lib.hid hPO
  have hdr := dropAt' s k hk
  have hlen := toList_len s
  have h255 := (byteAt s k).toNat_lt
  have hkI : (k : Int) < (s.size : Int) := by omega
  have hw1 : IntKind.i64.wrap ((k : Int) + 1) = (j : Int) := by rw [IntWalk.i64_in _ (by omega)]; omega
  have hbk : byteAt s k = s[k] := byteAt_in s k hk
  have hjI : ¬ (j : Int) < (s.size : Int) := by omega
  have hjs : j ≤ s.size := by omega
  have hb1 : byteAt s j = 0 := byteAt_out s j hin
  rw [hj] at hdr
  obtain ⟨L, hL⟩ : ∃ L, s.data.toList.drop j = L := ⟨_, rfl⟩
  have hLlen : L.length = s.size - j := by rw [← hL, List.length_drop, hlen]
  have hLat : ∀ t (ht : t < s.size), j ≤ t → L[t - j]? = some s[t] := fun t ht h0 => by
    rw [← hL, List.getElem?_drop, show j + (t - j) = t by omega, Array.getElem?_toList]
    exact Array.getElem?_eq_getElem ht
  have hL0 : L.headD 0 = byteAt s j := by rw [← hL]; rfl
  rw [hL] at hdr
  have HL := Lib.hid hLlen
  have HAT := Lib.hid hLat
  have HJ := Lib.hid hj
  have HDR := Lib.hid hdr
  clear hPO hL hLlen hLat hlen
  have h45 : (byteAt s k).toNat ≠ 45 := by omega
  have hl : isLet (byteAt s k) = false := by
    cases e : isLet (byteAt s k) with
    | false => rfl
    | true => have := (isLet_iff _).1 e; omega
  have hd : isDig (byteAt s k) = false := by
    cases e : isDig (byteAt s k) with
    | false => rfl
    | true => have := (isDig_iff _).1 e; omega
  have HT : Hid (tokR (s.data.toList.drop k) = .good 3 [byteAt s k] 0 1) := Lib.hid (by
    have hn1 : ¬ (isDig (byteAt s k) = true ∨ ((byteAt s k).toNat = 45 ∧ isDig (L.headD 0) = true)) := by
      rintro (x | ⟨x, _⟩)
      · rw [hd] at x; cases x
      · exact h45 x
    rw [hdr, tokR_cons, if_neg (by rw [hl]; simp), if_neg hn1, if_neg (fun x => h45 x.1)]
    rw [if_pos (by unfold isMrk; rw [decide_eq_true_iff]; omega)])
  have hlet := fun W => rlet_any W ((byteAt s k).toNat : Int)
  have hdig := fun W => rdig_any W ((byteAt s k).toNat : Int)
  have e1 : letterB ((byteAt s k).toNat : Int) = false := hl
  have e2 : digitB ((byteAt s k).toNat : Int) = false := hd
  rw [e1, hbk] at hlet
  rw [e2, hbk] at hdig
  have e45 : ((s[k].toNat : Int) == 45) = false := by rw [← hbk]; exact b_no (k := 45) h45
  have m123 : ((s[k].toNat : Int) == 123) = false := by rw [← hbk]; exact b_no (k := 123) (by omega)
  have m125 : ((s[k].toNat : Int) == 125) = true := by rw [← hbk]; exact b_yes (k := 125) (by omega)
  obtain ⟨Wd, hWd⟩ : ∃ Wd, s.extract k j = Wd := ⟨_, rfl⟩
  have HWL : Hid ((⟨[byteAt s k].toArray⟩ : ByteArray) = Wd) := Lib.hid (by
    apply ByteArray.ext
    apply Array.toList_inj.1
    rw [← hWd, extract_list, hdr, show j - k = 1 by omega]
    rfl)
  have hkj : (k : Int) ≤ (j : Int) := by omega
  have hjS : (j : Int) ≤ (s.size : Int) := by omega
  clear hdr e1 e2 hl hd hb1 hL0 hj hbk h45 hm
  go_enter Tryd.func26, Tryd.ntmps26
  go_wp2_with fail
  refine (hlet _).mono ?_
  rintro e w2 ⟨rfl, rfl⟩
  go_wp2_with fail
  refine (hdig _).mono ?_
  rintro e w2 ⟨rfl, rfl⟩
  go_wp2_with fail
  refine bodyPost_ret (v := .tuple #[.agg #[.int .u8 3, .string Wd, I 0, I k], I j, I 0]) (by simp [results, Tryd.results26, go_sem, hWd]) rfl ?_
  rw [HPO.out]
  exact rgood HT.out HWL.out HJ.out ((New.refl w).alloc _)
set_option maxRecDepth 100000 in
set_option maxHeartbeats 8000000 in
theorem rtok_m61_o (w : World) (s : ByteArray) (k j : Nat) (hj : k + 1 = j) (hk : k < s.size) (hs : s.size ≤ 1048576) (hin : ¬ j < s.size) (hm : (byteAt s k).toNat = 61) :
    Calls Tryd.prog 26 #[.string s, I k] w (RTokAns w s k) := by
  obtain ⟨PO, hPO⟩ : ∃ PO, PO = RTokAns w s k := ⟨_, rfl⟩
  rw [← hPO]
  have HPO := Lib.hid hPO
  have hdr := dropAt' s k hk
  have hlen := toList_len s
  have h255 := (byteAt s k).toNat_lt
  have hkI : (k : Int) < (s.size : Int) := by omega
  have hw1 : IntKind.i64.wrap ((k : Int) + 1) = (j : Int) := by rw [IntWalk.i64_in _ (by omega)]; omega
  have hbk : byteAt s k = s[k] := byteAt_in s k hk
  have hjI : ¬ (j : Int) < (s.size : Int) := by omega
  have hjs : j ≤ s.size := by omega
  have hb1 : byteAt s j = 0 := byteAt_out s j hin
  rw [hj] at hdr
  obtain ⟨L, hL⟩ : ∃ L, s.data.toList.drop j = L := ⟨_, rfl⟩
  have hLlen : L.length = s.size - j := by rw [← hL, List.length_drop, hlen]
  have hLat : ∀ t (ht : t < s.size), j ≤ t → L[t - j]? = some s[t] := fun t ht h0 => by
    rw [← hL, List.getElem?_drop, show j + (t - j) = t by omega, Array.getElem?_toList]
    exact Array.getElem?_eq_getElem ht
  have hL0 : L.headD 0 = byteAt s j := by rw [← hL]; rfl
  rw [hL] at hdr
  have HL := Lib.hid hLlen
  have HAT := Lib.hid hLat
  have HJ := Lib.hid hj
  have HDR := Lib.hid hdr
  clear hPO hL hLlen hLat hlen
  have h45 : (byteAt s k).toNat ≠ 45 := by omega
  have hl : isLet (byteAt s k) = false := by
    cases e : isLet (byteAt s k) with
    | false => rfl
    | true => have := (isLet_iff _).1 e; omega
  have hd : isDig (byteAt s k) = false := by
    cases e : isDig (byteAt s k) with
    | false => rfl
    | true => have := (isDig_iff _).1 e; omega
  have HT : Hid (tokR (s.data.toList.drop k) = .good 3 [byteAt s k] 0 1) := Lib.hid (by
    have hn1 : ¬ (isDig (byteAt s k) = true ∨ ((byteAt s k).toNat = 45 ∧ isDig (L.headD 0) = true)) := by
      rintro (x | ⟨x, _⟩)
      · rw [hd] at x; cases x
      · exact h45 x
    rw [hdr, tokR_cons, if_neg (by rw [hl]; simp), if_neg hn1, if_neg (fun x => h45 x.1)]
    rw [if_pos (by unfold isMrk; rw [decide_eq_true_iff]; omega)])
  have hlet := fun W => rlet_any W ((byteAt s k).toNat : Int)
  have hdig := fun W => rdig_any W ((byteAt s k).toNat : Int)
  have e1 : letterB ((byteAt s k).toNat : Int) = false := hl
  have e2 : digitB ((byteAt s k).toNat : Int) = false := hd
  rw [e1, hbk] at hlet
  rw [e2, hbk] at hdig
  have e45 : ((s[k].toNat : Int) == 45) = false := by rw [← hbk]; exact b_no (k := 45) h45
  have m123 : ((s[k].toNat : Int) == 123) = false := by rw [← hbk]; exact b_no (k := 123) (by omega)
  have m125 : ((s[k].toNat : Int) == 125) = false := by rw [← hbk]; exact b_no (k := 125) (by omega)
  have m61 : ((s[k].toNat : Int) == 61) = true := by rw [← hbk]; exact b_yes (k := 61) (by omega)
  obtain ⟨Wd, hWd⟩ : ∃ Wd, s.extract k j = Wd := ⟨_, rfl⟩
  have HWL : Hid ((⟨[byteAt s k].toArray⟩ : ByteArray) = Wd) := Lib.hid (by
    apply ByteArray.ext
    apply Array.toList_inj.1
    rw [← hWd, extract_list, hdr, show j - k = 1 by omega]
    rfl)
  have hkj : (k : Int) ≤ (j : Int) := by omega
  have hjS : (j : Int) ≤ (s.size : Int) := by omega
  clear hdr e1 e2 hl hd hb1 hL0 hj hbk h45 hm
  go_enter Tryd.func26, Tryd.ntmps26
  go_wp2_with fail
  refine (hlet _).mono ?_
  rintro e w2 ⟨rfl, rfl⟩
  go_wp2_with fail
  refine (hdig _).mono ?_
  rintro e w2 ⟨rfl, rfl⟩
  go_wp2_with fail
  refine bodyPost_ret (v := .tuple #[.agg #[.int .u8 3, .string Wd, I 0, I k], I j, I 0]) (by simp [results, Tryd.results26, go_sem, hWd]) rfl ?_
  rw [HPO.out]
  exact rgood HT.out HWL.out HJ.out ((New.refl w).alloc _)
set_option maxRecDepth 100000 in
set_option maxHeartbeats 8000000 in
theorem rtok_m59_o (w : World) (s : ByteArray) (k j : Nat) (hj : k + 1 = j) (hk : k < s.size) (hs : s.size ≤ 1048576) (hin : ¬ j < s.size) (hm : (byteAt s k).toNat = 59) :
    Calls Tryd.prog 26 #[.string s, I k] w (RTokAns w s k) := by
  obtain ⟨PO, hPO⟩ : ∃ PO, PO = RTokAns w s k := ⟨_, rfl⟩
  rw [← hPO]
  have HPO := Lib.hid hPO
  have hdr := dropAt' s k hk
  have hlen := toList_len s
  have h255 := (byteAt s k).toNat_lt
  have hkI : (k : Int) < (s.size : Int) := by omega
  have hw1 : IntKind.i64.wrap ((k : Int) + 1) = (j : Int) := by rw [IntWalk.i64_in _ (by omega)]; omega
  have hbk : byteAt s k = s[k] := byteAt_in s k hk
  have hjI : ¬ (j : Int) < (s.size : Int) := by omega
  have hjs : j ≤ s.size := by omega
  have hb1 : byteAt s j = 0 := byteAt_out s j hin
  rw [hj] at hdr
  obtain ⟨L, hL⟩ : ∃ L, s.data.toList.drop j = L := ⟨_, rfl⟩
  have hLlen : L.length = s.size - j := by rw [← hL, List.length_drop, hlen]
  have hLat : ∀ t (ht : t < s.size), j ≤ t → L[t - j]? = some s[t] := fun t ht h0 => by
    rw [← hL, List.getElem?_drop, show j + (t - j) = t by omega, Array.getElem?_toList]
    exact Array.getElem?_eq_getElem ht
  have hL0 : L.headD 0 = byteAt s j := by rw [← hL]; rfl
  rw [hL] at hdr
  have HL := Lib.hid hLlen
  have HAT := Lib.hid hLat
  have HJ := Lib.hid hj
  have HDR := Lib.hid hdr
  clear hPO hL hLlen hLat hlen
  have h45 : (byteAt s k).toNat ≠ 45 := by omega
  have hl : isLet (byteAt s k) = false := by
    cases e : isLet (byteAt s k) with
    | false => rfl
    | true => have := (isLet_iff _).1 e; omega
  have hd : isDig (byteAt s k) = false := by
    cases e : isDig (byteAt s k) with
    | false => rfl
    | true => have := (isDig_iff _).1 e; omega
  have HT : Hid (tokR (s.data.toList.drop k) = .good 3 [byteAt s k] 0 1) := Lib.hid (by
    have hn1 : ¬ (isDig (byteAt s k) = true ∨ ((byteAt s k).toNat = 45 ∧ isDig (L.headD 0) = true)) := by
      rintro (x | ⟨x, _⟩)
      · rw [hd] at x; cases x
      · exact h45 x
    rw [hdr, tokR_cons, if_neg (by rw [hl]; simp), if_neg hn1, if_neg (fun x => h45 x.1)]
    rw [if_pos (by unfold isMrk; rw [decide_eq_true_iff]; omega)])
  have hlet := fun W => rlet_any W ((byteAt s k).toNat : Int)
  have hdig := fun W => rdig_any W ((byteAt s k).toNat : Int)
  have e1 : letterB ((byteAt s k).toNat : Int) = false := hl
  have e2 : digitB ((byteAt s k).toNat : Int) = false := hd
  rw [e1, hbk] at hlet
  rw [e2, hbk] at hdig
  have e45 : ((s[k].toNat : Int) == 45) = false := by rw [← hbk]; exact b_no (k := 45) h45
  have m123 : ((s[k].toNat : Int) == 123) = false := by rw [← hbk]; exact b_no (k := 123) (by omega)
  have m125 : ((s[k].toNat : Int) == 125) = false := by rw [← hbk]; exact b_no (k := 125) (by omega)
  have m61 : ((s[k].toNat : Int) == 61) = false := by rw [← hbk]; exact b_no (k := 61) (by omega)
  have m59 : ((s[k].toNat : Int) == 59) = true := by rw [← hbk]; exact b_yes (k := 59) (by omega)
  obtain ⟨Wd, hWd⟩ : ∃ Wd, s.extract k j = Wd := ⟨_, rfl⟩
  have HWL : Hid ((⟨[byteAt s k].toArray⟩ : ByteArray) = Wd) := Lib.hid (by
    apply ByteArray.ext
    apply Array.toList_inj.1
    rw [← hWd, extract_list, hdr, show j - k = 1 by omega]
    rfl)
  have hkj : (k : Int) ≤ (j : Int) := by omega
  have hjS : (j : Int) ≤ (s.size : Int) := by omega
  clear hdr e1 e2 hl hd hb1 hL0 hj hbk h45 hm
  go_enter Tryd.func26, Tryd.ntmps26
  go_wp2_with fail
  refine (hlet _).mono ?_
  rintro e w2 ⟨rfl, rfl⟩
  go_wp2_with fail
  refine (hdig _).mono ?_
  rintro e w2 ⟨rfl, rfl⟩
  go_wp2_with fail
  refine bodyPost_ret (v := .tuple #[.agg #[.int .u8 3, .string Wd, I 0, I k], I j, I 0]) (by simp [results, Tryd.results26, go_sem, hWd]) rfl ?_
  rw [HPO.out]
  exact rgood HT.out HWL.out HJ.out ((New.refl w).alloc _)
set_option maxRecDepth 100000 in
set_option maxHeartbeats 8000000 in
theorem rtok_m46_o (w : World) (s : ByteArray) (k j : Nat) (hj : k + 1 = j) (hk : k < s.size) (hs : s.size ≤ 1048576) (hin : ¬ j < s.size) (hm : (byteAt s k).toNat = 46) :
    Calls Tryd.prog 26 #[.string s, I k] w (RTokAns w s k) := by
  obtain ⟨PO, hPO⟩ : ∃ PO, PO = RTokAns w s k := ⟨_, rfl⟩
  rw [← hPO]
  have HPO := Lib.hid hPO
  have hdr := dropAt' s k hk
  have hlen := toList_len s
  have h255 := (byteAt s k).toNat_lt
  have hkI : (k : Int) < (s.size : Int) := by omega
  have hw1 : IntKind.i64.wrap ((k : Int) + 1) = (j : Int) := by rw [IntWalk.i64_in _ (by omega)]; omega
  have hbk : byteAt s k = s[k] := byteAt_in s k hk
  have hjI : ¬ (j : Int) < (s.size : Int) := by omega
  have hjs : j ≤ s.size := by omega
  have hb1 : byteAt s j = 0 := byteAt_out s j hin
  rw [hj] at hdr
  obtain ⟨L, hL⟩ : ∃ L, s.data.toList.drop j = L := ⟨_, rfl⟩
  have hLlen : L.length = s.size - j := by rw [← hL, List.length_drop, hlen]
  have hLat : ∀ t (ht : t < s.size), j ≤ t → L[t - j]? = some s[t] := fun t ht h0 => by
    rw [← hL, List.getElem?_drop, show j + (t - j) = t by omega, Array.getElem?_toList]
    exact Array.getElem?_eq_getElem ht
  have hL0 : L.headD 0 = byteAt s j := by rw [← hL]; rfl
  rw [hL] at hdr
  have HL := Lib.hid hLlen
  have HAT := Lib.hid hLat
  have HJ := Lib.hid hj
  have HDR := Lib.hid hdr
  clear hPO hL hLlen hLat hlen
  have h45 : (byteAt s k).toNat ≠ 45 := by omega
  have hl : isLet (byteAt s k) = false := by
    cases e : isLet (byteAt s k) with
    | false => rfl
    | true => have := (isLet_iff _).1 e; omega
  have hd : isDig (byteAt s k) = false := by
    cases e : isDig (byteAt s k) with
    | false => rfl
    | true => have := (isDig_iff _).1 e; omega
  have HT : Hid (tokR (s.data.toList.drop k) = .good 3 [byteAt s k] 0 1) := Lib.hid (by
    have hn1 : ¬ (isDig (byteAt s k) = true ∨ ((byteAt s k).toNat = 45 ∧ isDig (L.headD 0) = true)) := by
      rintro (x | ⟨x, _⟩)
      · rw [hd] at x; cases x
      · exact h45 x
    rw [hdr, tokR_cons, if_neg (by rw [hl]; simp), if_neg hn1, if_neg (fun x => h45 x.1)]
    rw [if_pos (by unfold isMrk; rw [decide_eq_true_iff]; omega)])
  have hlet := fun W => rlet_any W ((byteAt s k).toNat : Int)
  have hdig := fun W => rdig_any W ((byteAt s k).toNat : Int)
  have e1 : letterB ((byteAt s k).toNat : Int) = false := hl
  have e2 : digitB ((byteAt s k).toNat : Int) = false := hd
  rw [e1, hbk] at hlet
  rw [e2, hbk] at hdig
  have e45 : ((s[k].toNat : Int) == 45) = false := by rw [← hbk]; exact b_no (k := 45) h45
  have m123 : ((s[k].toNat : Int) == 123) = false := by rw [← hbk]; exact b_no (k := 123) (by omega)
  have m125 : ((s[k].toNat : Int) == 125) = false := by rw [← hbk]; exact b_no (k := 125) (by omega)
  have m61 : ((s[k].toNat : Int) == 61) = false := by rw [← hbk]; exact b_no (k := 61) (by omega)
  have m59 : ((s[k].toNat : Int) == 59) = false := by rw [← hbk]; exact b_no (k := 59) (by omega)
  have m46 : ((s[k].toNat : Int) == 46) = true := by rw [← hbk]; exact b_yes (k := 46) (by omega)
  obtain ⟨Wd, hWd⟩ : ∃ Wd, s.extract k j = Wd := ⟨_, rfl⟩
  have HWL : Hid ((⟨[byteAt s k].toArray⟩ : ByteArray) = Wd) := Lib.hid (by
    apply ByteArray.ext
    apply Array.toList_inj.1
    rw [← hWd, extract_list, hdr, show j - k = 1 by omega]
    rfl)
  have hkj : (k : Int) ≤ (j : Int) := by omega
  have hjS : (j : Int) ≤ (s.size : Int) := by omega
  clear hdr e1 e2 hl hd hb1 hL0 hj hbk h45 hm
  go_enter Tryd.func26, Tryd.ntmps26
  go_wp2_with fail
  refine (hlet _).mono ?_
  rintro e w2 ⟨rfl, rfl⟩
  go_wp2_with fail
  refine (hdig _).mono ?_
  rintro e w2 ⟨rfl, rfl⟩
  go_wp2_with fail
  refine bodyPost_ret (v := .tuple #[.agg #[.int .u8 3, .string Wd, I 0, I k], I j, I 0]) (by simp [results, Tryd.results26, go_sem, hWd]) rfl ?_
  rw [HPO.out]
  exact rgood HT.out HWL.out HJ.out ((New.refl w).alloc _)
set_option maxRecDepth 100000 in
set_option maxHeartbeats 8000000 in
theorem rtok_byte_o (w : World) (s : ByteArray) (k j : Nat) (hj : k + 1 = j) (hk : k < s.size) (hs : s.size ≤ 1048576) (hin : ¬ j < s.size) (hl : isLet (byteAt s k) = false) (hd : isDig (byteAt s k) = false) (h45 : (byteAt s k).toNat ≠ 45) (hm : isMrk (byteAt s k) = false) :
    Calls Tryd.prog 26 #[.string s, I k] w (RTokAns w s k) := by
  obtain ⟨PO, hPO⟩ : ∃ PO, PO = RTokAns w s k := ⟨_, rfl⟩
  rw [← hPO]
  have HPO := Lib.hid hPO
  have hdr := dropAt' s k hk
  have hlen := toList_len s
  have h255 := (byteAt s k).toNat_lt
  have hkI : (k : Int) < (s.size : Int) := by omega
  have hw1 : IntKind.i64.wrap ((k : Int) + 1) = (j : Int) := by rw [IntWalk.i64_in _ (by omega)]; omega
  have hbk : byteAt s k = s[k] := byteAt_in s k hk
  have hjI : ¬ (j : Int) < (s.size : Int) := by omega
  have hjs : j ≤ s.size := by omega
  have hb1 : byteAt s j = 0 := byteAt_out s j hin
  rw [hj] at hdr
  obtain ⟨L, hL⟩ : ∃ L, s.data.toList.drop j = L := ⟨_, rfl⟩
  have hLlen : L.length = s.size - j := by rw [← hL, List.length_drop, hlen]
  have hLat : ∀ t (ht : t < s.size), j ≤ t → L[t - j]? = some s[t] := fun t ht h0 => by
    rw [← hL, List.getElem?_drop, show j + (t - j) = t by omega, Array.getElem?_toList]
    exact Array.getElem?_eq_getElem ht
  have hL0 : L.headD 0 = byteAt s j := by rw [← hL]; rfl
  rw [hL] at hdr
  have HL := Lib.hid hLlen
  have HAT := Lib.hid hLat
  have HJ := Lib.hid hj
  have HDR := Lib.hid hdr
  clear hPO hL hLlen hLat hlen
  have HT : Hid (tokR (s.data.toList.drop k) = .bad 40) := Lib.hid (by
    have hn1 : ¬ (isDig (byteAt s k) = true ∨ ((byteAt s k).toNat = 45 ∧ isDig (L.headD 0) = true)) := by
      rintro (x | ⟨x, _⟩)
      · rw [hd] at x; cases x
      · exact h45 x
    rw [hdr, tokR_cons, if_neg (by rw [hl]; simp), if_neg hn1, if_neg (fun x => h45 x.1)]
    rw [if_neg (by rw [hm]; simp)])
  have hlet := fun W => rlet_any W ((byteAt s k).toNat : Int)
  have hdig := fun W => rdig_any W ((byteAt s k).toNat : Int)
  have e1 : letterB ((byteAt s k).toNat : Int) = false := hl
  have e2 : digitB ((byteAt s k).toNat : Int) = false := hd
  rw [e1, hbk] at hlet
  rw [e2, hbk] at hdig
  have e45 : ((s[k].toNat : Int) == 45) = false := by rw [← hbk]; exact b_no (k := 45) h45
  unfold isMrk at hm
  rw [decide_eq_false_iff_not] at hm
  have m123 : ((s[k].toNat : Int) == 123) = false := by rw [← hbk]; exact b_no (k := 123) (by omega)
  have m125 : ((s[k].toNat : Int) == 125) = false := by rw [← hbk]; exact b_no (k := 125) (by omega)
  have m61 : ((s[k].toNat : Int) == 61) = false := by rw [← hbk]; exact b_no (k := 61) (by omega)
  have m59 : ((s[k].toNat : Int) == 59) = false := by rw [← hbk]; exact b_no (k := 59) (by omega)
  have m46 : ((s[k].toNat : Int) == 46) = false := by rw [← hbk]; exact b_no (k := 46) (by omega)
  clear hdr e1 e2 hl hd hb1 hL0 hj hbk h45 hm
  go_enter Tryd.func26, Tryd.ntmps26
  go_wp2_with fail
  refine (hlet _).mono ?_
  rintro e w2 ⟨rfl, rfl⟩
  go_wp2_with fail
  refine (hdig _).mono ?_
  rintro e w2 ⟨rfl, rfl⟩
  go_wp2_with fail
  refine bodyPost_ret (v := .tuple #[.agg #[.int .u8 0, .string ⟨#[]⟩, I 0, I 0], I 0, I 40]) (by simp [results, Tryd.results26, go_sem]) rfl ?_
  rw [HPO.out]
  exact rbad HT.out ((New.refl w).alloc _)
/-- The document's token. -/
theorem rtok_any (w : World) (s : ByteArray) (k : Nat) (hk : k < s.size) (hs : s.size ≤ 1048576) : Calls Tryd.prog 26 #[.string s, I k] w (RTokAns w s k) := by
  cases hl : isLet (byteAt s k) with
  | true => exact (if hin : k + 1 < s.size then rtok_word_i w s k _ rfl hk hs hin hl else rtok_word_o w s k _ rfl hk hs hin hl)
  | false =>
    cases hd : isDig (byteAt s k) with
    | true => exact (if hin : k + 1 < s.size then rtok_digit_i w s k _ rfl hk hs hin hl hd else rtok_digit_o w s k _ rfl hk hs hin hl hd)
    | false =>
      by_cases h45 : (byteAt s k).toNat = 45
      · cases hd1 : isDig (byteAt s (k + 1)) with
        | true =>
          have hin : k + 1 < s.size := by
            by_cases h : k + 1 < s.size
            · exact h
            · rw [byteAt_out s _ h] at hd1; exact absurd hd1 (by decide)
          exact rtok_minus_i w s k _ rfl hk hs hin h45 hd1
        | false =>
          by_cases h62 : (byteAt s (k + 1)).toNat = 62
          · have hin : k + 1 < s.size := by
              by_cases h : k + 1 < s.size
              · exact h
              · rw [byteAt_out s _ h] at h62; exact absurd h62 (by decide)
            exact rtok_arrow_i w s k _ rfl hk hs hin h45 hd1 h62
          · exact (if hin : k + 1 < s.size then rtok_dash_i w s k _ rfl hk hs hin h45 hd1 h62 else rtok_dash_o w s k _ rfl hk hs hin h45 hd1 h62)
      · cases hm : isMrk (byteAt s k) with
        | false => exact (if hin : k + 1 < s.size then rtok_byte_i w s k _ rfl hk hs hin hl hd h45 hm else rtok_byte_o w s k _ rfl hk hs hin hl hd h45 hm)
        | true =>
          unfold isMrk at hm
          rw [decide_eq_true_iff] at hm
          rcases hm with hm | hm | hm | hm | hm
          · exact (if hin : k + 1 < s.size then rtok_m123_i w s k _ rfl hk hs hin hm else rtok_m123_o w s k _ rfl hk hs hin hm)
          · exact (if hin : k + 1 < s.size then rtok_m125_i w s k _ rfl hk hs hin hm else rtok_m125_o w s k _ rfl hk hs hin hm)
          · exact (if hin : k + 1 < s.size then rtok_m61_i w s k _ rfl hk hs hin hm else rtok_m61_o w s k _ rfl hk hs hin hm)
          · exact (if hin : k + 1 < s.size then rtok_m59_i w s k _ rfl hk hs hin hm else rtok_m59_o w s k _ rfl hk hs hin hm)
          · exact (if hin : k + 1 < s.size then rtok_m46_i w s k _ rfl hk hs hin hm else rtok_m46_o w s k _ rfl hk hs hin hm)
end Go.Proofs.YtmmoocbnmjmfeaaDoor
