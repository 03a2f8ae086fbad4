/-
  Layer 4, the document's side: all tokens of a text.
-/
import Derived.Test.YtmmoocbnmjmfeaaDoorLexS
namespace Go.Proofs.YtmmoocbnmjmfeaaDoor
open Go Go.RowKit Go.Joins
set_option linter.all false

set_option maxRecDepth 100000 in
set_option maxHeartbeats 8000000 in
theorem rall_any (w : World) (s : ByteArray) (hs : s.size ≤ 9223372036854775807) :
    Calls Tryd.prog 12 #[.string s] w (AllAns w s) := by
  have hz : (w.alloc FltZ).heap[w.heap.size]? = some (.cells #[I 0, I 0] 25 (0, 0)) := heap_alloc_new w _
  by_cases hbig : 1048576 < s.size
  · have HA := Lib.hid (lexA_long hbig)
    have hbI : (1048576 : Int) < (s.size : Int) := by omega
    clear hz
    go_enter Tryd.func12, Tryd.ntmps12
    go_wp2_with fail
    refine bodyPost_ret (v := .tuple #[.slice none 0 0, .agg #[I 2, I 1048576]]) (by simp [results, Tryd.results12, go_sem]) rfl ?_
    exact ans_none _ _ _ _ _ HA.out ((New.refl w).alloc _)
  · obtain ⟨i0, hi0, hz0, hz1, hz2⟩ := info_parts infoTok
    have HBG := Lib.hid hbig
    have hs2 : s.size ≤ 1048576 := by omega
    have hbI : ¬ (1048576 : Int) < (s.size : Int) := by omega
    have HZ := Lib.hid hz
    have hnil : (w.alloc FltZ).ownsRow w.heap.size 33 4 (.slice none 0 0) 0 [] := World.ownsRow_nil _ _ _ _
    have hlen := toList_len s
    clear hbig hz
    obtain ⟨PO, hPO⟩ : ∃ PO, PO = AllAns w s := ⟨_, rfl⟩
    rw [← hPO]
    have HPO := Lib.hid hPO
    have HLEN := Lib.hid hlen
    clear hPO hlen
    go_enter Tryd.func12, Tryd.ntmps12
    go_wp2_with fail
    go_loopw [4, 5] (fun x y wr => ∃ (k : Nat) (ts : List LTok) (a : Option Addr) (c nn : Nat), k ≤ s.size ∧ y = .int .i64 k ∧ x = .slice a nn c ∧ nn ≤ k ∧ Hid (ts.length = nn) ∧ Hid (lexL 0 s.data.toList = (ts ++ (lexL k (s.data.toList.drop k)).1, (lexL k (s.data.toList.drop k)).2)) ∧ New w wr ∧
  Hid (wr.heap[w.heap.size]? = some (.cells #[I 0, I 0] 25 (0, 0))) ∧ Hid (wr.ownsRow w.heap.size 33 4 (.slice a nn c) nn (ts.flatMap tokCells))) (fun _ y _ => s.size - (intOf y).toNat)
    case atStart =>
      refine ⟨0, [], none, 0, 0, by omega, rfl, rfl, by omega, Lib.hid rfl, Lib.hid ?_, (New.refl w).alloc _, HZ, Lib.hid hnil⟩
      rw [List.drop_zero]; rfl
    case round =>
      clear hnil HZ
      obtain ⟨k, ts, a, c, nn, hk, rfl, rfl, hnn, HTS, HL, hN, HZ, HO⟩ := hrel
      by_cases hk2 : k < s.size
      · have hkI : (k : Int) < (s.size : Int) := by omega
        have hdr := dropAt s k hk2
        obtain ⟨b, hb⟩ : ∃ b, s[k] = b := ⟨_, rfl⟩
        rw [hb] at hdr
        have h256 : b.toNat < 256 := b.toNat_lt
        have hw1 : IntKind.i64.wrap ((k : Int) + 1) = (k : Int) + 1 := IntWalk.i64_in _ (by omega)
        cases hbl : isBlk b with
        | true =>
          have HL2 : Hid (lexL 0 s.data.toList = (ts ++ (lexL (k + 1) (s.data.toList.drop (k + 1))).1, (lexL (k + 1) (s.data.toList.drop (k + 1))).2)) := Lib.hid (by rw [HL.out, hdr, lexL_blank _ _ _ hbl])
          unfold isBlk at hbl
          rw [decide_eq_true_iff] at hbl
          rcases hbl with h | h | h | h
          · have e32 : ((b.toNat : Int) == 32) = true := b_yes (k := 32) (by omega)
            obtain ⟨bI, hbI2⟩ : ∃ x : Int, (b.toNat : Int) = x := ⟨_, rfl⟩
            rw [hbI2] at e32
            clear h hdr h256
            go_wp2_with fail
            go_roundw
            case rel => exact ⟨k + 1, ts, a, c, nn, by omega, by go_num, rfl, by omega, HTS, HL2, hN, HZ, HO⟩
            case measure => simp [intOf]; omega
          · have e32 : ((b.toNat : Int) == 32) = false := b_no (k := 32) (by omega)
            have e9 : ((b.toNat : Int) == 9) = true := b_yes (k := 9) (by omega)
            obtain ⟨bI, hbI2⟩ : ∃ x : Int, (b.toNat : Int) = x := ⟨_, rfl⟩
            rw [hbI2] at e32 e9
            clear h hdr h256
            go_wp2_with fail
            go_roundw
            case rel => exact ⟨k + 1, ts, a, c, nn, by omega, by go_num, rfl, by omega, HTS, HL2, hN, HZ, HO⟩
            case measure => simp [intOf]; omega
          · have e32 : ((b.toNat : Int) == 32) = false := b_no (k := 32) (by omega)
            have e9 : ((b.toNat : Int) == 9) = false := b_no (k := 9) (by omega)
            have e13 : ((b.toNat : Int) == 13) = true := b_yes (k := 13) (by omega)
            obtain ⟨bI, hbI2⟩ : ∃ x : Int, (b.toNat : Int) = x := ⟨_, rfl⟩
            rw [hbI2] at e32 e9 e13
            clear h hdr h256
            go_wp2_with fail
            go_roundw
            case rel => exact ⟨k + 1, ts, a, c, nn, by omega, by go_num, rfl, by omega, HTS, HL2, hN, HZ, HO⟩
            case measure => simp [intOf]; omega
          · have e32 : ((b.toNat : Int) == 32) = false := b_no (k := 32) (by omega)
            have e9 : ((b.toNat : Int) == 9) = false := b_no (k := 9) (by omega)
            have e13 : ((b.toNat : Int) == 13) = false := b_no (k := 13) (by omega)
            have e10 : ((b.toNat : Int) == 10) = true := b_yes (k := 10) (by omega)
            obtain ⟨bI, hbI2⟩ : ∃ x : Int, (b.toNat : Int) = x := ⟨_, rfl⟩
            rw [hbI2] at e32 e9 e13 e10
            clear h hdr h256
            go_wp2_with fail
            go_roundw
            case rel => exact ⟨k + 1, ts, a, c, nn, by omega, by go_num, rfl, by omega, HTS, HL2, hN, HZ, HO⟩
            case measure => simp [intOf]; omega
        | false =>
          have hbn : ¬ (b.toNat = 32 ∨ b.toNat = 9 ∨ b.toNat = 13 ∨ b.toNat = 10) := by
            have h := hbl
            unfold isBlk at h
            rwa [decide_eq_false_iff_not] at h
          have e32 : ((b.toNat : Int) == 32) = false := b_no (k := 32) (by omega)
          have e9 : ((b.toNat : Int) == 9) = false := b_no (k := 9) (by omega)
          have e13 : ((b.toNat : Int) == 13) = false := b_no (k := 13) (by omega)
          have e10 : ((b.toNat : Int) == 10) = false := b_no (k := 10) (by omega)
          by_cases h35 : b.toNat = 35
          · have e35 : ((b.toNat : Int) == 35) = true := b_yes (k := 35) h35
            have hne : notEol b = true := by unfold notEol; rw [decide_eq_true_iff]; omega
            obtain ⟨L, hL⟩ : ∃ L, s.data.toList.drop k = L := ⟨_, rfl⟩
            have hLlen : L.length = s.size - k := by rw [← hL, List.length_drop, HLEN.out]
            have hLat : ∀ t (ht : t < s.size), k ≤ t → L[t - k]? = some s[t] := fun t ht h0 => by
              rw [← hL, List.getElem?_drop, show k + (t - k) = t by omega, Array.getElem?_toList]
              exact Array.getElem?_eq_getElem ht
            have HLL := Lib.hid hLlen
            have HAT := Lib.hid hLat
            have HEND : Hid (∀ t, (L.takeWhile notEol).length = t - k → t ≤ s.size → k < t ∧ lexL 0 s.data.toList = (ts ++ (lexL t (s.data.toList.drop t)).1, (lexL t (s.data.toList.drop t)).2)) := Lib.hid (by
              intro t ht hts
              have hL2 : L = b :: s.data.toList.drop (k + 1) := by rw [← hL, hdr]
              rw [hL2, List.takeWhile_cons, if_pos hne, List.length_cons] at ht
              refine ⟨by omega, ?_⟩
              rw [HL.out, hdr, lexL_hash _ _ _ h35, List.drop_drop, show k + 1 + ((s.data.toList.drop (k + 1)).takeWhile notEol).length = t by omega])
            have hbe : (s[k].toNat : Int) = (b.toNat : Int) := by rw [hb]
            clear hL hLlen hLat hdr hne hbn hbl HL hb
            obtain ⟨bI, hbI2⟩ : ∃ x : Int, (b.toNat : Int) = x := ⟨_, rfl⟩
            rw [hbI2] at e32 e9 e13 e10 e35 hbe
            clear hbI2 h35 h256
            go_wp2_with fail
            obtain ⟨wo, rfl⟩ : ∃ wo : World, wo = wr := ⟨_, rfl⟩
            go_loopw [5] (fun y wr => ∃ t : Nat, k ≤ t ∧ t ≤ s.size ∧ y = .int .i64 t ∧ Hid ((L.take (t - k)).all notEol = true) ∧ wr = wo) (fun y _ => s.size - (intOf y).toNat)
            case atStart => exact ⟨k, Nat.le_refl _, hk, rfl, Lib.hid (by rw [Nat.sub_self]; rfl), rfl⟩
            case round =>
              obtain ⟨t, ht1, ht2, rfl, HA, rfl⟩ := hrel
              by_cases ht3 : t < s.size
              · have hat := HAT.out t ht3 ht1
                have htI : (t : Int) < (s.size : Int) := by omega
                have hwt : IntKind.i64.wrap ((t : Int) + 1) = (t : Int) + 1 := IntWalk.i64_in _ (by omega)
                have h257 : s[t].toNat < 256 := s[t].toNat_lt
                by_cases h10 : s[t].toNat = 10
                · have e2 : notEol s[t] = false := by unfold notEol; rw [decide_eq_false_iff_not]; omega
                  have f10 : ((s[t].toNat : Int) == 10) = true := b_yes (k := 10) h10
                  obtain ⟨hlt, hle⟩ := HEND.out t (takeWhile_cut _ _ _ HA.out (fun b hb => by rw [hat] at hb; cases hb; exact e2) (by rw [HLL.out]; omega)) ht2
                  have HLE := Lib.hid hle
                  clear e2 hat h10 hle
                  go_wp2_with fail
                  go_roundw
                  case rel => exact ⟨t, ts, a, c, nn, by omega, by first | rfl | go_num, rfl, by omega, HTS, HLE, hN, HZ, HO⟩
                  case measure => simp [intOf]; omega
                · have e2 : notEol s[t] = true := by unfold notEol; rw [decide_eq_true_iff]; omega
                  have f10 : ((s[t].toNat : Int) == 10) = false := b_no (k := 10) h10
                  have HA2 : Hid ((L.take (t + 1 - k)).all notEol = true) := Lib.hid (by
                    rw [show t + 1 - k = (t - k) + 1 by omega, List.take_succ, hat, List.all_append, HA.out]
                    simp [e2])
                  clear e2 hat h10
                  go_wp2_with fail
                  go_roundw
                  case rel => exact ⟨t + 1, by omega, by omega, by go_num, HA2, by first | rfl | trivial⟩
                  case measure => simp [intOf]; omega
              · obtain ⟨hlt, hle⟩ := HEND.out t (takeWhile_cut _ _ _ HA.out (fun b hb => by rw [List.getElem?_eq_none (by rw [HLL.out]; omega)] at hb; cases hb) (by rw [HLL.out]; omega)) ht2
                have HLE := Lib.hid hle
                have htI : ¬ (t : Int) < (s.size : Int) := by omega
                clear hle
                go_wp2_with fail
                go_roundw
                case rel => exact ⟨t, ts, a, c, nn, by omega, by first | rfl | go_num, rfl, by omega, HTS, HLE, hN, HZ, HO⟩
                case measure => simp [intOf]; omega
          · have e35 : ((b.toNat : Int) == 35) = false := b_no (k := 35) h35
            have htk := rtok_any wr s k hk2 hs2
            unfold RTokAns at htk
            have hbe : (s[k].toNat : Int) = (b.toNat : Int) := by rw [hb]
            have hsz := hN.size
            cases ht : tokR (s.data.toList.drop k) with
            | bad cc =>
              have HLB : Hid (lexA s.data.toList = ([], cc, k)) := Lib.hid (lexA_bad HBG.out (show lexL 0 s.data.toList = (ts, some (cc, k)) by
                have ht2 := ht
                rw [hdr] at ht2
                rw [HL.out, hdr, lexL_bad _ _ _ hbl h35 ht2, List.append_nil]))
              have hcd : (cc == 0) = false := by rcases tokR_bad ht with rfl | rfl | rfl <;> rfl
              rw [ht] at htk
              clear ht hdr hbn hbl HL hb
              obtain ⟨bI, hbI2⟩ : ∃ x : Int, (b.toNat : Int) = x := ⟨_, rfl⟩
              rw [hbI2] at e32 e9 e13 e10 e35 hbe
              clear hbI2 h35 h256
              go_wp2_with fail
              refine htk.mono ?_
              rintro e w4 ⟨rfl, n4⟩
              have hz4 := Keeps.heap n4 HZ.out (fun h => h)
              obtain ⟨u0, u1, v0, v1, hlt4⟩ := flt_cells hz4
              obtain ⟨hst, kst⟩ := flt_stored hz4 (I cc) (I k)
              obtain ⟨W5, hW5⟩ : ∃ W5, (w4.setCell ⟨w.heap.size, 0, none⟩ (I cc)).setCell ⟨w.heap.size, 1, none⟩ (I k) = W5 := ⟨_, rfl⟩
              rw [hW5] at hst kst
              have ka : New W5 (W5.alloc (.cells #[.int .u8 0, .string ⟨#[]⟩, I 0, I 0] 33)) := (New.refl _).alloc _
              obtain ⟨x0, x1, y0, y1, hBB⟩ := flt_cells (Keeps.heap ka hst (fun h => h))
              have HF : Hid (PO (.returned (.tuple #[.slice none 0 0, .agg #[I cc, I k]])) (W5.alloc (.cells #[.int .u8 0, .string ⟨#[]⟩, I 0, I 0] 33))) := Lib.hid (by
                rw [HPO.out]
                exact ans_none _ _ _ _ _ HLB.out ((New.keeps (hN.trans n4) kst (fun i hi hx => by omega)).trans ka))
              have HW5 := Lib.hid hW5
              clear hst kst hz4 n4 ka htk hN hW5
              go_wp2_with fail
              have hxx : (w4.setCell ⟨w.heap.size, 0, none⟩ (.int .i64 cc)).setCell ⟨w.heap.size, 1, none⟩ (.int .i64 (k : Int)) = W5 := HW5.out
              rw [hxx]
              refine bodyPost_ret (v := .tuple #[.slice none 0 0, .agg #[I cc, I k]]) (by simp [results, Tryd.results12, go_sem, x0, x1, y0, y1, hBB]) rfl ?_
              exact HF.out
            | good so tx nu len =>
              have hl2 := tokR_len ht
              rw [List.length_drop, HLEN.out] at hl2
              obtain ⟨Tx, hTx⟩ : ∃ T : ByteArray, (⟨tx.toArray⟩ : ByteArray) = T := ⟨_, rfl⟩
              obtain ⟨z, hzz⟩ : ∃ z, k + len = z := ⟨_, rfl⟩
              have HL2 : Hid (lexL 0 s.data.toList = ((ts ++ [⟨so, tx, nu, k⟩]) ++ (lexL z (s.data.toList.drop z)).1, (lexL z (s.data.toList.drop z)).2)) := Lib.hid (by
                have ht2 := ht
                rw [hdr] at ht2
                rw [HL.out, hdr, lexL_good _ _ _ hbl h35 ht2, ← hdr, List.drop_drop, hzz]
                simp)
              rw [ht] at htk
              simp only [hTx, hzz] at htk
              have HFL : Hid ((ts ++ [(⟨so, tx, nu, k⟩ : LTok)]).flatMap tokCells = ts.flatMap tokCells ++ [.int .u8 so, .string Tx, I nu, I (k : Int)] ∧ (ts ++ [(⟨so, tx, nu, k⟩ : LTok)]).length = nn + 1) := Lib.hid (by
                refine ⟨?_, by rw [List.length_append, HTS.out]; rfl⟩
                rw [List.flatMap_append, ← hTx]; rfl)
              have hzk : k + 1 ≤ z ∧ z ≤ s.size := by omega
              clear ht hdr hbn hbl HL hb hTx hl2 hzz
              obtain ⟨bI, hbI2⟩ : ∃ x : Int, (b.toNat : Int) = x := ⟨_, rfl⟩
              rw [hbI2] at e32 e9 e13 e10 e35 hbe
              clear hbI2 h35 h256
              go_wp2_with fail
              refine htk.mono ?_
              rintro e w4 ⟨rfl, n4⟩
              have ka : New w4 ((w4.alloc (.cells #[.int .u8 so, .string Tx, I nu, I (k : Int)] 33)).alloc (.cells #[.int .u8 so, .string Tx, I nu, I (k : Int)] 33)) := ((New.refl _).alloc _).alloc _
              have HO4 := Lib.hid ((n4.trans ka).owns HO.out)
              have HN4 := Lib.hid (hN.trans (n4.trans ka))
              have HZ4 := Lib.hid (Keeps.heap (n4.trans ka) HZ.out (fun h => h))
              have hb4 : w.heap.size ≤ ((w4.alloc (.cells #[.int .u8 so, .string Tx, I nu, I (k : Int)] 33)).alloc (.cells #[.int .u8 so, .string Tx, I nu, I (k : Int)] 33)).heap.size := Nat.le_trans hsz (n4.trans ka).size
              clear hN n4 ka htk
              go_wp2_with (at_builtin; refine wpList_app rfl _ _ 22 rfl w.heap.size 33 i0 _ 4 40 Tryd.underlying22 hi0 hz0 hz1 hz2 rfl (by decide) a nn c (ts.flatMap tokCells) rfl ?own _ 1 1 [.int .u8 so, .string Tx, I nu, I (k : Int)] rfl rfl ?lit ?one ?c1 ?c2 ?c3 ?_)
              case own => exact HO4.out
              case lit =>
                have h := SlAt.lit (w4.alloc (.cells #[.int .u8 so, .string Tx, I nu, I (k : Int)] 33)) #[.int .u8 so, .string Tx, I nu, I (k : Int)] 33
                have e : (w4.alloc (.cells #[.int .u8 so, .string Tx, I nu, I (k : Int)] 33)).heap.size = w4.heap.size + 1 := by simp
                rw [e] at h
                exact h
              case one => intro u hu; simp only [List.mem_cons, List.not_mem_nil, or_false] at hu; rcases hu with rfl | rfl | rfl | rfl <;> rfl
              case c1 => unfold maxLen; omega
              case c2 => omega
              case c3 => exact hb4
              intro a2 c2 w5 hown5 hk5 _ _
              have HN5 := Lib.hid (New.keeps HN4.out hk5 (fun i hi hx => by have := (own_of_blk HO4.out hx).1; omega))
              have HO5 : Hid (w5.ownsRow w.heap.size 33 4 (.slice a2 (nn + 1) c2) (nn + 1) ((ts ++ [(⟨so, tx, nu, k⟩ : LTok)]).flatMap tokCells)) := Lib.hid (by rw [HFL.out.1]; exact hown5)
              have HZ5 : Hid (w5.heap[w.heap.size]? = some (.cells #[I 0, I 0] 25 (0, 0))) := Lib.hid (hk5.heap HZ4.out (fun hx => by
                obtain ⟨cur, hc⟩ := lx_tag HO4.out (lx_own hx)
                rw [HZ4.out] at hc; simp at hc))
              clear hown5 hk5
              go_wp2_with fail
              go_roundw
              case rel => exact ⟨z, _, a2, c2, nn + 1, hzk.2, by first | rfl | go_num, by rfl, by omega, Lib.hid HFL.out.2, HL2, HN5.out, HZ5, HO5⟩
              case measure => simp [intOf]; omega
      · have hkI : ¬ (k : Int) < (s.size : Int) := by omega
        have hke : k = s.size := by omega
        have hLE : lexL 0 s.data.toList = (ts, none) := by rw [HL.out, hke, drop_end, lexL_nil, List.append_nil]
        have HLA := Lib.hid (lexA_good HBG.out hLE)
        have hsz := hN.size
        have ka : New wr (wr.alloc (.cells #[.int .u8 0, .string ⟨#[]⟩, I 0, I (s.size : Int)] 33)) := (New.refl _).alloc _
        have hone : ∀ u ∈ [Value.int .u8 0, .string ⟨#[]⟩, I 0, I (s.size : Int)], u.oneCell' = true := by intro u hu; simp only [List.mem_cons, List.not_mem_nil, or_false] at hu; rcases hu with rfl | rfl | rfl | rfl <;> rfl
        clear hLE hke
        go_wp2_with (at_builtin; refine wpList_app rfl _ _ 22 rfl w.heap.size 33 i0 _ 4 40 Tryd.underlying22 hi0 hz0 hz1 hz2 rfl (by decide) a nn c (ts.flatMap tokCells) rfl (ka.owns HO.out) _ 1 1 [.int .u8 0, .string ⟨#[]⟩, I 0, I (s.size : Int)] rfl rfl (SlAt.lit _ _ _) hone (by unfold maxLen; omega) (by omega) (Nat.le_trans hsz ka.size) ?_)
        intro a2 c2 w5 hown5 hk5 _ _
        have hz5 : w5.heap[w.heap.size]? = some (.cells #[I 0, I 0] 25 (0, 0)) := hk5.heap (Keeps.heap ka HZ.out (fun h => h)) (fun hx => by
          obtain ⟨cur, hc⟩ := lx_tag (ka.owns HO.out) (lx_own hx)
          rw [Keeps.heap ka HZ.out (fun h => h)] at hc; simp at hc)
        have hN5 : New w w5 := New.keeps (hN.trans ka) hk5 (fun i hi hx => by have := (own_of_blk HO.out hx).1; omega)
        obtain ⟨u0, u1, v0, v1, hu⟩ := flt_cells hz5
        obtain ⟨hst, kst⟩ := flt_stored hz5 (I 0) (I 0)
        obtain ⟨x0, x1, y0, y1, hBB⟩ := flt_cells hst
        have HF : Hid (PO (.returned (.tuple #[.slice a2 (nn + 1) c2, .agg #[I 0, I 0]])) ((w5.setCell ⟨w.heap.size, 0, none⟩ (I 0)).setCell ⟨w.heap.size, 1, none⟩ (I 0))) := Lib.hid (by
          rw [HPO.out]
          unfold AllAns
          rw [HLA.out]
          have hll : (ts ++ [(⟨0, [], 0, s.size⟩ : LTok)]).length = nn + 1 := by rw [List.length_append, HTS.out]; rfl
          simp only [hll]
          refine ⟨a2, c2, rfl, New.keeps hN5 kst (fun i hi hx => by omega), ?_⟩
          have ho5 := lx_oth hown5 kst (fun g hg => ⟨_, _, _, hg ▸ hz5, by decide⟩)
          rw [List.flatMap_append]
          exact ho5)
        clear hst kst hz5 hown5 hk5 hN5 ka hN
        go_wp2_with fail
        refine bodyPost_ret (v := .tuple #[.slice a2 (nn + 1) c2, .agg #[I 0, I 0]]) (by simp [results, Tryd.results12, go_sem, x0, x1, y0, y1, hBB]) rfl ?_
        exact HF.out
end Go.Proofs.YtmmoocbnmjmfeaaDoor
