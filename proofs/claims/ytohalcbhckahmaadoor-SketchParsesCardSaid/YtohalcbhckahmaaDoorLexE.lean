/-
  Layer 4, the program's side: all tokens of a text.
-/
import Derived.Test.YtohalcbhckahmaaDoorLexD
import Derived.Test.YtohalcbhckahmaaDoorLexQ
namespace Go.Proofs.YtohalcbhckahmaaDoor
open Go Go.RowKit Go.Joins
set_option linter.all false

theorem tokR_bad {l : List UInt8} {c : Int} (h : tokR l = .bad c) : c = 40 ∨ c = 41 ∨ c = 42 := by
  cases l with
  | nil => cases h; exact Or.inl rfl
  | cons b r =>
    rw [tokR_cons] at h
    split at h
    · split at h
      · cases h; exact Or.inr (Or.inr rfl)
      · cases h
    · split at h
      · split at h
        · cases h
        · cases h; exact Or.inr (Or.inl rfl)
      · split at h
        · cases h
        · split at h
          · cases h
          · cases h; exact Or.inl rfl

/-- What All answers: its tokens, a list of the call's own, and the fault. -/
def AllAns (w : World) (s : ByteArray) (e : Ending) (w' : World) : Prop :=
  ∃ a c, e = .returned (.tuple #[.slice a (lexA s.data.toList).1.length c, .agg #[I (lexA s.data.toList).2.1, I ((lexA s.data.toList).2.2 : Nat)]]) ∧ New w w' ∧
    w'.ownsRow w.heap.size 50 4 (.slice a (lexA s.data.toList).1.length c) (lexA s.data.toList).1.length ((lexA s.data.toList).1.flatMap tokCells)
theorem lexA_long {s : ByteArray} (h : 1048576 < s.size) : lexA s.data.toList = ([], 2, 1048576) := by
  unfold lexA; rw [if_pos (by rw [toList_len]; exact h)]
theorem lexA_bad {s : ByteArray} (h : ¬ 1048576 < s.size) {ts : List LTok} {c : Int} {k : Nat} (hl : lexL 0 s.data.toList = (ts, some (c, k))) : lexA s.data.toList = ([], c, k) := by
  unfold lexA; rw [if_neg (by rw [toList_len]; exact h), hl]
theorem lexA_good {s : ByteArray} (h : ¬ 1048576 < s.size) {ts : List LTok} (hl : lexL 0 s.data.toList = (ts, none)) : lexA s.data.toList = (ts ++ [⟨0, [], 0, s.size⟩], 0, 0) := by
  unfold lexA; rw [if_neg (by rw [toList_len]; exact h), hl, toList_len]
/-- A fault stored. -/
theorem flt_stored {w : World} {R : Nat} {x y : Value} (h : w.heap[R]? = some (.cells #[x, y] 27 (0, 0))) (u v : Value) :
    ((w.setCell ⟨R, 0, none⟩ u).setCell ⟨R, 1, none⟩ v).heap[R]? = some (.cells #[u, v] 27 (0, 0)) ∧ Keeps (fun k => k = R) w ((w.setCell ⟨R, 0, none⟩ u).setCell ⟨R, 1, none⟩ v) := by
  have h1 := block_setCell (i := 0) h u
  have h2 := block_setCell (i := 1) h1 v
  refine ⟨by rw [h2]; simp, (Keeps.setCell (S := fun k => k = R) w _ _ rfl).trans (Keeps.setCell (S := fun k => k = R) _ _ _ rfl) (fun _ _ h => h)⟩
theorem flt_cells {w : World} {R : Nat} {x y : Value} (h : w.heap[R]? = some (.cells #[x, y] 27 (0, 0))) :
    w.cell? ⟨R, 0, none⟩ = some x ∧ w.cell? ⟨R, 1, none⟩ = some y ∧ w.frozen? ⟨R, 0, none⟩ = false ∧ w.frozen? ⟨R, 1, none⟩ = false ∧ R < w.heap.size := by
  refine ⟨?_, ?_, unfrozen_of_block h 0, unfrozen_of_block h 1, (Array.getElem?_eq_some_iff.1 h).1⟩
  · rw [cell_of_block h 0]; simp
  · rw [cell_of_block h 1]; simp
theorem ans_none (w w' : World) (s : ByteArray) (c : Int) (k : Nat) (h : lexA s.data.toList = ([], c, k)) (n : New w w') : AllAns w s (.returned (.tuple #[.slice none 0 0, .agg #[I c, I k]])) w' := by
  unfold AllAns
  rw [h]
  exact ⟨none, 0, rfl, n, World.ownsRow_nil _ _ _ _⟩

abbrev FltZ : Obj := .cells #[I 0, I 0] 27
set_option maxRecDepth 100000 in
set_option maxHeartbeats 4000000 in
theorem call_any (w : World) (s : ByteArray) (he : Env w) (hs : s.size ≤ 9223372036854775807) :
    Calls Tryd.prog 23 #[.string s] w (AllAns w s) := by
  have hz : (w.alloc FltZ).heap[w.heap.size]? = some (.cells #[I 0, I 0] 27 (0, 0)) := heap_alloc_new w _
  by_cases hbig : 1048576 < s.size
  · have HA := Lib.hid (lexA_long hbig)
    have hbI : (1048576 : Int) < (s.size : Int) := by omega
    clear hz
    go_enter Tryd.func23, Tryd.ntmps23
    go_wp2_with fail
    refine bodyPost_ret (v := .tuple #[.slice none 0 0, .agg #[I 2, I 1048576]]) (by simp [results, Tryd.results23, go_sem]) rfl ?_
    exact ans_none _ _ _ _ _ HA.out ((New.refl w).alloc _)
  · have HBG := Lib.hid hbig
    have hs2 : s.size ≤ 1048576 := by omega
    have hs : s.size ≤ 9223372036854775806 := by omega
    have hbI : ¬ (1048576 : Int) < (s.size : Int) := by omega
    have he0 : Env (w.alloc FltZ) := he.new ((New.refl w).alloc _)
    have hR0 : Rd (w.alloc FltZ) ((w.alloc FltZ).alloc (.cells #[.string s, I 0, .slice none 0 0] 88)) (w.heap.size + 1) s 0 [] :=
      ⟨(New.refl _).alloc _, by simp, none, 0, by rw [← heap_alloc_new (w.alloc FltZ)]; simp, World.ownsRow_nil _ _ _ _⟩
    have HZ := Lib.hid hz
    clear hbig hz
    obtain ⟨PO, hPO⟩ : ∃ PO, PO = AllAns w s := ⟨_, rfl⟩
    rw [← hPO]
    have HPO := Lib.hid hPO
    clear hPO
    go_enter Tryd.func23, Tryd.ntmps23
    go_wp2_with fail
    refine (cskip_any _ _ _ s 0 [] hR0 (by omega) hs).mono ?_
    rintro e w2 ⟨rfl, k1, _, hk1, HL, HF, hR⟩
    clear hR0
    go_wp2_with fail
    go_loopw [] (fun wr => ∃ (k : Nat) (ts : List LTok), k ≤ s.size ∧ ts.length ≤ k ∧ Hid (lexL 0 s.data.toList = (ts ++ (lexL k (s.data.toList.drop k)).1, (lexL k (s.data.toList.drop k)).2)) ∧
      Hid (k < s.size → isBlk (byteAt s k) = false ∧ (byteAt s k).toNat ≠ 35) ∧ Rd (w.alloc FltZ) wr (w.heap.size + 1) s k ts) (fun wr => s.size - atOf wr (w.heap.size + 1))
    case atStart =>
      refine ⟨k1, [], hk1, by simp, Lib.hid ?_, HF, hR⟩
      have := HL.out
      rw [List.drop_zero] at this
      rw [List.nil_append, this]
    case round =>
      clear HL HF hR hk1
      obtain ⟨k, ts, hk, hts, HL, HF, hR⟩ := hrel
      obtain ⟨_, c1, _, _, hBr⟩ := hR.cells
      have HY : Hid (atOf wr (w.heap.size + 1) = k) := Lib.hid (by unfold atOf; rw [c1]; simp)
      have hm := rmore_any _ wr _ s k ts hR (by omega)
      clear c1
      by_cases hk2 : k < s.size
      · rw [decide_eq_true hk2] at hm
        have htk := fun W (n : New wr W) => ctok_any _ W _ s k ts (hR.new n) he0 hk2 hs2 (by omega)
        obtain ⟨n1, n2⟩ := HF.out hk2
        have hdr := dropAt' s k hk2
        cases ht : tokR (s.data.toList.drop k) with
        | bad c =>
          have hLB : lexL 0 s.data.toList = (ts, some (c, k)) := by
            rw [hdr] at ht
            rw [HL.out, hdr, lexL_bad _ _ _ n1 n2 ht, List.append_nil]
          have hcd : (c == 0) = false := by rcases tokR_bad ht with rfl | rfl | rfl <;> rfl
          have HT := Lib.hid ht
          have HLB := Lib.hid (lexA_bad HBG.out hLB)
          clear ht hLB hdr n1 n2 HL HF
          go_wp2_with fail
          refine hm.mono ?_
          rintro e w3 ⟨rfl, k3⟩
          obtain ⟨_, c1, _, _, _⟩ := (hR.new k3).cells
          go_wp2_with fail
          refine (htk _ k3).mono ?_
          rintro e w4 hans
          unfold TokAns at hans
          rw [HT.out] at hans
          obtain ⟨rfl, k', hR4⟩ := hans
          have hz4 := Keeps.heap hR4.nw HZ.out (fun h => h)
          obtain ⟨r0, r1, f0, f1, hBB⟩ := flt_cells hz4
          obtain ⟨hst, kst⟩ := flt_stored hz4 (I c) (I k)
          obtain ⟨q0, q1, g0, g1, hq⟩ := flt_cells hst
          have HK := Lib.hid (New.keeps (((New.refl w).alloc FltZ).trans hR4.nw) kst (fun i hi hx => by omega))
          clear hst kst hz4 hR4 hR hm htk c1
          go_wp2_with fail
          have HFIN : Hid (PO (.returned (.tuple #[.slice none 0 0, .agg #[I c, I k]])) ((w4.setCell ⟨w.heap.size, 0, none⟩ (I c)).setCell ⟨w.heap.size, 1, none⟩ (I k))) := Lib.hid (by rw [HPO.out]; exact ans_none _ _ _ _ _ HLB.out HK.out)
          refine bodyPost_ret (v := .tuple #[.slice none 0 0, .agg #[I c, I k]]) (by simp [results, Tryd.results23, go_sem, q0, q1, g0, g1, hq]) rfl ?_
          exact HFIN.out
        | good so tx nu len =>
          have hlen := tokR_len ht
          rw [List.length_drop, toList_len] at hlen
          have HLG : Hid (lexL 0 s.data.toList = ((ts ++ [⟨so, tx, nu, k⟩]) ++ (lexL (k + len) (s.data.toList.drop (k + len))).1, (lexL (k + len) (s.data.toList.drop (k + len))).2)) := Lib.hid (by
            have ht2 := ht
            rw [hdr] at ht2
            rw [HL.out, hdr, lexL_good _ _ _ n1 n2 ht2, ← hdr, List.drop_drop]
            simp)
          have HT := Lib.hid ht
          clear ht hdr n1 n2 HL HF
          go_wp2_with fail
          refine hm.mono ?_
          rintro e w3 ⟨rfl, k3⟩
          obtain ⟨_, c1, _, _, _⟩ := (hR.new k3).cells
          go_wp2_with fail
          refine (htk _ k3).mono ?_
          rintro e w4 hans
          unfold TokAns at hans
          rw [HT.out] at hans
          obtain ⟨rfl, hR4⟩ := hans
          clear hR hm htk c1 k3
          go_wp2_with fail
          refine (cskip_any _ _ _ s (k + len) _ hR4 (by omega) hs).mono ?_
          rintro e w5 ⟨rfl, k', hk', hk'', HL5, HF5, hR5⟩
          have hts' : (ts ++ [(⟨so, tx, nu, k⟩ : LTok)]).length ≤ k' := by rw [List.length_append]; simp only [List.length_singleton]; omega
          have HLN : Hid (lexL 0 s.data.toList = ((ts ++ [⟨so, tx, nu, k⟩]) ++ (lexL k' (s.data.toList.drop k')).1, (lexL k' (s.data.toList.drop k')).2)) := Lib.hid (by rw [HLG.out, HL5.out])
          have HTS := Lib.hid hts'
          clear hR4 hts'
          go_wp2_with fail
          go_roundw
          case rel => exact ⟨k', _, hk'', HTS.out, HLN, HF5, hR5⟩
          case measure =>
            obtain ⟨_, d1, _⟩ := hR5.cells
            have hx : atOf w5 (w.heap.size + 1) = k' := by unfold atOf; rw [d1]; exact Int.toNat_natCast _
            rw [hx, HY.out]; omega
      · rw [decide_eq_false hk2] at hm
        have hke : k = s.size := by omega
        have hLE : lexL 0 s.data.toList = (ts, none) := by
          rw [HL.out, hke, drop_end, lexL_nil, List.append_nil]
        have HLA := Lib.hid (lexA_good HBG.out hLE)
        have hput := fun W R => cput_any (w.alloc FltZ) W (w.heap.size + 1) s k ts R 0 [] 0 s.size (by omega)
        clear hLE HL HF hke
        go_wp2_with fail
        refine hm.mono ?_
        rintro e w3 ⟨rfl, k3⟩
        go_wp2_with fail
        refine (hput _ (hR.new k3)).mono ?_
        rintro e w4 ⟨rfl, hR4⟩
        obtain ⟨nw4, hP4, a, c, hb4, ho4⟩ := hR4
        have hz4 := Keeps.heap nw4 HZ.out (fun h => h)
        have c2 : w4.cell? ⟨w.heap.size + 1, 2, none⟩ = some (.slice a (ts ++ [(⟨0, [], 0, s.size⟩ : LTok)]).length c) := by rw [cell_of_block hb4 2]; rfl
        obtain ⟨r0, r1, f0, f1, hBB⟩ := flt_cells hz4
        obtain ⟨hst, kst⟩ := flt_stored hz4 (I 0) (I 0)
        obtain ⟨q0, q1, g0, g1, hq⟩ := flt_cells hst
        have hfin : AllAns w s (.returned (.tuple #[.slice a (ts ++ [(⟨0, [], 0, s.size⟩ : LTok)]).length c, .agg #[I 0, I 0]])) ((w4.setCell ⟨w.heap.size, 0, none⟩ (I 0)).setCell ⟨w.heap.size, 1, none⟩ (I 0)) := by
          unfold AllAns
          rw [HLA.out]
          refine ⟨a, c, rfl, New.keeps (((New.refl w).alloc FltZ).trans nw4) kst (fun i hi hx => by omega), ?_⟩
          have ho5 := lx_oth ho4 kst (fun g hg => ⟨_, _, _, hg ▸ hz4, by decide⟩)
          exact ownsRow_rebase ho5 (fun g hg => by
            have := (own_of_blk ho5 (blk_of_own hg)).1
            simp at this; omega)
        rw [← HPO.out] at hfin
        have HFIN := Lib.hid hfin
        obtain ⟨N, hN⟩ : ∃ N, (ts ++ [(⟨0, [], 0, s.size⟩ : LTok)]).length = N := ⟨_, rfl⟩
        rw [hN] at c2 HFIN
        clear hfin hst kst hz4 ho4 hb4 hR hm hput hN nw4
        go_wp2_with fail
        refine bodyPost_ret (v := .tuple #[.slice a N c, .agg #[I 0, I 0]]) (by simp [results, Tryd.results23, go_sem, q0, q1, g0, g1, hq]) rfl ?_
        exact HFIN.out
end Go.Proofs.YtohalcbhckahmaaDoor
