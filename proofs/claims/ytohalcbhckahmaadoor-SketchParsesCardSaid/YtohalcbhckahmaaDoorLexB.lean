/-
  Layer 4, the program's side: skip and put.
-/
import Derived.Test.YtohalcbhckahmaaDoorLexA
namespace Go.Proofs.YtohalcbhckahmaaDoor
open Go Go.RowKit Go.Joins
set_option linter.all false

set_option maxRecDepth 100000 in
set_option maxHeartbeats 4000000 in
theorem cput_any (w0 w : World) (P : Nat) (s : ByteArray) (k : Nat) (ts : List LTok) (h : Rd w0 w P s k ts) (so : Int) (tx : List UInt8) (nu : Int) (at_ : Nat) (hn : ts.length ≤ 2000000) :
    Calls Tryd.prog 53 #[.pointer (some ⟨P, 0, none⟩), .int .u8 so, .string ⟨tx.toArray⟩, I nu, I at_] w fun e w' => e = .returned (I 0) ∧ Rd w0 w' P s k (ts ++ [⟨so, tx, nu, at_⟩]) := by
  obtain ⟨i0, hi, hz0, hz1, hz2⟩ := info_parts infoTok
  obtain ⟨nw, hP, a, c, hb, ho⟩ := h
  obtain ⟨T, hT⟩ : ∃ T : ByteArray, (⟨tx.toArray⟩ : ByteArray) = T := ⟨_, rfl⟩
  have c2 : w.cell? ⟨P, 2, none⟩ = some (.slice a ts.length c) := by rw [cell_of_block hb 2]; rfl
  have hPl : P < w.heap.size := (Array.getElem?_eq_some_iff.1 hb).1
  rw [hT]
  have HB := Lib.hid hb
  have HO := Lib.hid ho
  have HT := Lib.hid hT
  have hsz : w0.heap.size ≤ w.heap.size := nw.size
  clear hb ho hT
  go_enter Tryd.func53, Tryd.ntmps53
  have ka : New w (w.alloc (.cells #[.int .u8 so, .string T, I nu, I at_] 50)) := (New.refl w).alloc _
  go_wp2_with (at_builtin; refine wpList_app rfl _ _ 44 rfl w0.heap.size 50 i0 _ 4 40 Tryd.underlying44 hi hz0 hz1 hz2 rfl (by decide) a ts.length c (ts.flatMap tokCells) rfl (ka.owns HO.out) _ 1 1 [.int .u8 so, .string T, I nu, I at_] rfl rfl (SlAt.lit _ _ _) (by intro u hu; simp only [List.mem_cons, List.not_mem_nil, or_false] at hu; rcases hu with rfl | rfl | rfl | rfl <;> rfl) (by unfold maxLen; omega) (by omega) (Nat.le_trans hsz ka.size) ?_)
  intro a' c' w' hown hk hm _
  have hown' : w'.ownsRow w0.heap.size 50 4 (.slice a' (ts.length + 1) c') (ts.length + 1) (ts.flatMap tokCells ++ tokCells ⟨so, tx, nu, at_⟩) := by
    unfold tokCells; rw [HT.out]; exact hown
  obtain ⟨⟨hfz, hPl3, hc3⟩, hR⟩ := Rd.add (k := k) ⟨so, tx, nu, at_⟩ (nw.trans ka) hP (Keeps.heap ka HB.out (fun h => h)) (ka.owns HO.out) hown' hk
  have HR := Lib.hid hR
  clear hR hown hown' hk hm c2 hPl ka
  go_wp2_with fail
  go_ret
  exact ⟨rfl, HR.out⟩

theorem dropAt' (s : ByteArray) (k : Nat) (h : k < s.size) : s.data.toList.drop k = byteAt s k :: s.data.toList.drop (k + 1) := by rw [byteAt_in s k h]; exact dropAt s k h
theorem drop_end (s : ByteArray) : s.data.toList.drop s.size = [] := List.drop_eq_nil_of_le (by simp)
set_option maxRecDepth 100000 in
set_option maxHeartbeats 4000000 in
theorem cskip_any (w0 w : World) (P : Nat) (s : ByteArray) (k0 : Nat) (ts : List LTok) (h : Rd w0 w P s k0 ts) (hk0 : k0 ≤ s.size) (hs : s.size ≤ 9223372036854775806) :
    Calls Tryd.prog 50 #[.pointer (some ⟨P, 0, none⟩)] w fun e w' => e = .returned (.tuple #[]) ∧ ∃ k, k0 ≤ k ∧ k ≤ s.size ∧ Hid (lexL k0 (s.data.toList.drop k0) = lexL k (s.data.toList.drop k)) ∧
      Hid (k < s.size → isBlk (byteAt s k) = false ∧ (byteAt s k).toNat ≠ 35) ∧ Rd w0 w' P s k ts := by
  obtain ⟨_, _, _, _, hB⟩ := h.cells
  go_enter Tryd.func50, Tryd.ntmps50
  go_wp2_with fail
  go_loopw [] (fun wr => ∃ k : Nat, k0 ≤ k ∧ k ≤ s.size ∧ Hid (lexL k0 (s.data.toList.drop k0) = lexL k (s.data.toList.drop k)) ∧ Rd w0 wr P s k ts) (fun wr => s.size - atOf wr P)
  case atStart => exact ⟨k0, Nat.le_refl _, hk0, Lib.hid rfl, h⟩
  case round =>
    clear h
    obtain ⟨k, hk1, hk, HL, hR⟩ := hrel
    obtain ⟨_, c1, _, _, hBr⟩ := hR.cells
    have HY : Hid (atOf wr P = k) := Lib.hid (by unfold atOf; rw [c1]; simp)
    have hm := rmore_any w0 wr P s k ts hR (by omega)
    clear c1
    by_cases hk2 : k < s.size
    · rw [decide_eq_true hk2] at hm
      have hp := fun W (n : New wr W) => rpeek0_any w0 W P s k ts (hR.new n) hk hs
      have hdr := dropAt' s k hk2
      obtain ⟨b, hbb⟩ : ∃ b, byteAt s k = b := ⟨_, rfl⟩
      rw [hbb] at hp hdr
      have hbl := fun W => cblank_any W b
      have h255 : b.toNat < 256 := b.toNat_lt
      have HD := Lib.hid hdr
      have HBB := Lib.hid hbb
      clear hdr hbb
      cases e1 : isBlk b with
      | true =>
        rw [e1] at hbl
        have HL2 : Hid (lexL k0 (s.data.toList.drop k0) = lexL (k + 1) (s.data.toList.drop (k + 1))) := Lib.hid (by rw [HL.out, HD.out, lexL_blank _ _ _ e1])
        clear e1
        go_wp2_with fail
        refine hm.mono ?_
        rintro e w2 ⟨rfl, n2⟩
        go_wp2_with fail
        refine (hp _ n2).mono ?_
        rintro e w3 ⟨rfl, n3⟩
        go_wp2_with fail
        refine (hbl _).mono ?_
        rintro e w4 ⟨rfl, rfl⟩
        have hR3 := hR.new (n2.trans n3)
        obtain ⟨_, y0, y1, _, hB3⟩ := hR3.cells
        have HR4 := Lib.hid (hR3.go (k + 1))
        clear hR hR3 hm hp n2 n3
        go_wp2_with fail
        go_roundw
        case rel => exact ⟨k + 1, by omega, by omega, HL2, HR4.out⟩
        case measure =>
          have hx : atOf (w4.setCell ⟨P, 1, none⟩ (I ((k + 1 : Nat) : Int))) P = k + 1 := by
            obtain ⟨_, d1, _⟩ := HR4.out.cells
            unfold atOf; rw [d1]; simp
          first
          | (rw [hx, HY.out]; omega)
          | (rw [Int.natCast_add] at hx; simp at hx ⊢; rw [hx, HY.out]; omega)
      | false =>
        rw [e1] at hbl
        by_cases h35 : b.toNat = 35
        · obtain ⟨n, hn⟩ : ∃ n, ((s.data.toList.drop k).takeWhile notEol).length = n := ⟨_, rfl⟩
          have hne : notEol b = true := by unfold notEol; rw [decide_eq_true_iff]; omega
          have hm1 : n = ((s.data.toList.drop (k + 1)).takeWhile notEol).length + 1 := by rw [← hn, HD.out, List.takeWhile_cons, if_pos hne]; rfl
          have hle : k + n ≤ s.size := by
            have := takeWhile_le notEol (s.data.toList.drop k)
            rw [hn, List.length_drop] at this
            have e : s.data.toList.length = s.size := by simp
            omega
          have HL2 : Hid (lexL k0 (s.data.toList.drop k0) = lexL (k + n) (s.data.toList.drop (k + n))) := Lib.hid (by
            rw [HL.out, HD.out, lexL_hash _ _ _ h35, List.drop_drop, show k + 1 + ((s.data.toList.drop (k + 1)).takeWhile notEol).length = k + n by omega])
          have hw := fun W (n : New wr W) => rwhile_eol w0 W P s k ts (hR.new n) hk hs
          rw [hn] at hw
          have hpos : 1 ≤ n := by omega
          have e35 : ((b.toNat : Int) == 35) = true := by rw [h35]; rfl
          obtain ⟨x, hx⟩ : ∃ x : Int, (b.toNat : Int) = x := ⟨_, rfl⟩
          rw [hx] at e35 hbl hp
          clear e1 hm1 hn hne h35 h255 hx
          go_wp2_with fail
          refine hm.mono ?_
          rintro e w2 ⟨rfl, n2⟩
          go_wp2_with fail
          refine (hp _ n2).mono ?_
          rintro e w3 ⟨rfl, n3⟩
          go_wp2_with fail
          refine (hbl _).mono ?_
          rintro e w4 ⟨rfl, rfl⟩
          go_wp2_with fail
          refine (hw _ (n2.trans n3)).mono ?_
          rintro e w5 ⟨rfl, hR5⟩
          clear hR hm hp n2 n3 hw
          go_wp2_with fail
          go_roundw
          case rel => exact ⟨k + n, by omega, hle, HL2, hR5⟩
          case measure =>
            obtain ⟨_, d1, _⟩ := hR5.cells
            have hx : atOf w5 P = k + n := by unfold atOf; rw [d1]; exact Int.toNat_natCast _
            rw [hx, HY.out]; omega
        · have e35 : ((b.toNat : Int) == 35) = false := by simpa using fun h : (b.toNat : Int) = 35 => h35 (by omega)
          have HF : Hid (k < s.size → isBlk (byteAt s k) = false ∧ (byteAt s k).toNat ≠ 35) := Lib.hid (fun _ => by rw [HBB.out]; exact ⟨e1, h35⟩)
          obtain ⟨x, hx⟩ : ∃ x : Int, (b.toNat : Int) = x := ⟨_, rfl⟩
          rw [hx] at e35 hbl hp
          clear e1 h35 h255 hx
          go_wp2_with fail
          refine hm.mono ?_
          rintro e w2 ⟨rfl, n2⟩
          go_wp2_with fail
          refine (hp _ n2).mono ?_
          rintro e w3 ⟨rfl, n3⟩
          go_wp2_with fail
          refine (hbl _).mono ?_
          rintro e w4 ⟨rfl, rfl⟩
          have HR3 := Lib.hid (hR.new (n2.trans n3))
          clear hR hm hp n2 n3
          go_wp2_with fail
          refine bodyPost_ret (results_none (by kernel_rfl) _ _ _) rfl ?_
          exact ⟨rfl, k, hk1, hk, HL, HF, HR3.out⟩
    · rw [decide_eq_false hk2] at hm
      go_wp2_with fail
      refine hm.mono ?_
      rintro e w2 ⟨rfl, n2⟩
      have HR3 := Lib.hid (hR.new n2)
      clear hR hm n2
      go_wp2_with fail
      go_end0
      exact ⟨rfl, k, hk1, hk, HL, Lib.hid (fun h => absurd h hk2), HR3.out⟩
end Go.Proofs.YtohalcbhckahmaaDoor
