/-
  'GraphNames': the law returns true at every input; what it is handed reads afterwards as before.
-/
import Derived.Test.YtpljnapglbmdlaaRead
import Derived.Test.YtpljnapglbmdlaaReadGr
import Derived.Test.YtpljnapglbmdlaaGrR
import Derived.Test.YtpljnapglbmdlaaGrZ
import Derived.Test.YtpljnapglbmdlaaGsC
import Derived.Test.YtpljnapglbmdlaaGtG
namespace Go.Proofs.Ytpljnapglbmdlaa.graphNames
open Go Go.RowKit Go.Joins Go.ChangeShapes Go.WideShapes Go.ChangeAt
open Go.ChangeMaps (open_string shut_string)
set_option linter.all false

set_option maxRecDepth 100000 in
set_option maxHeartbeats 16000000 in
theorem walk  (w : World) :
    Calls Try.prog 8 #[] w fun e w' => e = .returned (.bool true) ∧ New w w' := by
  obtain ⟨it1, hit1, ha0, ha1, ha2⟩ := info_parts infoAct
  obtain ⟨it2, hit2, he0, he1, he2⟩ := info_parts infoEdge
  obtain ⟨it3, hit3, hz0, hz1, hz2⟩ := info_parts Try.infoInt
  go_enter Try.func8, Try.ntmps8
  go_wp2_with fail
  have n0 : New w (w.alloc (.cells #[.string ⟨#[]⟩, .slice none 0 0, .slice none 0 0, .slice none 0 0, .slice none 0 0] 26)) := (New.refl w).alloc _
  have h0 : (w.alloc (.cells #[.string ⟨#[]⟩, .slice none 0 0, .slice none 0 0, .slice none 0 0, .slice none 0 0] 26)).heap[w.heap.size]? = some (.cells #[.string ⟨#[]⟩, .slice none 0 0, .slice none 0 0, .slice none 0 0, .slice none 0 0] 26 (0, 0)) := heap_alloc_new w _
  generalize (w.alloc (.cells #[.string ⟨#[]⟩, .slice none 0 0, .slice none 0 0, .slice none 0 0, .slice none 0 0] 26)) = v0 at n0 h0  ⊢
  have HB := Lib.hid h0
  have hN := n0
  clear n0 h0
  obtain ⟨x0, x1, x2, x3, x4, hXl⟩ := gr_cells HB.out
  have hzat : ∀ (W : World) (nm : ByteArray), GrAt W (nmG nm none 0 0) := fun W nm => ⟨SlAt.nil _ _, SlAt.nil _ _, SlAt.nil _ _, SlAt.nil _ _, (fun x hx => by cases hx), (fun x hx => by cases hx)⟩
  have hc := ccheck_any v0 (nmG ⟨#[]⟩ none 0 0) (hzat _ _) (nm_len _ (by decide) _ _ _ (by omega))
  rw [nm_find0] at hc
  have hc2 : Calls Try.prog 12 #[.agg #[.string ⟨#[]⟩, .slice none 0 0, .slice none 0 0, .slice none 0 0, .slice none 0 0]] v0 fun e w' => e = .returned (I 82) ∧ New v0 w' := hc
  clear hc
  go_wp2_with fail
  refine hc2.mono ?_
  rintro e v1 ⟨rfl, n1⟩
  clear hc2 x0 x1 x2 x3 x4 hXl
  have HB1 := Keeps.heap n1 HB.out (fun h => h)
  obtain ⟨x0, x1, x2, x3, x4, hXl⟩ := gr_cells HB1
  have fz : v1.frozen? ⟨w.heap.size, 0, none⟩ = false := unfrozen_of_block HB1 0
  go_upto_region 4 with (fail)
  have hb2 := block_setCell (i := 0) HB1 (.string ⟨#[103]⟩)
  simp only [List.setIfInBounds_toArray, List.set_cons_zero] at hb2
  have hN2 : New w (v1.setCell ⟨w.heap.size, 0, none⟩ (.string ⟨#[103]⟩)) := (hN.trans n1).setCell (Nat.le_refl _) _
  generalize (v1.setCell ⟨w.heap.size, 0, none⟩ (.string ⟨#[103]⟩)) = v2 at hb2 hN2 ⊢
  clear x0 x1 x2 x3 x4 hXl fz HB1 n1 hN HB
  obtain ⟨x0, x1, x2, x3, x4, hXl⟩ := gr_cells hb2
  have hc := ccheck_any v2 (nmG ⟨#[103]⟩ none 0 0) (hzat _ _) (nm_len _ (by decide) _ _ _ (by omega))
  rw [nm_find1] at hc
  have hc2 : Calls Try.prog 12 #[.agg #[.string ⟨#[103]⟩, .slice none 0 0, .slice none 0 0, .slice none 0 0, .slice none 0 0]] v2 fun e w' => e = .returned (I 80) ∧ New v2 w' := hc
  clear hc hzat
  go_wp2_with fail
  refine hc2.mono ?_
  rintro e v3 ⟨rfl, n3⟩
  have HD : Hid (NmA w 0 none 0 v3) := Lib.hid ⟨World.ownsRow_nil _ _ _ _, Keeps.heap n3 hb2 (fun h => h), hN2.trans n3⟩
  clear hc2 x0 x1 x2 x3 x4 hXl n3 hb2 hN2
  go_wp2_with fail
  go_loopw [4] (fun i wr => ∃ (k : Nat) (a : Option Addr) (c : Nat), k ≤ 32 ∧ i = .int .i64 k ∧ Hid (NmA w k a c wr)) (fun i _ => 32 - (intOf i).toNat)
  case atStart => exact ⟨0, none, 0, by omega, rfl, HD⟩
  case round =>
    clear HD
    obtain ⟨k, a, c, hk, rfl, HR⟩ := hrel
    obtain ⟨x0, x1, x2, x3, x4, hXl⟩ := gr_cells HR.out.bl
    by_cases hk1 : k < 32
    · have hkI : (k : Int) < 32 := by omega
      have hkd : decide (k < 32) = true := decide_eq_true hk1
      obtain ⟨XS, hXS⟩ : ∃ XS, XS = (List.replicate k actA).flatMap actCells := ⟨_, rfl⟩
      have kz : New wr (wr.alloc (.cells #[.string ⟨#[97]⟩, .int .u8 0, .slice none 0 0] 55)) := (New.refl wr).alloc _
      have hlit : SlAt (wr.alloc (.cells #[.string ⟨#[97]⟩, .int .u8 0, .slice none 0 0] 55)) (some ⟨wr.heap.size, 0, none⟩) (actCells actA) := SlAt.lit wr _ _
      have hoz := kz.owns HR.out.ao
      rw [← hXS] at hoz
      have HXS := Lib.hid hXS
      clear hXS
      have hbz : w.heap.size + 1 ≤ (wr.alloc (.cells #[.string ⟨#[97]⟩, .int .u8 0, .slice none 0 0] 55)).heap.size := Nat.le_trans hXl kz.size
      go_wp2_with (at_builtin; refine wpList_app rfl _ _ 22 rfl (w.heap.size + 1) 55 it1 _ 3 48 Try.underlying22 hit1 ha0 ha1 ha2 rfl (by decide) a k c XS rfl hoz (some ⟨wr.heap.size, 0, none⟩) 1 1 (actCells actA) rfl rfl hlit (one_act _) (by unfold maxLen; omega) (by omega) hbz ?_)
      intro a' c' w4 hown' hk' hm' _
      obtain ⟨⟨hv, hfz, hPl2⟩, hNx⟩ := HR.out.add kz (by rw [← HXS.out]; exact hown') hk'
      have HNx := Lib.hid hNx
      clear hNx hown' hk' hm' hoz hlit kz hbz x0 x1 x2 x3 x4 hXl
      clear HR
      go_wp2_with fail
      go_roundw
      case rel => exact ⟨k + 1, a', c', by omega, by go_num, HNx⟩
      case measure => simp [intOf]; omega
    · obtain rfl : k = 32 := by omega
      clear hk hk1
      have hc := ccheck_any wr (nmG ⟨#[103]⟩ a c 32) (HR.out.at _) (nm_len _ (by decide) _ _ _ (by omega))
      rw [nm_find2] at hc
      have hc2 : Calls Try.prog 12 #[.agg #[.string ⟨#[103]⟩, .slice a 32 c, .slice none 0 0, .slice none 0 0, .slice none 0 0]] wr fun e w' => e = .returned (I 60) ∧ New wr w' := by
        have h := hc
        simp only [nmG, Gr.v, Gr.cs, List.length_replicate, List.length_nil] at h
        exact h
      clear hc
      go_wp2_with fail
      refine hc2.mono ?_
      rintro e v4 ⟨rfl, n4⟩
      clear hc2 x0 x1 x2 x3 x4 hXl
      replace HR := Lib.hid (HR.out.new n4)
      clear n4
      obtain ⟨wr, rfl⟩ : ∃ z, z = v4 := ⟨_, rfl⟩
      obtain ⟨x0, x1, x2, x3, x4, hXl⟩ := gr_cells HR.out.bl
      obtain ⟨XS, hXS⟩ : ∃ XS, XS = (List.replicate 32 actA).flatMap actCells := ⟨_, rfl⟩
      have kz : New wr (wr.alloc (.cells #[.string ⟨#[97]⟩, .int .u8 0, .slice none 0 0] 55)) := (New.refl wr).alloc _
      have hlit : SlAt (wr.alloc (.cells #[.string ⟨#[97]⟩, .int .u8 0, .slice none 0 0] 55)) (some ⟨wr.heap.size, 0, none⟩) (actCells actA) := SlAt.lit wr _ _
      have hoz := kz.owns HR.out.ao
      rw [← hXS] at hoz
      have HXS := Lib.hid hXS
      clear hXS
      have hbz : w.heap.size + 1 ≤ (wr.alloc (.cells #[.string ⟨#[97]⟩, .int .u8 0, .slice none 0 0] 55)).heap.size := Nat.le_trans hXl kz.size
      go_wp2_with (at_builtin; refine wpList_app rfl _ _ 22 rfl (w.heap.size + 1) 55 it1 _ 3 48 Try.underlying22 hit1 ha0 ha1 ha2 rfl (by decide) a 32 c XS rfl hoz (some ⟨wr.heap.size, 0, none⟩) 1 1 (actCells actA) rfl rfl hlit (one_act _) (by unfold maxLen; omega) (by omega) hbz ?_)
      intro a' c' w4 hown' hk' hm' _
      obtain ⟨⟨hv, hfz, hPl2⟩, hNx⟩ := HR.out.add kz (by rw [← HXS.out]; exact hown') hk'
      have HNx := Lib.hid hNx
      clear hNx hown' hk' hm' hoz hlit kz hbz x0 x1 x2 x3 x4 hXl
      clear HR
      go_upto_region 11 with (fail)
      generalize (w4.setCell ⟨w.heap.size, 1, none⟩ (.slice a' (32 + 1) c')) = v5 at HNx ⊢
      obtain ⟨x0, x1, x2, x3, x4, hXl⟩ := gr_cells HNx.out.bl
      have hc := ccheck_any v5 (nmG ⟨#[103]⟩ a' c' 33) (HNx.out.at _) (nm_len _ (by decide) _ _ _ (by omega))
      rw [nm_find3] at hc
      have hc2 : Calls Try.prog 12 #[.agg #[.string ⟨#[103]⟩, .slice a' (32 + 1) c', .slice none 0 0, .slice none 0 0, .slice none 0 0]] v5 fun e w' => e = .returned (I 81) ∧ New v5 w' := by
        have h := hc
        simp only [nmG, Gr.v, Gr.cs, List.length_replicate, List.length_nil] at h
        exact h
      clear hc
      go_wp2_with fail
      refine hc2.mono ?_
      rintro e u0 ⟨rfl, n6⟩
      have hb := Keeps.heap n6 HNx.out.bl (fun h => h)
      have hN := HNx.out.nw.trans n6
      clear hc2 x0 x1 x2 x3 x4 hXl n6 HNx
      go_wp2_with fail
      refine (small_lit u0).mono ?_
      rintro e z7 ⟨rfl, S, n7⟩
      obtain ⟨n, hn⟩ : ∃ n, n = u0.heap.size := ⟨_, rfl⟩
      rw [← hn] at S ⊢
      have hnl : w.heap.size < n := by rw [hn]; exact (Array.getElem?_eq_some_iff.1 hb).1
      clear hn
      replace hb := Keeps.heap n7 hb (fun h => h)
      replace hN := hN.trans n7
      clear n7
      obtain ⟨x0, x1, x2, x3, x4, hXl⟩ := gr_cells hb
      have gz0 := unfrozen_of_block hb 0
      have gz1 := unfrozen_of_block hb 1
      have gz2 := unfrozen_of_block hb 2
      have gz3 := unfrozen_of_block hb 3
      have gz4 := unfrozen_of_block hb 4
      go_upto_region 13 with (fail)
      obtain ⟨hb8, k8⟩ := gr_stored hb (.string ⟨#[103]⟩) (.slice (some ⟨n + 1 + 1, 0, none⟩) 2 2) (.slice (some ⟨n + 1 + 1 + 1 + 1, 0, none⟩) 1 1) (.slice (some ⟨n + 1 + 1 + 1 + 1 + 1, 0, none⟩) 1 1) (.slice (some ⟨n + 1 + 1 + 1 + 1 + 1 + 1, 0, none⟩) 1 1)
      clear hb gz0 gz1 gz2 gz3 gz4 x0 x1 x2 x3 x4 hXl
      generalize (((((z7.setCell ⟨w.heap.size, 0, none⟩ (.string ⟨#[103]⟩)).setCell ⟨w.heap.size, 1, none⟩ (.slice (some ⟨n + 1 + 1, 0, none⟩) 2 2)).setCell ⟨w.heap.size, 2, none⟩ (.slice (some ⟨n + 1 + 1 + 1 + 1, 0, none⟩) 1 1)).setCell ⟨w.heap.size, 3, none⟩ (.slice (some ⟨n + 1 + 1 + 1 + 1 + 1, 0, none⟩) 1 1)).setCell ⟨w.heap.size, 4, none⟩ (.slice (some ⟨n + 1 + 1 + 1 + 1 + 1 + 1, 0, none⟩) 1 1)) = u1 at hb8 k8 ⊢
      replace S := S.g k8 hnl
      replace hN := New.keeps hN k8 (fun i hi e => by omega)
      have hb := hb8
      clear hb8 k8
      obtain ⟨x0, x1, x2, x3, x4, hXl⟩ := gr_cells hb
      have q3 : u1.cell? ⟨n + 1 + 1, 3, none⟩ = some (.string ⟨#[98]⟩) := by rw [cell_of_block S.b2]; rfl
      have hbl : n + 1 + 1 < u1.heap.size := (Array.getElem?_eq_some_iff.1 S.b2).1
      have fz : u1.frozen? ⟨n + 1 + 1, 3, none⟩ = false := unfrozen_of_block S.b2 3
      go_upto_region 14 with (fail)
      have SX := S.setE
      have kk : Keeps (fun k => k = n + 1 + 1) u1 (u1.setCell ⟨n + 1 + 1, 3, none⟩ (.string ⟨#[97]⟩)) := Keeps.setCell u1 _ _ rfl
      replace hb := kk.heap hb (by omega)
      replace hN := New.keeps hN kk (fun i hi e => by omega)
      generalize (u1.setCell ⟨n + 1 + 1, 3, none⟩ (.string ⟨#[97]⟩)) = u2 at SX hb hN ⊢
      clear kk fz S
      clear q3 hbl x0 x1 x2 x3 x4 hXl
      obtain ⟨x0, x1, x2, x3, x4, hXl⟩ := gr_cells hb
      have hc := ccheck_any u2 (smX n ⟨#[97]⟩ 0 (some ⟨n + 1 + 1 + 1, 0, none⟩) 1 [7]) SX.at (smX_len _ _ _ _ _ _ (by decide) (by decide))
      rw [smX_find1] at hc
      have hc2 : Calls Try.prog 12 #[.agg #[.string ⟨#[103]⟩, .slice (some ⟨n + 1 + 1, 0, none⟩) 2 2, .slice (some ⟨n + 1 + 1 + 1 + 1, 0, none⟩) 1 1, .slice (some ⟨n + 1 + 1 + 1 + 1 + 1, 0, none⟩) 1 1, .slice (some ⟨n + 1 + 1 + 1 + 1 + 1 + 1, 0, none⟩) 1 1]] u2 fun e w' => e = .returned (I 83) ∧ New u2 w' := hc
      clear hc
      go_wp2_with fail
      refine hc2.mono ?_
      rintro e u3 ⟨rfl, n9⟩
      replace hb := Keeps.heap n9 hb (fun h => h)
      replace hN := hN.trans n9
      clear hc2 x0 x1 x2 x3 x4 hXl n9
      clear SX hnl
      go_wp2_with fail
      refine (small_lit u3).mono ?_
      rintro e z7 ⟨rfl, S, n7⟩
      obtain ⟨n, hn⟩ : ∃ n, n = u3.heap.size := ⟨_, rfl⟩
      rw [← hn] at S ⊢
      have hnl : w.heap.size < n := by rw [hn]; exact (Array.getElem?_eq_some_iff.1 hb).1
      clear hn
      replace hb := Keeps.heap n7 hb (fun h => h)
      replace hN := hN.trans n7
      clear n7
      obtain ⟨x0, x1, x2, x3, x4, hXl⟩ := gr_cells hb
      have gz0 := unfrozen_of_block hb 0
      have gz1 := unfrozen_of_block hb 1
      have gz2 := unfrozen_of_block hb 2
      have gz3 := unfrozen_of_block hb 3
      have gz4 := unfrozen_of_block hb 4
      go_upto_region 16 with (fail)
      obtain ⟨hb8, k8⟩ := gr_stored hb (.string ⟨#[103]⟩) (.slice (some ⟨n + 1 + 1, 0, none⟩) 2 2) (.slice (some ⟨n + 1 + 1 + 1 + 1, 0, none⟩) 1 1) (.slice (some ⟨n + 1 + 1 + 1 + 1 + 1, 0, none⟩) 1 1) (.slice (some ⟨n + 1 + 1 + 1 + 1 + 1 + 1, 0, none⟩) 1 1)
      clear hb gz0 gz1 gz2 gz3 gz4 x0 x1 x2 x3 x4 hXl
      generalize (((((z7.setCell ⟨w.heap.size, 0, none⟩ (.string ⟨#[103]⟩)).setCell ⟨w.heap.size, 1, none⟩ (.slice (some ⟨n + 1 + 1, 0, none⟩) 2 2)).setCell ⟨w.heap.size, 2, none⟩ (.slice (some ⟨n + 1 + 1 + 1 + 1, 0, none⟩) 1 1)).setCell ⟨w.heap.size, 3, none⟩ (.slice (some ⟨n + 1 + 1 + 1 + 1 + 1, 0, none⟩) 1 1)).setCell ⟨w.heap.size, 4, none⟩ (.slice (some ⟨n + 1 + 1 + 1 + 1 + 1 + 1, 0, none⟩) 1 1)) = u4 at hb8 k8 ⊢
      replace S := S.g k8 hnl
      replace hN := New.keeps hN k8 (fun i hi e => by omega)
      have hb := hb8
      clear hb8 k8
      obtain ⟨x0, x1, x2, x3, x4, hXl⟩ := gr_cells hb
      have q0 : u4.cell? ⟨n + 1 + 1 + 1 + 1, 0, none⟩ = some (I 0) := by rw [cell_of_block S.b4]; rfl
      have hbl : n + 1 + 1 + 1 + 1 < u4.heap.size := (Array.getElem?_eq_some_iff.1 S.b4).1
      have fz : u4.frozen? ⟨n + 1 + 1 + 1 + 1, 0, none⟩ = false := unfrozen_of_block S.b4 0
      go_upto_region 17 with (fail)
      have SX := S.setF
      have kk : Keeps (fun k => k = n + 1 + 1 + 1 + 1) u4 (u4.setCell ⟨n + 1 + 1 + 1 + 1, 0, none⟩ (I 2)) := Keeps.setCell u4 _ _ rfl
      replace hb := kk.heap hb (by omega)
      replace hN := New.keeps hN kk (fun i hi e => by omega)
      generalize (u4.setCell ⟨n + 1 + 1 + 1 + 1, 0, none⟩ (I 2)) = u5 at SX hb hN ⊢
      clear kk fz S
      clear q0 hbl x0 x1 x2 x3 x4 hXl
      obtain ⟨x0, x1, x2, x3, x4, hXl⟩ := gr_cells hb
      have hc := ccheck_any u5 (smX n ⟨#[98]⟩ 2 (some ⟨n + 1 + 1 + 1, 0, none⟩) 1 [7]) SX.at (smX_len _ _ _ _ _ _ (by decide) (by decide))
      rw [smX_find2] at hc
      have hc2 : Calls Try.prog 12 #[.agg #[.string ⟨#[103]⟩, .slice (some ⟨n + 1 + 1, 0, none⟩) 2 2, .slice (some ⟨n + 1 + 1 + 1 + 1, 0, none⟩) 1 1, .slice (some ⟨n + 1 + 1 + 1 + 1 + 1, 0, none⟩) 1 1, .slice (some ⟨n + 1 + 1 + 1 + 1 + 1 + 1, 0, none⟩) 1 1]] u5 fun e w' => e = .returned (I 84) ∧ New u5 w' := hc
      clear hc
      go_wp2_with fail
      refine hc2.mono ?_
      rintro e u6 ⟨rfl, n9⟩
      replace hb := Keeps.heap n9 hb (fun h => h)
      replace hN := hN.trans n9
      clear hc2 x0 x1 x2 x3 x4 hXl n9
      clear SX hnl
      go_wp2_with fail
      refine (small_lit u6).mono ?_
      rintro e z7 ⟨rfl, S, n7⟩
      obtain ⟨n, hn⟩ : ∃ n, n = u6.heap.size := ⟨_, rfl⟩
      rw [← hn] at S ⊢
      have hnl : w.heap.size < n := by rw [hn]; exact (Array.getElem?_eq_some_iff.1 hb).1
      clear hn
      replace hb := Keeps.heap n7 hb (fun h => h)
      replace hN := hN.trans n7
      clear n7
      obtain ⟨x0, x1, x2, x3, x4, hXl⟩ := gr_cells hb
      have gz0 := unfrozen_of_block hb 0
      have gz1 := unfrozen_of_block hb 1
      have gz2 := unfrozen_of_block hb 2
      have gz3 := unfrozen_of_block hb 3
      have gz4 := unfrozen_of_block hb 4
      go_upto_region 19 with (fail)
      obtain ⟨hb8, k8⟩ := gr_stored hb (.string ⟨#[103]⟩) (.slice (some ⟨n + 1 + 1, 0, none⟩) 2 2) (.slice (some ⟨n + 1 + 1 + 1 + 1, 0, none⟩) 1 1) (.slice (some ⟨n + 1 + 1 + 1 + 1 + 1, 0, none⟩) 1 1) (.slice (some ⟨n + 1 + 1 + 1 + 1 + 1 + 1, 0, none⟩) 1 1)
      clear hb gz0 gz1 gz2 gz3 gz4 x0 x1 x2 x3 x4 hXl
      generalize (((((z7.setCell ⟨w.heap.size, 0, none⟩ (.string ⟨#[103]⟩)).setCell ⟨w.heap.size, 1, none⟩ (.slice (some ⟨n + 1 + 1, 0, none⟩) 2 2)).setCell ⟨w.heap.size, 2, none⟩ (.slice (some ⟨n + 1 + 1 + 1 + 1, 0, none⟩) 1 1)).setCell ⟨w.heap.size, 3, none⟩ (.slice (some ⟨n + 1 + 1 + 1 + 1 + 1, 0, none⟩) 1 1)).setCell ⟨w.heap.size, 4, none⟩ (.slice (some ⟨n + 1 + 1 + 1 + 1 + 1 + 1, 0, none⟩) 1 1)) = u7 at hb8 k8 ⊢
      replace S := S.g k8 hnl
      replace hN := New.keeps hN k8 (fun i hi e => by omega)
      have hb := hb8
      clear hb8 k8
      obtain ⟨x0, x1, x2, x3, x4, hXl⟩ := gr_cells hb
      obtain ⟨y0, y1, y2, y3, y4, hYl⟩ := edge_cells S.b4
      have hdr : New u7 u7.drew := (New.refl u7).drew
      have HSn : ∀ V, New u7 V → (fun w' : World => w'.cell? ⟨w.heap.size, 2, none⟩ = some (.slice (some ⟨n + 1 + 1 + 1 + 1, 0, none⟩) 1 1) ∧ w'.cell? ⟨n + 1 + 1 + 1 + 1, 0, none⟩ = some (I 0) ∧ w'.cell? ⟨n + 1 + 1 + 1 + 1, 1, none⟩ = some (I 0) ∧ w'.cell? ⟨n + 1 + 1 + 1 + 1, 2, none⟩ = some (I 1) ∧ w'.cell? ⟨n + 1 + 1 + 1 + 1, 3, none⟩ = some (I 0) ∧ w'.cell? ⟨n + 1 + 1 + 1 + 1, 4, none⟩ = some (.slice (some ⟨n + 1 + 1 + 1, 0, none⟩) 1 1) ∧ w.heap.size < w'.heap.size) V := fun V kv => ⟨kv.cell x2, kv.cell y0, kv.cell y1, kv.cell y2, kv.cell y3, kv.cell y4, Nat.lt_of_lt_of_le hXl kv.size⟩
      have hS0 := HSn _ hdr
      clear x0 x1 x2 x3 x4 hXl y0 y1 y2 y3 y4 hYl
      refine wp_region_X (fun w' : World => w'.cell? ⟨w.heap.size, 2, none⟩ = some (.slice (some ⟨n + 1 + 1 + 1 + 1, 0, none⟩) 1 1) ∧ w'.cell? ⟨n + 1 + 1 + 1 + 1, 0, none⟩ = some (I 0) ∧ w'.cell? ⟨n + 1 + 1 + 1 + 1, 1, none⟩ = some (I 0) ∧ w'.cell? ⟨n + 1 + 1 + 1 + 1, 2, none⟩ = some (I 1) ∧ w'.cell? ⟨n + 1 + 1 + 1 + 1, 3, none⟩ = some (I 0) ∧ w'.cell? ⟨n + 1 + 1 + 1 + 1, 4, none⟩ = some (.slice (some ⟨n + 1 + 1 + 1, 0, none⟩) 1 1) ∧ w.heap.size < w'.heap.size) [7, 8, 9] (by kernel_rfl) hS0 ?_
      generalize u7.drew = wd at hdr hS0 ⊢
      refine anyX_take 0 (by kernel_rfl) (by kernel_rfl) (by kernel_rfl) (by kernel_rfl) (by kernel_rfl) hS0 ?_
      intro oi ho; simp only [List.getElem?_toArray, List.getElem?_cons_succ, List.getElem?_cons_zero, Option.some.injEq] at ho; subst ho
      refine ⟨?_, fun _ _ _ h => h, Or.inl ⟨by rfl, ?_⟩, ?_⟩; rotate_left 1
      · (intro wS hSw; (try dsimp only at hSw); go_simp; try with_reducible rfl)
      simp only [Act.put, List.setIfInBounds_toArray, List.set_cons_zero, List.set_cons_succ]
      refine anyX_take 1 (by kernel_rfl) (by kernel_rfl) (by kernel_rfl) (by kernel_rfl) (by kernel_rfl) hS0 ?_
      intro oi ho; simp only [List.getElem?_toArray, List.getElem?_cons_succ, List.getElem?_cons_zero, Option.some.injEq] at ho; subst ho
      refine ⟨?_, fun _ _ _ h => h, Or.inl ⟨by rfl, ?_⟩, ?_⟩; rotate_left 1
      · (intro wS hSw; (try dsimp only at hSw); go_simp; try with_reducible rfl)
      simp only [Act.put, List.setIfInBounds_toArray, List.set_cons_zero, List.set_cons_succ]
      refine anyX_take 2 (by kernel_rfl) (by kernel_rfl) (by kernel_rfl) (by kernel_rfl) (by kernel_rfl) hS0 ?_
      intro oi ho; simp only [List.getElem?_toArray, List.getElem?_cons_succ, List.getElem?_cons_zero, Option.some.injEq] at ho; subst ho
      refine ⟨?_, fun _ _ _ h => h, Or.inl ⟨by rfl, ?_⟩, ?_⟩; rotate_left 1
      · (intro wS hSw; (try dsimp only at hSw); go_simp; try with_reducible rfl)
      simp only [Act.put, List.setIfInBounds_toArray, List.set_cons_zero, List.set_cons_succ]
      refine anyX_take 3 (by kernel_rfl) (by kernel_rfl) (by kernel_rfl) (by kernel_rfl) (by kernel_rfl) hS0 ?_
      intro oi ho; simp only [List.getElem?_toArray, List.getElem?_cons_succ, List.getElem?_cons_zero, Option.some.injEq] at ho; subst ho
      refine ⟨?_, fun _ _ _ h => h, Or.inl ⟨by rfl, ?_⟩, ?_⟩; rotate_left 1
      · (intro wS hSw; (try dsimp only at hSw); go_simp; try with_reducible rfl)
      simp only [Act.put, List.setIfInBounds_toArray, List.set_cons_zero, List.set_cons_succ]
      refine anyX_take 4 (by kernel_rfl) (by kernel_rfl) (by kernel_rfl) (by kernel_rfl) (by kernel_rfl) hS0 ?_
      intro oi ho; simp only [List.getElem?_toArray, List.getElem?_cons_succ, List.getElem?_cons_zero, Option.some.injEq] at ho; subst ho
      refine ⟨?_, fun _ _ _ h => h, Or.inl ⟨by rfl, ?_⟩, ?_⟩; rotate_left 1
      · (intro wS hSw; (try dsimp only at hSw); go_simp; try with_reducible rfl)
      simp only [Act.put, List.setIfInBounds_toArray, List.set_cons_zero, List.set_cons_succ]
      refine anyX_take 5 (by kernel_rfl) (by kernel_rfl) (by kernel_rfl) (by kernel_rfl) (by kernel_rfl) hS0 ?_
      intro oi ho; simp only [List.getElem?_toArray, List.getElem?_cons_succ, List.getElem?_cons_zero, Option.some.injEq] at ho; subst ho
      refine ⟨?_, fun _ _ _ h => h, Or.inl ⟨by rfl, ?_⟩, ?_⟩; rotate_left 1
      · (intro wS hSw; (try dsimp only at hSw); go_simp; try with_reducible rfl)
      simp only [Act.put, List.setIfInBounds_toArray, List.set_cons_zero, List.set_cons_succ]
      refine anyX_one 6 (by kernel_rfl) ?_
      intro oi ho; simp only [List.getElem?_toArray, List.getElem?_cons_succ, List.getElem?_cons_zero, Option.some.injEq] at ho; subst ho; intro K hK
      (try simp only [Act.put, List.setIfInBounds_toArray, List.set_cons_zero, List.set_cons_succ])
      go_simp
      have kl : New wd (wd.alloc (.cells #[I 0, I 0, I 1, I 0, .slice (some ⟨n + 1 + 1 + 1, 0, none⟩) 1 1] 58)) := (New.refl wd).alloc _
      have hlit : SlAt (wd.alloc (.cells #[I 0, I 0, I 1, I 0, .slice (some ⟨n + 1 + 1 + 1, 0, none⟩) 1 1] 58)) (some ⟨wd.heap.size, 0, none⟩) (edgeCells (⟨0, 0, 1, 0, some ⟨n + 1 + 1 + 1, 0, none⟩, 1, [7]⟩ : GEdge)) := SlAt.lit wd _ _
      have kz := hdr.trans kl
      refine hK _ _ (fun _ => HSn _ kz) ?_
      clear hK K
      generalize (wd.alloc (.cells #[I 0, I 0, I 1, I 0, .slice (some ⟨n + 1 + 1 + 1, 0, none⟩) 1 1] 58)) = VZ at kl hlit kz ⊢
      generalize wd.heap.size = Z at hlit ⊢
      have SZ := Lib.hid (show SmAt VZ n 0 from ⟨Keeps.heap kz S.b1 (fun h => h), Keeps.heap kz S.b2 (fun h => h), Keeps.heap kz S.b3 (fun h => h), Keeps.heap kz S.b4 (fun h => h), Keeps.heap kz S.b5 (fun h => h), Keeps.heap kz S.b6 (fun h => h)⟩)
      have hbZ := Keeps.heap kz hb (fun h => h)
      have hNZ := hN.trans kz
      have hown : VZ.ownsRow (w.heap.size + 1) 58 5 (.slice (some ⟨n + 1 + 1 + 1 + 1, 0, none⟩) 1 1) 1 (edgeCells (⟨0, 0, 1, 0, some ⟨n + 1 + 1 + 1, 0, none⟩, 1, [7]⟩ : GEdge)) := row_own (n := 1) (size := 5) (cs := edgeCells (⟨0, 0, 1, 0, some ⟨n + 1 + 1 + 1, 0, none⟩, 1, [7]⟩ : GEdge)) SZ.out.b4 (by omega) rfl (by decide)
      refine anyX_one 7 (by kernel_rfl) ?_
      intro oi ho; simp only [List.getElem?_toArray, List.getElem?_cons_succ, List.getElem?_cons_zero, Option.some.injEq] at ho; subst ho; intro K hK
      refine step_app rfl _ _ 23 rfl (w.heap.size + 1) 58 it2 _ 5 56 Try.underlying23 hit2 he0 he1 he2 rfl (by decide) (some ⟨n + 1 + 1 + 1 + 1, 0, none⟩) 1 1 (edgeCells (⟨0, 0, 1, 0, some ⟨n + 1 + 1 + 1, 0, none⟩, 1, [7]⟩ : GEdge)) rfl hown (some ⟨Z, 0, none⟩) 1 1 (edgeCells (⟨0, 0, 1, 0, some ⟨n + 1 + 1 + 1, 0, none⟩, 1, [7]⟩ : GEdge)) rfl rfl hlit (one_edge _) (by unfold maxLen; omega) (by omega) (Nat.le_trans (by omega : w.heap.size + 1 ≤ n) (Nat.le_of_lt (by have := (Array.getElem?_eq_some_iff.1 SZ.out.b1).1; omega))) ?_
      intro a2 c2 wq hown' hk' hmv
      have hnb : ∀ j, blk (some ⟨n + 1 + 1 + 1 + 1, 0, none⟩ : Option Addr) j → j = n + 1 + 1 + 1 + 1 := fun j hj => by obtain ⟨y, hy, he⟩ := hj; cases hy; exact he.symm
      have q1 := hk'.heap SZ.out.b1 (fun hx => by have := hnb _ hx; omega)
      have q2 := hk'.heap SZ.out.b2 (fun hx => by have := hnb _ hx; omega)
      have q3 := hk'.heap SZ.out.b3 (fun hx => by have := hnb _ hx; omega)
      have q5 := hk'.heap SZ.out.b5 (fun hx => by have := hnb _ hx; omega)
      have q6 := hk'.heap SZ.out.b6 (fun hx => by have := hnb _ hx; omega)
      have qb := hk'.heap hbZ (fun hx => by have := hnb _ hx; omega)
      have hNq := New.keeps hNZ hk' (fun i hi hx => by have := hnb _ hx; omega)
      obtain ⟨z0, z1, z2, z3, z4, hZl⟩ := gr_cells qb
      have gz2 := unfrozen_of_block qb 2
      have HQ1 := Lib.hid q1
      have HQ2 := Lib.hid q2
      have HQ3 := Lib.hid q3
      have HQ5 := Lib.hid q5
      have HQ6 := Lib.hid q6
      have HQB := Lib.hid qb
      have HOW := Lib.hid hown'
      refine hK _ _ (fun hx => by cases hx) ?_
      clear hnb hK K q1 q2 q3 q5 q6 qb hown' hk' hmv hown SZ hbZ hNZ hlit kl
      refine anyX_one 8 (by kernel_rfl) ?_
      intro oi ho; simp only [List.getElem?_toArray, List.getElem?_cons_succ, List.getElem?_cons_zero, Option.some.injEq] at ho; subst ho; intro K hK
      (try simp only [Act.put, List.setIfInBounds_toArray, List.set_cons_zero, List.set_cons_succ])
      go_simp
      refine hK _ _ (fun hx => by cases hx) ?_
      clear hK K
      refine anyX_one 9 (by kernel_rfl) ?_
      intro oi ho; simp only [List.getElem?_toArray, List.getElem?_cons_succ, List.getElem?_cons_zero, Option.some.injEq] at ho; subst ho; intro K hK
      (try simp only [Act.put, List.setIfInBounds_toArray, List.set_cons_zero, List.set_cons_succ])
      go_simp
      refine hK _ _ (fun hx => by cases hx) ?_
      clear hK K
      refine anyX_done (by kernel_rfl) ?_
      (try simp only [Act.put, List.setIfInBounds_toArray, List.set_cons_zero, List.set_cons_succ])
      (try simp only [Exit.then])
      clear hS0 HSn hb hN S z0 z1 z2 z3 z4 hZl gz2
      have k9 : Keeps (fun k => k = w.heap.size) wq (wq.setCell ⟨w.heap.size, 2, none⟩ (.slice a2 2 c2)) := Keeps.setCell wq _ _ rfl
      have hb := block_setCell (i := 2) HQB.out (.slice a2 2 c2)
      simp only [List.setIfInBounds_toArray, List.set_cons_zero, List.set_cons_succ] at hb
      have hN := New.keeps hNq k9 (fun i hi e => by omega)
      have how := own_oth HOW.out k9 (fun k hk => ⟨_, _, _, hk ▸ HQB.out, by decide⟩)
      have hga : GrAt (wq.setCell ⟨w.heap.size, 2, none⟩ (.slice a2 2 c2)) (smT n a2 c2) := smT_at (k9.heap HQ1.out (by omega)) (k9.heap HQ2.out (by omega)) (k9.heap HQ3.out (by omega)) (k9.heap HQ5.out (by omega)) (k9.heap HQ6.out (by omega)) (SlAt.of_owns how)
      generalize (wq.setCell ⟨w.heap.size, 2, none⟩ (.slice a2 2 c2)) = u8 at hb hN hga ⊢
      clear k9 how HQ1 HQ2 HQ3 HQ5 HQ6 HQB HOW hNq
      obtain ⟨x0, x1, x2, x3, x4, hXl⟩ := gr_cells hb
      have hc := ccheck_any u8 (smT n a2 c2) hga (smT_len _ _ _)
      rw [smT_find] at hc
      have hc2 : Calls Try.prog 12 #[.agg #[.string ⟨#[103]⟩, .slice (some ⟨n + 1 + 1, 0, none⟩) 2 2, .slice a2 2 c2, .slice (some ⟨n + 1 + 1 + 1 + 1 + 1, 0, none⟩) 1 1, .slice (some ⟨n + 1 + 1 + 1 + 1 + 1 + 1, 0, none⟩) 1 1]] u8 fun e w' => e = .returned (I 86) ∧ New u8 w' := hc
      clear hc
      go_wp2_with fail
      refine hc2.mono ?_
      rintro e u9 ⟨rfl, n9⟩
      replace hb := Keeps.heap n9 hb (fun h => h)
      replace hN := hN.trans n9
      clear hc2 x0 x1 x2 x3 x4 hXl n9
      clear hga hnl
      go_wp2_with fail
      refine (small_lit u9).mono ?_
      rintro e z7 ⟨rfl, S, n7⟩
      obtain ⟨n, hn⟩ : ∃ n, n = u9.heap.size := ⟨_, rfl⟩
      rw [← hn] at S ⊢
      have hnl : w.heap.size < n := by rw [hn]; exact (Array.getElem?_eq_some_iff.1 hb).1
      clear hn
      replace hb := Keeps.heap n7 hb (fun h => h)
      replace hN := hN.trans n7
      clear n7
      obtain ⟨x0, x1, x2, x3, x4, hXl⟩ := gr_cells hb
      have gz0 := unfrozen_of_block hb 0
      have gz1 := unfrozen_of_block hb 1
      have gz2 := unfrozen_of_block hb 2
      have gz3 := unfrozen_of_block hb 3
      have gz4 := unfrozen_of_block hb 4
      go_upto_region 22 with (fail)
      obtain ⟨hb8, k8⟩ := gr_stored hb (.string ⟨#[103]⟩) (.slice (some ⟨n + 1 + 1, 0, none⟩) 2 2) (.slice (some ⟨n + 1 + 1 + 1 + 1, 0, none⟩) 1 1) (.slice (some ⟨n + 1 + 1 + 1 + 1 + 1, 0, none⟩) 1 1) (.slice (some ⟨n + 1 + 1 + 1 + 1 + 1 + 1, 0, none⟩) 1 1)
      clear hb gz0 gz1 gz2 gz3 gz4 x0 x1 x2 x3 x4 hXl
      generalize (((((z7.setCell ⟨w.heap.size, 0, none⟩ (.string ⟨#[103]⟩)).setCell ⟨w.heap.size, 1, none⟩ (.slice (some ⟨n + 1 + 1, 0, none⟩) 2 2)).setCell ⟨w.heap.size, 2, none⟩ (.slice (some ⟨n + 1 + 1 + 1 + 1, 0, none⟩) 1 1)).setCell ⟨w.heap.size, 3, none⟩ (.slice (some ⟨n + 1 + 1 + 1 + 1 + 1, 0, none⟩) 1 1)).setCell ⟨w.heap.size, 4, none⟩ (.slice (some ⟨n + 1 + 1 + 1 + 1 + 1 + 1, 0, none⟩) 1 1)) = t0 at hb8 k8 ⊢
      replace S := S.g k8 hnl
      replace hN := New.keeps hN k8 (fun i hi e => by omega)
      have hb := hb8
      clear hb8 k8
      obtain ⟨x0, x1, x2, x3, x4, hXl⟩ := gr_cells hb
      have HD : Hid (StA w n 0 (some ⟨n + 1 + 1 + 1, 0, none⟩) 1 t0) := Lib.hid (S.st hb hN hnl)
      clear S hb hN hnl x0 x1 x2 x3 x4 hXl
      go_wp2_with fail
      go_loopw [10] (fun i wr => ∃ (k : Nat) (a : Option Addr) (c : Nat), k ≤ 255 ∧ i = .int .i64 k ∧ Hid (StA w n k a c wr)) (fun i _ => 255 - (intOf i).toNat)
      case atStart => exact ⟨0, _, _, by omega, rfl, HD⟩
      case round =>
        clear HD
        obtain ⟨k, a, c, hk, rfl, HR⟩ := hrel
        by_cases hk1 : k < 255
        · have hkI : (k : Int) < 255 := by omega
          have hkd : decide (k < 255) = true := decide_eq_true hk1
          go_wp2_with fail
          obtain ⟨x0, x1, x2, x3, x4, hXl⟩ := gr_cells HR.out.bl
          obtain ⟨y0, y1, y2, y3, y4, hYl⟩ := edge_cells HR.out.b4
          have hdr : New wr wr.drew := (New.refl wr).drew
          have HSn : ∀ V, New wr V → (fun w' : World => w'.cell? ⟨w.heap.size, 2, none⟩ = some (.slice (some ⟨n + 1 + 1 + 1 + 1, 0, none⟩) 1 1) ∧ w'.cell? ⟨n + 1 + 1 + 1 + 1, 4, none⟩ = some (.slice a (k + 1) c) ∧ w.heap.size < w'.heap.size ∧ n + 1 + 1 + 1 + 1 < w'.heap.size) V := fun V kv => ⟨kv.cell x2, kv.cell y4, Nat.lt_of_lt_of_le hXl kv.size, Nat.lt_of_lt_of_le hYl kv.size⟩
          have hS0 := HSn _ hdr
          obtain ⟨XS, hXS⟩ : ∃ XS, XS = Is (7 :: List.replicate k 1) := ⟨_, rfl⟩
          have HXS := Lib.hid hXS
          clear x0 x1 x2 x3 x4 hXl y0 y1 y2 y3 y4 hYl hXS
          refine wp_region_X (fun w' : World => w'.cell? ⟨w.heap.size, 2, none⟩ = some (.slice (some ⟨n + 1 + 1 + 1 + 1, 0, none⟩) 1 1) ∧ w'.cell? ⟨n + 1 + 1 + 1 + 1, 4, none⟩ = some (.slice a (k + 1) c) ∧ w.heap.size < w'.heap.size ∧ n + 1 + 1 + 1 + 1 < w'.heap.size) [11] (by kernel_rfl) hS0 ?_
          generalize wr.drew = wd at hdr hS0 ⊢
          refine anyX_take 0 (by kernel_rfl) (by kernel_rfl) (by kernel_rfl) (by kernel_rfl) (by kernel_rfl) hS0 ?_
          intro oi ho; simp only [List.getElem?_toArray, List.getElem?_cons_succ, List.getElem?_cons_zero, Option.some.injEq] at ho; subst ho
          refine ⟨?_, fun _ _ _ h => h, Or.inl ⟨by rfl, ?_⟩, ?_⟩; rotate_left 1
          · (intro wS hSw; (try dsimp only at hSw); go_simp; try with_reducible rfl)
          simp only [Act.put, List.setIfInBounds_toArray, List.set_cons_zero, List.set_cons_succ]
          refine anyX_take 1 (by kernel_rfl) (by kernel_rfl) (by kernel_rfl) (by kernel_rfl) (by kernel_rfl) hS0 ?_
          intro oi ho; simp only [List.getElem?_toArray, List.getElem?_cons_succ, List.getElem?_cons_zero, Option.some.injEq] at ho; subst ho
          refine ⟨?_, fun _ _ _ h => h, Or.inl ⟨by rfl, ?_⟩, ?_⟩; rotate_left 1
          · (intro wS hSw; (try dsimp only at hSw); go_simp; try with_reducible rfl)
          simp only [Act.put, List.setIfInBounds_toArray, List.set_cons_zero, List.set_cons_succ]
          refine anyX_take 2 (by kernel_rfl) (by kernel_rfl) (by kernel_rfl) (by kernel_rfl) (by kernel_rfl) hS0 ?_
          intro oi ho; simp only [List.getElem?_toArray, List.getElem?_cons_succ, List.getElem?_cons_zero, Option.some.injEq] at ho; subst ho
          refine ⟨?_, fun _ _ _ h => h, Or.inl ⟨by rfl, ?_⟩, ?_⟩; rotate_left 1
          · (intro wS hSw; (try dsimp only at hSw); go_simp; try with_reducible rfl)
          simp only [Act.put, List.setIfInBounds_toArray, List.set_cons_zero, List.set_cons_succ]
          refine anyX_take 3 (by kernel_rfl) (by kernel_rfl) (by kernel_rfl) (by kernel_rfl) (by kernel_rfl) hS0 ?_
          intro oi ho; simp only [List.getElem?_toArray, List.getElem?_cons_succ, List.getElem?_cons_zero, Option.some.injEq] at ho; subst ho
          refine ⟨?_, fun _ _ _ h => h, Or.inl ⟨by rfl, ?_⟩, ?_⟩; rotate_left 1
          · (intro wS hSw; (try dsimp only at hSw); go_simp; try with_reducible rfl)
          simp only [Act.put, List.setIfInBounds_toArray, List.set_cons_zero, List.set_cons_succ]
          refine anyX_take 4 (by kernel_rfl) (by kernel_rfl) (by kernel_rfl) (by kernel_rfl) (by kernel_rfl) hS0 ?_
          intro oi ho; simp only [List.getElem?_toArray, List.getElem?_cons_succ, List.getElem?_cons_zero, Option.some.injEq] at ho; subst ho
          refine ⟨?_, fun _ _ _ h => h, Or.inl ⟨by rfl, ?_⟩, ?_⟩; rotate_left 1
          · (intro wS hSw; (try dsimp only at hSw); go_simp; try with_reducible rfl)
          simp only [Act.put, List.setIfInBounds_toArray, List.set_cons_zero, List.set_cons_succ]
          refine anyX_take 5 (by kernel_rfl) (by kernel_rfl) (by kernel_rfl) (by kernel_rfl) (by kernel_rfl) hS0 ?_
          intro oi ho; simp only [List.getElem?_toArray, List.getElem?_cons_succ, List.getElem?_cons_zero, Option.some.injEq] at ho; subst ho
          refine ⟨?_, fun _ _ _ h => h, Or.inl ⟨by rfl, ?_⟩, ?_⟩; rotate_left 1
          · (intro wS hSw; (try dsimp only at hSw); go_simp; try with_reducible rfl)
          simp only [Act.put, List.setIfInBounds_toArray, List.set_cons_zero, List.set_cons_succ]
          refine anyX_take 6 (by kernel_rfl) (by kernel_rfl) (by kernel_rfl) (by kernel_rfl) (by kernel_rfl) hS0 ?_
          intro oi ho; simp only [List.getElem?_toArray, List.getElem?_cons_succ, List.getElem?_cons_zero, Option.some.injEq] at ho; subst ho
          refine ⟨?_, fun _ _ _ h => h, Or.inl ⟨by rfl, ?_⟩, ?_⟩; rotate_left 1
          · (intro wS hSw; (try dsimp only at hSw); go_simp; try with_reducible rfl)
          simp only [Act.put, List.setIfInBounds_toArray, List.set_cons_zero, List.set_cons_succ]
          refine anyX_one 7 (by kernel_rfl) ?_
          intro oi ho; simp only [List.getElem?_toArray, List.getElem?_cons_succ, List.getElem?_cons_zero, Option.some.injEq] at ho; subst ho; intro K hK
          (try simp only [Act.put, List.setIfInBounds_toArray, List.set_cons_zero, List.set_cons_succ])
          go_simp
          have kl : New wd (wd.alloc (.cells #[I 1] 3)) := (New.refl wd).alloc _
          have hlit : SlAt (wd.alloc (.cells #[I 1] 3)) (some ⟨wd.heap.size, 0, none⟩) (Is [1]) := SlAt.lit wd _ _
          have kz := hdr.trans kl
          refine hK _ _ (fun _ => HSn _ kz) ?_
          clear hK K
          generalize (wd.alloc (.cells #[I 1] 3)) = VZ at kl hlit kz ⊢
          generalize wd.heap.size = Z at hlit ⊢
          refine anyX_one 8 (by kernel_rfl) ?_
          intro oi ho; simp only [List.getElem?_toArray, List.getElem?_cons_succ, List.getElem?_cons_zero, Option.some.injEq] at ho; subst ho; intro K hK
          have hoz := (HR.out.new kz).so
          rw [← HXS.out] at hoz
          have hbz : w.heap.size + 1 ≤ VZ.heap.size := (Array.getElem?_eq_some_iff.1 (HR.out.new kz).bl).1
          refine step_app rfl _ _ 41 rfl (w.heap.size + 1) 3 it3 _ 1 8 Try.underlying41 hit3 hz0 hz1 hz2 rfl (by decide) a (k + 1) c XS rfl hoz (some ⟨Z, 0, none⟩) 1 1 (Is [1]) rfl rfl hlit (oneCell_is _) (by unfold maxLen; omega) (by omega) hbz ?_
          intro a' c' wq hown' hk' hmv
          obtain ⟨⟨hv0, hfz, hPl2, hbq⟩, hDn⟩ := HR.out.add kz (by rw [← HXS.out]; exact hown') hk' hmv
          have HDn := Lib.hid hDn
          obtain ⟨z0, z1, z2, z3, z4, hZl⟩ := gr_cells hbq
          have hS9 : (fun w' : World => w'.cell? ⟨w.heap.size, 2, none⟩ = some (.slice (some ⟨n + 1 + 1 + 1 + 1, 0, none⟩) 1 1) ∧ w'.cell? ⟨n + 1 + 1 + 1 + 1, 4, none⟩ = some (.slice a (k + 1) c) ∧ w.heap.size < w'.heap.size ∧ n + 1 + 1 + 1 + 1 < w'.heap.size) wq := ⟨z2, hv0, hZl, hPl2⟩
          refine hK _ _ (fun _ => hS9) ?_
          clear hK K hDn hown' hk' hmv hoz hbz hlit kl z0 z1 z2 z3 z4 hZl hbq
          refine anyX_take 9 (by kernel_rfl) (by kernel_rfl) (by kernel_rfl) (by kernel_rfl) (by kernel_rfl) hS9 ?_
          intro oi ho; simp only [List.getElem?_toArray, List.getElem?_cons_succ, List.getElem?_cons_zero, Option.some.injEq] at ho; subst ho
          refine ⟨?_, fun _ _ _ h => h, Or.inl ⟨by rfl, ?_⟩, ?_⟩; rotate_left 1
          · (intro wS hSw; (try dsimp only at hSw); go_simp; try with_reducible rfl)
          simp only [Act.put, List.setIfInBounds_toArray, List.set_cons_zero, List.set_cons_succ]
          refine anyX_take 10 (by kernel_rfl) (by kernel_rfl) (by kernel_rfl) (by kernel_rfl) (by kernel_rfl) hS9 ?_
          intro oi ho; simp only [List.getElem?_toArray, List.getElem?_cons_succ, List.getElem?_cons_zero, Option.some.injEq] at ho; subst ho
          refine ⟨?_, fun _ _ _ h => h, Or.inl ⟨by rfl, ?_⟩, ?_⟩; rotate_left 1
          · (intro wS hSw; (try dsimp only at hSw); go_simp; try with_reducible rfl)
          simp only [Act.put, List.setIfInBounds_toArray, List.set_cons_zero, List.set_cons_succ]
          refine anyX_one 11 (by kernel_rfl) ?_
          intro oi ho; simp only [List.getElem?_toArray, List.getElem?_cons_succ, List.getElem?_cons_zero, Option.some.injEq] at ho; subst ho; intro K hK
          (try simp only [Act.put, List.setIfInBounds_toArray, List.set_cons_zero, List.set_cons_succ])
          go_simp
          refine hK _ _ (fun hx => by cases hx) ?_
          clear hK K
          refine anyX_done (by kernel_rfl) ?_
          (try simp only [Act.put, List.setIfInBounds_toArray, List.set_cons_zero, List.set_cons_succ])
          (try simp only [Exit.then])
          clear hS0 hS9 HSn HXS HR
          go_wp2_with fail
          go_roundw
          case rel => exact ⟨k + 1, a', c', by omega, by go_num, HDn⟩
          case measure => simp [intOf]; omega
        · obtain rfl : k = 255 := by omega
          have hkI : (255 : Int) ≤ ((255 : Nat) : Int) := by omega
          clear hk hk1
          obtain ⟨x0, x1, x2, x3, x4, hXl⟩ := gr_cells HR.out.bl
          have hc := ccheck_any wr _ (HR.out.at) (smX_len _ _ _ _ _ _ (by decide) (by simp))
          rw [smX_find3] at hc
          have hc2 : Calls Try.prog 12 #[.agg #[.string ⟨#[103]⟩, .slice (some ⟨n + 1 + 1, 0, none⟩) 2 2, .slice (some ⟨n + 1 + 1 + 1 + 1, 0, none⟩) 1 1, .slice (some ⟨n + 1 + 1 + 1 + 1 + 1, 0, none⟩) 1 1, .slice (some ⟨n + 1 + 1 + 1 + 1 + 1 + 1, 0, none⟩) 1 1]] wr fun e w' => e = .returned (I 0) ∧ New wr w' := hc
          clear hc
          go_wp2_with fail
          refine hc2.mono ?_
          rintro e t1 ⟨rfl, n9⟩
          clear hc2 x0 x1 x2 x3 x4 hXl
          replace HR := Lib.hid (HR.out.new n9)
          clear n9
          obtain ⟨wr, rfl⟩ : ∃ z, z = t1 := ⟨_, rfl⟩
          go_wp2_with fail
          obtain ⟨x0, x1, x2, x3, x4, hXl⟩ := gr_cells HR.out.bl
          obtain ⟨y0, y1, y2, y3, y4, hYl⟩ := edge_cells HR.out.b4
          have hdr : New wr wr.drew := (New.refl wr).drew
          have HSn : ∀ V, New wr V → (fun w' : World => w'.cell? ⟨w.heap.size, 2, none⟩ = some (.slice (some ⟨n + 1 + 1 + 1 + 1, 0, none⟩) 1 1) ∧ w'.cell? ⟨n + 1 + 1 + 1 + 1, 4, none⟩ = some (.slice a (255 + 1) c) ∧ w.heap.size < w'.heap.size ∧ n + 1 + 1 + 1 + 1 < w'.heap.size) V := fun V kv => ⟨kv.cell x2, kv.cell y4, Nat.lt_of_lt_of_le hXl kv.size, Nat.lt_of_lt_of_le hYl kv.size⟩
          have hS0 := HSn _ hdr
          obtain ⟨XS, hXS⟩ : ∃ XS, XS = Is (7 :: List.replicate 255 1) := ⟨_, rfl⟩
          have HXS := Lib.hid hXS
          clear x0 x1 x2 x3 x4 hXl y0 y1 y2 y3 y4 hYl hXS
          refine wp_region_X (fun w' : World => w'.cell? ⟨w.heap.size, 2, none⟩ = some (.slice (some ⟨n + 1 + 1 + 1 + 1, 0, none⟩) 1 1) ∧ w'.cell? ⟨n + 1 + 1 + 1 + 1, 4, none⟩ = some (.slice a (255 + 1) c) ∧ w.heap.size < w'.heap.size ∧ n + 1 + 1 + 1 + 1 < w'.heap.size) [11] (by kernel_rfl) hS0 ?_
          generalize wr.drew = wd at hdr hS0 ⊢
          refine anyX_take 0 (by kernel_rfl) (by kernel_rfl) (by kernel_rfl) (by kernel_rfl) (by kernel_rfl) hS0 ?_
          intro oi ho; simp only [List.getElem?_toArray, List.getElem?_cons_succ, List.getElem?_cons_zero, Option.some.injEq] at ho; subst ho
          refine ⟨?_, fun _ _ _ h => h, Or.inl ⟨by rfl, ?_⟩, ?_⟩; rotate_left 1
          · (intro wS hSw; (try dsimp only at hSw); go_simp; try with_reducible rfl)
          simp only [Act.put, List.setIfInBounds_toArray, List.set_cons_zero, List.set_cons_succ]
          refine anyX_take 1 (by kernel_rfl) (by kernel_rfl) (by kernel_rfl) (by kernel_rfl) (by kernel_rfl) hS0 ?_
          intro oi ho; simp only [List.getElem?_toArray, List.getElem?_cons_succ, List.getElem?_cons_zero, Option.some.injEq] at ho; subst ho
          refine ⟨?_, fun _ _ _ h => h, Or.inl ⟨by rfl, ?_⟩, ?_⟩; rotate_left 1
          · (intro wS hSw; (try dsimp only at hSw); go_simp; try with_reducible rfl)
          simp only [Act.put, List.setIfInBounds_toArray, List.set_cons_zero, List.set_cons_succ]
          refine anyX_take 2 (by kernel_rfl) (by kernel_rfl) (by kernel_rfl) (by kernel_rfl) (by kernel_rfl) hS0 ?_
          intro oi ho; simp only [List.getElem?_toArray, List.getElem?_cons_succ, List.getElem?_cons_zero, Option.some.injEq] at ho; subst ho
          refine ⟨?_, fun _ _ _ h => h, Or.inl ⟨by rfl, ?_⟩, ?_⟩; rotate_left 1
          · (intro wS hSw; (try dsimp only at hSw); go_simp; try with_reducible rfl)
          simp only [Act.put, List.setIfInBounds_toArray, List.set_cons_zero, List.set_cons_succ]
          refine anyX_take 3 (by kernel_rfl) (by kernel_rfl) (by kernel_rfl) (by kernel_rfl) (by kernel_rfl) hS0 ?_
          intro oi ho; simp only [List.getElem?_toArray, List.getElem?_cons_succ, List.getElem?_cons_zero, Option.some.injEq] at ho; subst ho
          refine ⟨?_, fun _ _ _ h => h, Or.inl ⟨by rfl, ?_⟩, ?_⟩; rotate_left 1
          · (intro wS hSw; (try dsimp only at hSw); go_simp; try with_reducible rfl)
          simp only [Act.put, List.setIfInBounds_toArray, List.set_cons_zero, List.set_cons_succ]
          refine anyX_take 4 (by kernel_rfl) (by kernel_rfl) (by kernel_rfl) (by kernel_rfl) (by kernel_rfl) hS0 ?_
          intro oi ho; simp only [List.getElem?_toArray, List.getElem?_cons_succ, List.getElem?_cons_zero, Option.some.injEq] at ho; subst ho
          refine ⟨?_, fun _ _ _ h => h, Or.inl ⟨by rfl, ?_⟩, ?_⟩; rotate_left 1
          · (intro wS hSw; (try dsimp only at hSw); go_simp; try with_reducible rfl)
          simp only [Act.put, List.setIfInBounds_toArray, List.set_cons_zero, List.set_cons_succ]
          refine anyX_take 5 (by kernel_rfl) (by kernel_rfl) (by kernel_rfl) (by kernel_rfl) (by kernel_rfl) hS0 ?_
          intro oi ho; simp only [List.getElem?_toArray, List.getElem?_cons_succ, List.getElem?_cons_zero, Option.some.injEq] at ho; subst ho
          refine ⟨?_, fun _ _ _ h => h, Or.inl ⟨by rfl, ?_⟩, ?_⟩; rotate_left 1
          · (intro wS hSw; (try dsimp only at hSw); go_simp; try with_reducible rfl)
          simp only [Act.put, List.setIfInBounds_toArray, List.set_cons_zero, List.set_cons_succ]
          refine anyX_take 6 (by kernel_rfl) (by kernel_rfl) (by kernel_rfl) (by kernel_rfl) (by kernel_rfl) hS0 ?_
          intro oi ho; simp only [List.getElem?_toArray, List.getElem?_cons_succ, List.getElem?_cons_zero, Option.some.injEq] at ho; subst ho
          refine ⟨?_, fun _ _ _ h => h, Or.inl ⟨by rfl, ?_⟩, ?_⟩; rotate_left 1
          · (intro wS hSw; (try dsimp only at hSw); go_simp; try with_reducible rfl)
          simp only [Act.put, List.setIfInBounds_toArray, List.set_cons_zero, List.set_cons_succ]
          refine anyX_one 7 (by kernel_rfl) ?_
          intro oi ho; simp only [List.getElem?_toArray, List.getElem?_cons_succ, List.getElem?_cons_zero, Option.some.injEq] at ho; subst ho; intro K hK
          (try simp only [Act.put, List.setIfInBounds_toArray, List.set_cons_zero, List.set_cons_succ])
          go_simp
          have kl : New wd (wd.alloc (.cells #[I 1] 3)) := (New.refl wd).alloc _
          have hlit : SlAt (wd.alloc (.cells #[I 1] 3)) (some ⟨wd.heap.size, 0, none⟩) (Is [1]) := SlAt.lit wd _ _
          have kz := hdr.trans kl
          refine hK _ _ (fun _ => HSn _ kz) ?_
          clear hK K
          generalize (wd.alloc (.cells #[I 1] 3)) = VZ at kl hlit kz ⊢
          generalize wd.heap.size = Z at hlit ⊢
          refine anyX_one 8 (by kernel_rfl) ?_
          intro oi ho; simp only [List.getElem?_toArray, List.getElem?_cons_succ, List.getElem?_cons_zero, Option.some.injEq] at ho; subst ho; intro K hK
          have hoz := (HR.out.new kz).so
          rw [← HXS.out] at hoz
          have hbz : w.heap.size + 1 ≤ VZ.heap.size := (Array.getElem?_eq_some_iff.1 (HR.out.new kz).bl).1
          refine step_app rfl _ _ 41 rfl (w.heap.size + 1) 3 it3 _ 1 8 Try.underlying41 hit3 hz0 hz1 hz2 rfl (by decide) a (255 + 1) c XS rfl hoz (some ⟨Z, 0, none⟩) 1 1 (Is [1]) rfl rfl hlit (oneCell_is _) (by unfold maxLen; omega) (by omega) hbz ?_
          intro a' c' wq hown' hk' hmv
          obtain ⟨⟨hv0, hfz, hPl2, hbq⟩, hDn⟩ := HR.out.add kz (by rw [← HXS.out]; exact hown') hk' hmv
          have HDn := Lib.hid hDn
          obtain ⟨z0, z1, z2, z3, z4, hZl⟩ := gr_cells hbq
          have hS9 : (fun w' : World => w'.cell? ⟨w.heap.size, 2, none⟩ = some (.slice (some ⟨n + 1 + 1 + 1 + 1, 0, none⟩) 1 1) ∧ w'.cell? ⟨n + 1 + 1 + 1 + 1, 4, none⟩ = some (.slice a (255 + 1) c) ∧ w.heap.size < w'.heap.size ∧ n + 1 + 1 + 1 + 1 < w'.heap.size) wq := ⟨z2, hv0, hZl, hPl2⟩
          refine hK _ _ (fun _ => hS9) ?_
          clear hK K hDn hown' hk' hmv hoz hbz hlit kl z0 z1 z2 z3 z4 hZl hbq
          refine anyX_take 9 (by kernel_rfl) (by kernel_rfl) (by kernel_rfl) (by kernel_rfl) (by kernel_rfl) hS9 ?_
          intro oi ho; simp only [List.getElem?_toArray, List.getElem?_cons_succ, List.getElem?_cons_zero, Option.some.injEq] at ho; subst ho
          refine ⟨?_, fun _ _ _ h => h, Or.inl ⟨by rfl, ?_⟩, ?_⟩; rotate_left 1
          · (intro wS hSw; (try dsimp only at hSw); go_simp; try with_reducible rfl)
          simp only [Act.put, List.setIfInBounds_toArray, List.set_cons_zero, List.set_cons_succ]
          refine anyX_take 10 (by kernel_rfl) (by kernel_rfl) (by kernel_rfl) (by kernel_rfl) (by kernel_rfl) hS9 ?_
          intro oi ho; simp only [List.getElem?_toArray, List.getElem?_cons_succ, List.getElem?_cons_zero, Option.some.injEq] at ho; subst ho
          refine ⟨?_, fun _ _ _ h => h, Or.inl ⟨by rfl, ?_⟩, ?_⟩; rotate_left 1
          · (intro wS hSw; (try dsimp only at hSw); go_simp; try with_reducible rfl)
          simp only [Act.put, List.setIfInBounds_toArray, List.set_cons_zero, List.set_cons_succ]
          refine anyX_one 11 (by kernel_rfl) ?_
          intro oi ho; simp only [List.getElem?_toArray, List.getElem?_cons_succ, List.getElem?_cons_zero, Option.some.injEq] at ho; subst ho; intro K hK
          (try simp only [Act.put, List.setIfInBounds_toArray, List.set_cons_zero, List.set_cons_succ])
          go_simp
          refine hK _ _ (fun hx => by cases hx) ?_
          clear hK K
          refine anyX_done (by kernel_rfl) ?_
          (try simp only [Act.put, List.setIfInBounds_toArray, List.set_cons_zero, List.set_cons_succ])
          (try simp only [Exit.then])
          clear hS0 hS9 HSn HXS HR
          obtain ⟨x0, x1, x2, x3, x4, hXl⟩ := gr_cells HDn.out.bl
          have hc := fun W (m : New _ W) => ccheck_any W _ ((HDn.out.new m).at) (smX_len _ _ _ _ _ _ (by decide) (by simp))
          have hc2 : ∀ W, New _ W → Calls Try.prog 12 #[.agg #[.string ⟨#[103]⟩, .slice (some ⟨n + 1 + 1, 0, none⟩) 2 2, .slice (some ⟨n + 1 + 1 + 1 + 1, 0, none⟩) 1 1, .slice (some ⟨n + 1 + 1 + 1 + 1 + 1, 0, none⟩) 1 1, .slice (some ⟨n + 1 + 1 + 1 + 1 + 1 + 1, 0, none⟩) 1 1]] W fun e w' => e = .returned (I 88) ∧ New W w' := fun W m => by
            have h := hc W m
            rw [smX_find4] at h
            exact h
          clear hc
          go_wp2_with fail
          refine (hc2 _ (New.refl _)).mono ?_
          rintro e t2 ⟨rfl, n9⟩
          have hN := HDn.out.nw.trans n9
          clear hc2 x0 x1 x2 x3 x4 hXl n9 HDn
          go_wp2_with fail
          refine (awake_any t2).mono ?_
          rintro e t3 ⟨rfl, n9⟩
          go_wp2_with fail
          go_ret
          exact ⟨rfl, hN.trans n9⟩
set_option maxRecDepth 100000 in
theorem lifted (os : Os) (started : os.Started) (H : Type) (enc : TypeId × Value → H) :
    ReturnsInHanded {} Try.checked os 8 .any (Rows.graphNamesSpec.pre6 enc Try.prog Try.f8 Rows.graphNamesRow.domain false) (Rows.graphNamesSpec.post enc Try.prog Try.f8 false true false false) := by
  refine returnsInHanded_of_change (C := Try.checked) own started (by kernel_rfl) Try.func8
    (ChangeSpec.witness6 (enc := enc) (C := Try.checked) false ⟨#[], #[], []⟩ 8 (by kernel_rfl) (by kernel_rfl) (by kernel_rfl) (by kernel_rfl)) ?_
  intro W base args ds gs before hval0 hW hcnd _
  have hval : ∀ (j : Nat) t v, Try.f8.params[j]? = some t → args[j]? = some v → Value.okWide Try.prog W .any base t v := hval0
  have hW' := hW
  obtain ⟨p, q, hA0, hV, rfl, hfz, hnd⟩ := hW
  have hA : DataW.TrodAll enc Try.prog W 0 (fun _ => true) true Try.f8.params.toList args.toList ds p := hA0
  rw [Try.params8] at hA hval
  obtain ⟨hargs, rfl, rfl⟩ := trodAll_nil hA
  obtain rfl : args = #[] := by cases args; simp_all
  obtain ⟨rfl, rfl⟩ := trodVars_none hV
  clear hA0 hval0
  refine (walk  W).mono fun e W' ⟨he, hnew⟩ => ?_
  have bel := hnew.below
  subst he
  exact ⟨_, rfl, _, _, _, [], _, [], hW', trodAll_mk1 (shut_bool Try.underlying4 _), trodAll_mk0, rfl, bel.frame _, fun h => by cases h⟩

theorem over : Rows.graphNamesRow.holds Try.pinned (OpenSpec.ofChange Rows.graphNamesSpec) :=
  OpenClaim.holds_of_wide 8 Try.f8 rfl rfl rfl rfl rfl rfl rfl ⟨rfl, rfl, rfl, rfl, rfl⟩ rfl rfl rfl rfl rfl (by kernel_rfl) Try.func8 (by kernel_rfl)
    (of_decide_eq_true (by kernel_rfl)) (by unfold Func.isWrapper; first | (rw [if_pos (by decide +kernel)]; kernel_rfl) | (rw [if_neg (by decide +kernel)]; exact ⟨rfl, rfl⟩))
    (fun os started H enc _ => lifted os started H enc)

/-- THE STATEMENT. -/
theorem proved : Rows.GraphNamesSaid := over
end Go.Proofs.Ytpljnapglbmdlaa.graphNames
