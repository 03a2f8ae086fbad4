/-
  SkJ, SkK, SkR, SkV, SkX, SkY, SkL, SkM: what is wanted of them.
-/
import Derived.Test.YtnedmonlofbahaaGreatDoorSwC
namespace Go.Proofs.YtnedmonlofbahaaGreatDoor
open Go Go.RowKit Go.Joins
set_option linter.all false

structure SBnd (s : Sk) : Prop where
  n : s.name.size ≤ 9223372036854775807
  i : s.items.length ≤ 9223372036854775807
  sz : ∀ x ∈ s.items, ISz x
  bd : ∀ x ∈ s.items, IBnd x
theorem all_take {l : List SIt} {k : Nat} (h : (l.take k).all rightB = true) (hk : k < l.length) (hr : rightB l[k] = true) : (l.take (k + 1)).all rightB = true := by
  rw [List.take_succ_eq_append_getElem hk, List.all_append, h]
  simp [hr]
theorem all_not {l : List SIt} {k : Nat} (hk : k < l.length) (hr : rightB l[k] = false) : l.all rightB = false := by
  cases h : l.all rightB with
  | false => rfl
  | true => exact absurd (List.all_eq_true.1 h _ (List.getElem_mem hk)) (by rw [hr]; decide)
def headS (s : Sk) : List UInt8 := [103, 114, 97, 112, 104, 32] ++ s.name.data.toList ++ [32, 123, 10]
theorem printW_eq (s : Sk) : printW s = headS s ++ s.items.flatMap lineW ++ [125, 10] := rfl
theorem line_pre (l : List SIt) (k : Nat) : (l.take k).flatMap lineW <+: l.flatMap lineW := by
  conv => rhs; rw [← List.take_append_drop k l]
  rw [List.flatMap_append]
  exact List.prefix_append _ _
theorem line_succ (l : List SIt) (k : Nat) (h : k < l.length) : (l.take (k + 1)).flatMap lineW = (l.take k).flatMap lineW ++ lineW l[k] := by
  rw [List.take_succ_eq_append_getElem h, List.flatMap_append]
  simp
def Far (s : Sk) (k : Nat) (L : List UInt8) : Prop := (L = headS s ++ (s.items.take k).flatMap lineW ∨ 1048576 < L.length) ∧ L <+: headS s ++ (s.items.take k).flatMap lineW ∧ L.length ≤ 1048800
theorem Far.big {s : Sk} {k : Nat} {L : List UInt8} (h : Far s k L) (hL : 1048576 < L.length) : 1048576 < (printW s).length := by
  have h1 := h.2.1.length_le
  have h2 := (line_pre s.items k).length_le
  rw [printW_eq]
  simp only [List.length_append] at h1 ⊢
  omega
theorem Far.next {s : Sk} {k : Nat} {L : List UInt8} (h : Far s k L) (hL : ¬ 1048576 < L.length) (hk : k < s.items.length) {l' : List UInt8} (h1 : l' <+: lineW s.items[k]) (h2 : l' = lineW s.items[k] ∨ 1048576 < (L ++ l').length) (h3 : (L ++ l').length ≤ 1048800) : Far s (k + 1) (L ++ l') := by
  have e : L = headS s ++ (s.items.take k).flatMap lineW := by
    rcases h.1 with e | e
    · exact e
    · exact absurd e hL
  rw [Far, line_succ _ _ hk]
  refine ⟨?_, ?_, h3⟩
  · rcases h2 with rfl | h2
    · exact .inl (by rw [e, List.append_assoc])
    · exact .inr h2
  · rw [← List.append_assoc, ← e]
    exact (List.prefix_append_right_inj L).2 h1
theorem Far.done {s : Sk} {L : List UInt8} (h : Far s s.items.length L) : (L ++ [125, 10] = printW s ∨ 1048576 < L.length) := by
  rcases h.1 with e | e
  · left; rw [e, List.take_length]; rfl
  · exact .inr e
set_option maxRecDepth 100000 in
set_option maxHeartbeats 8000000 in
theorem print_any (w : World) (s : Sk) (he : Env w) (h : SkAt w s) (hd : SBnd s) :
    Calls Tryz.prog 41 #[s.v] w fun e w' => e = .returned (.tuple #[.string ⟨(printA s).1.toArray⟩, I (printA s).2]) ∧ New w w' := by
  obtain ⟨name, ia, ic, items⟩ := s
  have nb : New w (w.alloc (.cells #[.string name, .slice ia items.length ic] 52)) := (New.refl w).alloc _
  have hbk : (w.alloc (.cells #[.string name, .slice ia items.length ic] 52)).heap[w.heap.size]? = some (.cells #[.string name, .slice ia items.length ic] 52 (0, 0)) := heap_alloc_new w _
  obtain ⟨c0, c1, -, -, hX⟩ := sk_get hbk
  have hnm := cname_any (w.alloc (.cells #[.string name, .slice ia items.length ic] 52)) name hd.n
  have hil := hd.i
  simp only at hil
  have HBK := Lib.hid hbk
  have HB := Lib.hid nb
  have H := Lib.hid h
  have HD := Lib.hid hd
  obtain ⟨PO, hPO⟩ : ∃ PO : Ending → World → Prop, PO = fun e w' => e = .returned (.tuple #[.string ⟨(printA ⟨name, ia, ic, items⟩).1.toArray⟩, I (printA ⟨name, ia, ic, items⟩).2]) ∧ New w w' := ⟨_, rfl⟩
  have HPO := Lib.hid hPO
  show Calls Tryz.prog 41 #[.agg #[.string name, .slice ia items.length ic]] w _
  rw [← hPO]
  clear hPO h hd nb hbk
  cases hn : nameB name with
  | false =>
    rw [hn] at hnm
    have hpa : printA ⟨name, ia, ic, items⟩ = ([], 1) := by unfold printA; rw [if_pos (by simp [hn])]
    have HPA := Lib.hid hpa
    clear hpa hn
    go_enter Tryz.func41, Tryz.ntmps41
    go_wp2_with fail
    refine hnm.mono ?_
    rintro e w1 ⟨rfl, n1⟩
    go_wp2_with fail
    rw [HPO.out]
    exact ⟨(show Ending.returned (.tuple #[.string ⟨#[]⟩, I 1]) = _ by rw [HPA.out]), HB.out.trans n1⟩
  | true =>
    rw [hn] at hnm
    have hn16 := nameB_size hn
    have HNM := Lib.hid hn
    clear hn
    go_enter Tryz.func41, Tryz.ntmps41
    go_wp2_with fail
    refine hnm.mono ?_
    rintro e w1 ⟨rfl, n1⟩
    have NW := Lib.hid (HB.out.trans n1)
    have hbk := Keeps.heap n1 HBK.out (fun h => h)
    obtain ⟨d0, d1, -, -, hX1⟩ := sk_get hbk
    have HBK1 := Lib.hid hbk
    clear hnm hbk n1 c0 c1 hX HBK
    go_wp2_with fail
    go_loopw [16] (fun i wr => ∃ k : Nat, k ≤ items.length ∧ i = .int .i64 k ∧ Hid (New w1 wr) ∧ Hid ((items.take k).all rightB = true)) (fun i _ => items.length - (intOf i).toNat)
    case atStart => exact ⟨0, by omega, rfl, Lib.hid (New.refl _), Lib.hid (by simp)⟩
    case round =>
      obtain ⟨k, hk, rfl, HN, HR⟩ := hrel
      by_cases hk1 : k < items.length
      · have hkI : (k : Int) < (items.length : Int) := by omega
        have hkd : decide (k < items.length) = true := decide_eq_true hk1
        have hnw := NW.out.trans HN.out
        obtain ⟨bb, off, hab, q0, q1, q2, q3, q4, q5, q6, q7, q8, q9, q10⟩ := items_row (H.out.new hnw).sl hk1
        have hisz := HD.out.sz _ (List.getElem_mem hk1)
        have hibd := (HD.out.bd _ (List.getElem_mem hk1)).ln
        have hat := @all_take items k HR.out hk1
        have han := @all_not items k hk1
        simp only at hab q0 q1 q2 q3 q4 q5 q6 q7 q8 q9 q10
        subst hab
        generalize items[k] = y at q0 q1 q2 q3 q4 q5 q6 q7 q8 q9 q10 hisz hibd hat han
        obtain ⟨kd, nm, tg, sa, sc, xs, fn, fp, fa, tn, tp, ta, at_⟩ := y
        simp only at q0 q1 q2 q3 q4 q5 q6 q7 q8 q9 q10 hibd
        have hbw := World.block_lt_of_cell? wr _ q0
        have nX : New wr (wr.alloc (.cells #[.int .u8 kd, .string nm, .string tg, .slice sa xs.length sc, .string fn, I fp, I fa, .string tn, I tp, I ta, I at_] ItT)) := (New.refl _).alloc _
        obtain ⟨⟨x0, x1, x2, x3, x4, x5, x6, x7, x8, x9, x10⟩, -, hXX⟩ := it_get (heap_alloc_new wr (.cells #[.int .u8 kd, .string nm, .string tg, .slice sa xs.length sc, .string fn, I fp, I fa, .string tn, I tp, I ta, I at_] ItT))
        have hri := right_any_sk (wr.alloc (.cells #[.int .u8 kd, .string nm, .string tg, .slice sa xs.length sc, .string fn, I fp, I fa, .string tn, I tp, I ta, I at_] ItT)) (⟨kd, nm, tg, sa, sc, xs, fn, fp, fa, tn, tp, ta, at_⟩ : SIt) hisz hibd
        have HAT := Lib.hid hat
        have HAN := Lib.hid han
        obtain ⟨rb, hrb⟩ : ∃ r, rightB (⟨kd, nm, tg, sa, sc, xs, fn, fp, fa, tn, tp, ta, at_⟩ : SIt) = r := ⟨_, rfl⟩
        rw [hrb] at hri
        have HRB := Lib.hid hrb
        have NX := Lib.hid nX
        clear hisz hat han hrb nX
        cases rb with
        | false =>
          have hpa : printA ⟨name, some ⟨bb, off, none⟩, ic, items⟩ = ([], 1) := by unfold printA; rw [if_pos (by simp only [HAN.out HRB.out, Bool.and_false])]
          have HPA := Lib.hid hpa
          clear hpa
          go_wp2_with fail
          refine hri.mono ?_
          rintro e w2 ⟨rfl, n2⟩
          go_wp2_with fail
          rw [HPO.out]
          exact ⟨(show Ending.returned (.tuple #[.string ⟨#[]⟩, I 1]) = _ by rw [HPA.out]), (hnw.trans NX.out).trans n2⟩
        | true =>
          go_wp2_with fail
          refine hri.mono ?_
          rintro e w2 ⟨rfl, n2⟩
          have HN2 := Lib.hid ((HN.out.trans NX.out).trans n2)
          clear hri n2 hnw
          go_wp2_with fail
          go_roundw
          case rel => exact ⟨k + 1, by omega, by go_num, HN2, Lib.hid (HAT.out HRB.out)⟩
          case measure => simp [intOf]; omega
      · have hke : k = items.length := by omega
        have hkd : decide (k < items.length) = false := decide_eq_false hk1
        have hk9 : ¬ (k : Int) < (items.length : Int) := by omega
        have HALL : Hid (items.all rightB = true) := Lib.hid (by have h1 := HR.out; rw [hke, List.take_length] at h1; exact h1)
        clear hke
        obtain ⟨wo, hwo⟩ : ∃ wo : World, wo = wr := ⟨_, rfl⟩
        rw [← hwo] at HN ⊢
        clear hwo HR hk hk1
        have hnwo := NW.out.trans HN.out
        have heo := Lib.hid (he.new hnwo)
        have hbk := Keeps.heap HN.out HBK1.out (fun h => h)
        have nB : New wo (wo.alloc (.cells #[.pointer none, .slice none 0 0] 140)) := (New.refl _).alloc _
        have hbk2 := Keeps.heap nB hbk (fun h => h)
        obtain ⟨e0, e1, -, -, hX2⟩ := sk_get hbk2
        have HBK2 := Lib.hid hbk2
        have hbd := Bd.start wo
        obtain ⟨S1, hS1⟩ : ∃ X, (⟨#[103, 114, 97, 112, 104, 32]⟩ : ByteArray) ++ name = X := ⟨_, rfl⟩
        have hzS1 : S1.size ≤ 22 := by
          have h1 : ((⟨#[103, 114, 97, 112, 104, 32]⟩ : ByteArray)).size ≤ 6 := (by decide)
          have h2 : (name).size ≤ 16 := hn16
          rw [← hS1, ByteArray.size_append]; omega
        have lS1 : S1.data.toList = ((⟨#[103, 114, 97, 112, 104, 32]⟩ : ByteArray)).data.toList ++ (name).data.toList := by rw [← hS1, ByteArray.data_append, Array.toList_append]
        have addS1 : ∀ w : World, (Op.stringOp .add ((⟨#[103, 114, 97, 112, 104, 32]⟩ : ByteArray)) (name)).run Tryz.prog w = .ok (.string S1) w := fun w => by
          have h1 : ((⟨#[103, 114, 97, 112, 104, 32]⟩ : ByteArray)).size ≤ 6 := (by decide)
          have h2 : (name).size ≤ 16 := hn16
          rw [← hS1]; exact run_string_add_sum w _ _ (by omega)
        clear hS1
        obtain ⟨S2, hS2⟩ : ∃ X, S1 ++ (⟨#[32, 123, 10]⟩ : ByteArray) = X := ⟨_, rfl⟩
        have hzS2 : S2.size ≤ 25 := by
          have h1 : (S1).size ≤ 22 := hzS1
          have h2 : ((⟨#[32, 123, 10]⟩ : ByteArray)).size ≤ 3 := (by decide)
          rw [← hS2, ByteArray.size_append]; omega
        have lS2 : S2.data.toList = (S1).data.toList ++ ((⟨#[32, 123, 10]⟩ : ByteArray)).data.toList := by rw [← hS2, ByteArray.data_append, Array.toList_append]
        have addS2 : ∀ w : World, (Op.stringOp .add (S1) ((⟨#[32, 123, 10]⟩ : ByteArray))).run Tryz.prog w = .ok (.string S2) w := fun w => by
          have h1 : (S1).size ≤ 22 := hzS1
          have h2 : ((⟨#[32, 123, 10]⟩ : ByteArray)).size ≤ 3 := (by decide)
          rw [← hS2]; exact run_string_add_sum w _ _ (by omega)
        clear hS2
        have hwo2 : wo.heap.size ≤ (wo.alloc (.cells #[.pointer none, .slice none 0 0] 140)).heap.size := nB.size
        have hw := wstr_any _ wo.heap.size wo.heap.size [] S2 hbd (by simp only [List.length_nil]; omega) hwo2
        have HSL : Hid ([] ++ S2.data.toList = headS ⟨name, ia, ic, items⟩) := Lib.hid (by rw [lS2, lS1]; rfl)
        have HSZ := Lib.hid hzS2
        have NB := Lib.hid nB
        have NWO := Lib.hid hnwo
        clear hbk hbk2 hbd nB d0 d1 hX1 HBK1 hzS1 hzS2 lS1 lS2 hnwo
        go_wp2_with fail
        refine hw.mono ?_
        rintro e w2 ⟨rfl, b2, k2⟩
        clear hkd hk9
        have hbk2 := k2.heap HBK2.out rfl
        obtain ⟨f0, f1, -, -, hX3⟩ := sk_get hbk2
        have HBB := Lib.hid b2
        have HKK := Lib.hid k2
        have HFAR : Hid (Far ⟨name, ia, ic, items⟩ 0 ([] ++ S2.data.toList)) := Lib.hid (by
          rw [HSL.out]
          refine ⟨.inl (by simp), by simp, ?_⟩
          rw [← HSL.out, List.nil_append, toList_len]
          have := HSZ.out
          omega)
        clear hw b2 k2 hbk2 e0 e1 hX2 HBK2
        obtain ⟨BB, hBB⟩ : ∃ BB, BB = wo.heap.size := ⟨_, rfl⟩
        have hBBle : wo.heap.size ≤ BB := by omega
        rw [← hBB] at HBB HKK ⊢
        have HBE := Lib.hid hBB
        clear hBB
        go_wp2_with fail
        go_loopw [32] (fun i wr => ∃ (k : Nat) (L : List UInt8), k ≤ items.length ∧ i = .int .i64 k ∧ Hid (Bd wr BB BB L ∧ KZ BB (wo.alloc (.cells #[.pointer none, .slice none 0 0] 140)) wr) ∧ Hid (Far ⟨name, ia, ic, items⟩ k L)) (fun i _ => items.length - (intOf i).toNat)
        case atStart => exact ⟨0, _, by omega, rfl, Lib.hid ⟨HBB.out, HKK.out⟩, HFAR⟩
        case round =>
          clear HBB HKK HFAR f0 f1 hX3
          obtain ⟨k, L, hk, rfl, HS, HF⟩ := hrel
          have HNO : Hid (New wo wr) := Lib.hid (KZ.nw HS.out.2 hBBle NB.out)
          by_cases hk1 : k < items.length
          · have hkI : (k : Int) < (items.length : Int) := by omega
            have hkd : decide (k < items.length) = true := decide_eq_true hk1
            obtain ⟨bb, off, hab, q0, q1, q2, q3, q4, q5, q6, q7, q8, q9, q10⟩ := items_row (H.out.new (NWO.out.trans HNO.out)).sl hk1
            have hibd := HD.out.bd _ (List.getElem_mem hk1)
            have hnx := (H.out.new NWO.out).nx _ (List.getElem_mem hk1)
            have hright := List.all_eq_true.1 HALL.out _ (List.getElem_mem hk1)
            simp only at hab q0 q1 q2 q3 q4 q5 q6 q7 q8 q9 q10
            have HNEXT := Lib.hid (@Far.next ⟨name, ia, ic, items⟩ k L HF.out)
            have HBIG := Lib.hid (@Far.big ⟨name, ia, ic, items⟩ k L HF.out)
            have HAB := Lib.hid hab
            obtain ⟨y, hy⟩ : ∃ y, items[k] = y := ⟨_, rfl⟩
            have HY := Lib.hid hy
            rw [hy] at q0 q1 q2 q3 q4 q5 q6 q7 q8 q9 q10 hibd hnx hright
            clear hy
            obtain ⟨kd, nm, tg, sa, sc, xs, fn, fp, fa, tn, tp, ta, at_⟩ := y
            simp only at q0 q1 q2 q3 q4 q5 q6 q7 q8 q9 q10
            have hbw := World.block_lt_of_cell? wr _ q0
            have nX : New wr (wr.alloc (.cells #[.int .u8 kd, .string nm, .string tg, .slice sa xs.length sc, .string fn, I fp, I fa, .string tn, I tp, I ta, I at_] ItT)) := (New.refl _).alloc _
            obtain ⟨⟨x0, x1, x2, x3, x4, x5, x6, x7, x8, x9, x10⟩, -, hXX⟩ := it_get (heap_alloc_new wr (.cells #[.int .u8 kd, .string nm, .string tg, .slice sa xs.length sc, .string fn, I fp, I fa, .string tn, I tp, I ta, I at_] ItT))
            have hlen := blen_any (wr.alloc (.cells #[.int .u8 kd, .string nm, .string tg, .slice sa xs.length sc, .string fn, I fp, I fa, .string tn, I tp, I ta, I at_] ItT)) BB BB L (HS.out.1.new nX)
            have NX := Lib.hid nX
            obtain ⟨m, hm⟩ : ∃ m, L.length = m := ⟨_, rfl⟩
            rw [hm] at hlen
            have HM := Lib.hid hm
            have HIB := Lib.hid hibd
            have HNXX := Lib.hid hnx
            have HRT := Lib.hid hright
            clear hab nX hm hibd hnx hright
            by_cases hbig : 1048576 < m
            · have hbI : (1048576 : Int) < (m : Int) := by omega
              have hpa : printA ⟨name, ia, ic, items⟩ = ([], 2) := by
                unfold printA
                rw [if_neg (by simp only [HNM.out, HALL.out]; decide), if_pos (HBIG.out (by rw [HM.out]; exact hbig))]
              have HPA := Lib.hid hpa
              clear hpa hbig
              rw [HAB.out]
              go_wp2_with fail
              refine hlen.mono ?_
              rintro e w3 ⟨rfl, rfl⟩
              go_wp2_with fail
              rw [HPO.out]
              exact ⟨(show Ending.returned (.tuple #[.string ⟨#[]⟩, I 2]) = _ by rw [HPA.out]), (NWO.out.trans HNO.out).trans NX.out⟩
            · have hbI : ¬ (1048576 : Int) < (m : Int) := by omega
              have HNB := Lib.hid hbig
              have hwr := write_any wo (wr.alloc (.cells #[.int .u8 kd, .string nm, .string tg, .slice sa xs.length sc, .string fn, I fp, I fa, .string tn, I tp, I ta, I at_] ItT)) BB BB L heo.out hBBle (HNO.out.trans NX.out) (HS.out.1.new NX.out) (⟨kd, nm, tg, sa, sc, xs, fn, fp, fa, tn, tp, ta, at_⟩ : SIt) HNXX.out HRT.out HIB.out (by rw [HM.out]; omega)
              clear hbig
              rw [HAB.out]
              go_wp2_with fail
              refine hlen.mono ?_
              rintro e w3 ⟨rfl, rfl⟩
              go_wp2_with fail
              refine hwr.mono ?_
              rintro e w4 ⟨rfl, k4, l', b4, p4, q4, z4⟩
              have HS4 := Lib.hid (And.intro b4 ((HS.out.2.trans (KY.of_new NX.out)).trans k4))
              have HF4 : Hid (Far ⟨name, ia, ic, items⟩ (k + 1) (L ++ l')) := Lib.hid (HNEXT.out (by rw [HM.out]; exact HNB.out) hk1 (by rw [HY.out]; exact p4) (by rw [HY.out]; exact q4) z4)
              clear hwr hlen b4 k4 p4 q4 z4 x0 x1 x2 x3 x4 x5 x6 x7 x8 x9 x10
              go_wp2_with fail
              go_roundw
              case rel => exact ⟨k + 1, L ++ l', by omega, by go_num, HS4, HF4⟩
              case measure => simp [intOf]; omega
          · have hke : k = items.length := by omega
            have hkd : decide (k < items.length) = false := decide_eq_false hk1
            have hk9 : ¬ (k : Int) < (items.length : Int) := by omega
            have HFE : Hid (Far ⟨name, ia, ic, items⟩ items.length L) := Lib.hid (by rw [← hke]; exact HF.out)
            have hlt := HS.out.1.lt
            have hw := wstr_any wr BB BB L (⟨#[125, 10]⟩ : ByteArray) HS.out.1 (by have := HFE.out.2.2; show _ + 2 ≤ _; omega) hlt.2
            clear hke
            go_wp2_with fail
            refine hw.mono ?_
            rintro e w3 ⟨rfl, b3, k3⟩
            have b3 : Bd w3 BB BB (L ++ [125, 10]) := b3
            have hlen := blen_any w3 BB BB _ b3
            have hst := bstr_any w3 BB BB _ b3 b3.lt.2
            have NW3 := Lib.hid (NWO.out.trans (KZ.nw (HS.out.2.trans k3) hBBle NB.out))
            obtain ⟨m, hm⟩ : ∃ m, (L ++ [125, 10]).length = m := ⟨_, rfl⟩
            rw [hm] at hlen
            have HM := Lib.hid hm
            have hwle : w.heap.size ≤ BB := Nat.le_trans NWO.out.size hBBle
            clear hw k3 b3 hm
            by_cases hbig : 1048576 < m
            · have hbI : (1048576 : Int) < (m : Int) := by omega
              have hpa : printA ⟨name, ia, ic, items⟩ = ([], 2) := by
                unfold printA
                rw [if_neg (by simp only [HNM.out, HALL.out]; decide), if_pos]
                rcases HFE.out.done with e | e
                · rw [← e, HM.out]; exact hbig
                · exact HFE.out.big e
              have HPA := Lib.hid hpa
              clear hpa hbig
              go_wp2_with fail
              refine hlen.mono ?_
              rintro e w4 ⟨rfl, rfl⟩
              go_wp2_with fail
              rw [HPO.out]
              exact ⟨(show Ending.returned (.tuple #[.string ⟨#[]⟩, I 2]) = _ by rw [HPA.out]), NW3.out⟩
            · have hbI : ¬ (1048576 : Int) < (m : Int) := by omega
              have hLP : L ++ [125, 10] = printW ⟨name, ia, ic, items⟩ := by
                rcases HFE.out.done with e | e
                · exact e
                · have := HM.out; rw [List.length_append] at this; omega
              have hpa : printA ⟨name, ia, ic, items⟩ = (L ++ [125, 10], 0) := by
                unfold printA
                rw [if_neg (by simp only [HNM.out, HALL.out]; decide), if_neg (by rw [← hLP, HM.out]; exact hbig), ← hLP]
              have HPA := Lib.hid hpa
              obtain ⟨X, hXX⟩ : ∃ X : ByteArray, (⟨(L ++ [125, 10]).toArray⟩ : ByteArray) = X := ⟨_, rfl⟩
              rw [hXX] at hst
              have HXX := Lib.hid hXX
              clear hpa hbig hLP hXX
              go_wp2_with fail
              refine hlen.mono ?_
              rintro e w4 ⟨rfl, rfl⟩
              go_wp2_with fail
              refine hst.mono ?_
              rintro e w5 ⟨rfl, k5⟩
              go_wp2_with fail
              rw [HPO.out]
              refine ⟨(show Ending.returned (.tuple #[.string X, I 0]) = _ by rw [HPA.out, HXX.out]), ?_⟩
              have kk : Keeps (fun i => BB ≤ i) w4 w5 := ⟨k5.os, k5.tape, k5.output, k5.size, fun i hi hn => k5.block i (by omega)⟩
              exact NW3.out.keeps kk (fun i hi h => by omega)
theorem printA_bare (s : Sk) : printA s.bare = printA s := by
  have h1 : s.bare.items.all rightB = s.items.all rightB := by
    unfold Sk.bare; simp only [List.all_map]; rfl
  have h2 : printW s.bare = printW s := by
    unfold printW Sk.bare
    simp only [List.flatMap_map]; rfl
  unfold printA
  rw [h1, h2]
  rfl
theorem skparse_ok (w : World) (s : ByteArray) (he : Env w) (hs : s.size ≤ 9223372036854775807) (x : LSk) (h : parseA s.data.toList = .ok x) :
    Calls Tryz.prog 23 #[.string s] w fun e w' => ∃ t : Sk, t.bare = x.mem ∧ e = .returned (.tuple #[t.v, .agg #[I 0, I 0]]) ∧ SkOwn w' w.heap.size t ∧ New w w' := by
  refine (parse_any w s he hs).mono ?_
  rw [h]
  exact fun e w' h => h
theorem skparse_no (w : World) (s : ByteArray) (he : Env w) (hs : s.size ≤ 9223372036854775807) (c : Int) (k : Nat) (h : parseA s.data.toList = .error (c, k)) :
    Calls Tryz.prog 23 #[.string s] w fun e w' => e = .returned (.tuple #[.agg #[.string ⟨#[]⟩, .slice none 0 0], .agg #[I c, I (k : Int)]]) ∧ New w w' := by
  refine (parse_any w s he hs).mono ?_
  rw [h]
  exact fun e w' h => h
theorem bare_len' {s : Sk} {x : LSk} (h : s.bare = x.mem) : s.name = ⟨x.name.toArray⟩ ∧ s.items.length = x.items.length := by
  have h1 := congrArg Sk.name h
  have h2 := congrArg (fun t => t.items.length) h
  simp only [Sk.bare, LSk.mem, List.length_map] at h1 h2
  exact ⟨h1, h2⟩
theorem bare_item {s : Sk} {x : LSk} (h : s.bare = x.mem) (i : Nat) (hi : i < s.items.length) (hj : i < x.items.length) : s.items[i] = x.items[i].mem s.items[i].a s.items[i].c := by
  have h2 := congrArg Sk.items h
  have h3 : (s.items.map SIt.bare)[i]? = (x.items.map fun y => y.mem none 0)[i]? := by
    show s.bare.items[i]? = x.mem.items[i]?
    rw [h2]
  rw [List.getElem?_map, List.getElem?_map, List.getElem?_eq_getElem hi, List.getElem?_eq_getElem hj] at h3
  have h4 : s.items[i].bare = x.items[i].mem none 0 := Option.some.inj h3
  generalize s.items[i] = y at h4 ⊢
  generalize x.items[i] = z at h4 ⊢
  obtain ⟨y1, y2, y3, y4, y5, y6, y7, y8, y9, y10, y11, y12, y13⟩ := y
  unfold SIt.bare LIt.mem at h4
  unfold LIt.mem
  simp only [SIt.mk.injEq] at h4 ⊢
  exact ⟨h4.1, h4.2.1, h4.2.2.1, trivial, trivial, h4.2.2.2.2.2.1, h4.2.2.2.2.2.2.1, h4.2.2.2.2.2.2.2.1, h4.2.2.2.2.2.2.2.2.1, h4.2.2.2.2.2.2.2.2.2.1, h4.2.2.2.2.2.2.2.2.2.2.1, h4.2.2.2.2.2.2.2.2.2.2.2.1, h4.2.2.2.2.2.2.2.2.2.2.2.2⟩
structure LBnd (x : LSk) : Prop where
  n : x.name.length ≤ 9223372036854775807
  i : x.items.length ≤ 9223372036854775807
  sz : ∀ y ∈ x.items, y.name.length ≤ 9223372036854775807 ∧ y.tag.length ≤ 9223372036854775807 ∧ y.fr.name.length ≤ 9223372036854775807 ∧ y.tu.name.length ≤ 9223372036854775807 ∧ y.xs.length ≤ 9223372036854775807
  bd : ∀ y ∈ x.items, (-9223372036854775808 ≤ y.fr.port ∧ y.fr.port ≤ 9223372036854775807) ∧ (-9223372036854775808 ≤ y.tu.port ∧ y.tu.port ≤ 9223372036854775807) ∧ ∀ n ∈ y.xs, -9223372036854775808 ≤ n ∧ n ≤ 9223372036854775807
theorem arr_size (l : List UInt8) : (⟨l.toArray⟩ : ByteArray).size = l.length := by rw [← toList_len]
theorem LBnd.mem {x : LSk} (h : LBnd x) {s : Sk} (hs : s.bare = x.mem) : SBnd s := by
  obtain ⟨h1, h2⟩ := bare_len' hs
  have hit : ∀ y ∈ s.items, ∃ z ∈ x.items, y = z.mem y.a y.c := fun y hy => by
    obtain ⟨i, hi, rfl⟩ := List.mem_iff_getElem.1 hy
    exact ⟨x.items[i]'(by omega), List.getElem_mem _, bare_item hs i hi (by omega)⟩
  refine ⟨by rw [h1, arr_size]; exact h.n, by rw [h2]; exact h.i, fun y hy => ?_, fun y hy => ?_⟩
  · obtain ⟨z, hz, e⟩ := hit y hy
    obtain ⟨a1, a2, a3, a4, _⟩ := h.sz z hz
    rw [e]
    exact ⟨by show (⟨z.name.toArray⟩ : ByteArray).size ≤ _; rw [arr_size]; exact a1, by show (⟨z.tag.toArray⟩ : ByteArray).size ≤ _; rw [arr_size]; exact a2, by show (⟨z.fr.name.toArray⟩ : ByteArray).size ≤ _; rw [arr_size]; exact a3, by show (⟨z.tu.name.toArray⟩ : ByteArray).size ≤ _; rw [arr_size]; exact a4⟩
  · obtain ⟨z, hz, e⟩ := hit y hy
    obtain ⟨b1, b2, b3⟩ := h.bd z hz
    rw [e]
    exact ⟨b1, b2, b3, (h.sz z hz).2.2.2.2⟩
end Go.Proofs.YtnedmonlofbahaaGreatDoor
namespace Go.Proofs.YtnedmonlofbahaaGreatDoor
open Go
set_option linter.all false

def StandsU (s w : List UInt8) (k : Nat) : Prop := k + w.length ≤ s.length ∧ (s.drop k).take w.length = w
theorem right_len1 {t : LTok} (h : t.right = true) (hn : -9223372036854775808 ≤ t.num ∧ t.num ≤ 9223372036854775807) : t.spelt.length ≤ 21 ∧ 1 ≤ t.spelt.length := by
  obtain ⟨c, r, hs, _, _, _⟩ := tokR_back t h hn
  refine ⟨?_, by rw [hs]; simp⟩
  unfold LTok.right at h
  split at h
  · rename_i e
    unfold LTok.spelt
    rw [if_neg (by omega)]
    simp only [Bool.and_eq_true] at h
    cases hx : t.text with
    | nil => simp
    | cons c r =>
      rw [hx] at h
      simp only [nameU, Bool.and_eq_true, decide_eq_true_iff] at h
      have := h.2.2.2
      simp only [List.length_cons]; omega
  · split at h
    · rename_i e
      unfold LTok.spelt
      rw [if_pos e]
      exact Lib.itoa_length_le t.num hn.1 hn.2
    · split at h
      · rename_i e
        unfold LTok.spelt
        rw [if_neg (by omega)]
        simp only [Bool.and_eq_true] at h
        have := h.2
        unfold markU at this
        rw [decide_eq_true_iff] at this
        rcases this with e | e | e | e | e | e <;> (rw [e]; decide)
      · cases h
theorem tok_mono {s : List UInt8} {l : List LTok} (h : lexA s = (l, 0, 0)) : ∀ (d i : Nat), i + d + 1 < l.length → ∀ (hi : i < l.length) (hj : i + d + 1 < l.length), l[i].at_ < l[i + d + 1].at_ := by
  have hp := (places_plain h).1
  have h1 : ∀ i (hi : i < l.length) (hj : i + 1 < l.length), l[i].at_ < l[i + 1].at_ := by
    intro i hi hj
    have a := hp i hi
    have b := hp (i + 1) hj
    have c : posL l (i + 1) = l[i].at_ + l[i].spelt.length := by
      show (match l[i]? with | some t => t.at_ + t.spelt.length | none => 0) = _
      rw [List.getElem?_eq_getElem hi]
    rw [c] at b
    have d : 1 ≤ l[i].spelt.length := by
      rcases a.2.2.2.1 with ⟨e, _⟩ | ⟨_, _, e⟩
      · omega
      · exact (right_len1 e a.2.2.2.2.1).2
    omega
  intro d
  induction d with
  | zero => intro i hi h2 h3; exact h1 i h2 h3
  | succ d ih =>
    intro i hi h2 h3
    have a := ih i (by omega) h2 (by omega)
    have b := h1 (i + d + 1) (by omega) (by omega)
    show l[i].at_ < l[i + (d + 1) + 1].at_
    have e : i + (d + 1) + 1 = i + d + 1 + 1 := by omega
    simp only [e]
    omega
theorem tok_lt {s : List UInt8} {l : List LTok} (h : lexA s = (l, 0, 0)) {i j : Nat} (hij : i < j) {t u : LTok} (ht : l[i]? = some t) (hu : l[j]? = some u) : t.at_ < u.at_ := by
  obtain ⟨hi, rfl⟩ := List.getElem?_eq_some_iff.1 ht
  obtain ⟨hj, rfl⟩ := List.getElem?_eq_some_iff.1 hu
  obtain ⟨d, rfl⟩ : ∃ d, j = i + d + 1 := ⟨j - i - 1, by omega⟩
  exact tok_mono h d i hj hi hj
theorem tok_word {s : List UInt8} {l : List LTok} (h : lexA s = (l, 0, 0)) {i : Nat} {t : LTok} (ht : l[i]? = some t) (hs : t.sort = 1) : StandsU s t.text t.at_ := by
  obtain ⟨hi, rfl⟩ := List.getElem?_eq_some_iff.1 ht
  obtain ⟨_, h2, h3, _⟩ := (places_plain h).1 i hi
  have e : l[i].spelt = l[i].text := by unfold LTok.spelt; rw [if_neg (by omega)]
  rw [e] at h2 h3
  exact ⟨h2, h3⟩
def PlAt (l : List LTok) (i : Nat) (p : LPl) : Prop := ∃ t, l[i]? = some t ∧ t.sort = 1 ∧ p.name = t.text ∧ p.at_ = t.at_
theorem place_at {l : List LTok} {k m : Nat} {p : LPl} (hp : placeP l k = .good p m) : PlAt l k p ∧ k < m := by
  unfold placeP at hp
  obtain ⟨t, k1, h1, hp⟩ := PR.bind_inv hp
  obtain ⟨_, k2, h2, hp⟩ := PR.bind_inv hp
  obtain ⟨n, k3, h3, hp⟩ := PR.bind_inv hp
  cases hp
  obtain ⟨a1, a2, rfl⟩ := takeP_inv h1
  obtain ⟨_, _, _, _, rfl⟩ := mustP_inv h2
  obtain ⟨_, _, rfl⟩ := takeP_inv h3
  exact ⟨⟨t, a1, a2, rfl, rfl⟩, by omega⟩
def ItTok (l : List LTok) (k m : Nat) (x : LIt) : Prop := ∃ t, l[k]? = some t ∧ t.sort = 1 ∧ x.at_ = t.at_ ∧ k < m ∧
  ((x.kind = 1 ∧ t.text = actorW ∧ x.fr.at_ = 0 ∧ x.tu.at_ = 0) ∨
   (x.kind = 2 ∧ t.text = edgeW ∧ ∃ i j, k < i ∧ i < j ∧ j < m ∧ PlAt l i x.fr ∧ PlAt l j x.tu) ∨
   (x.kind = 3 ∧ t.text = inW ∧ x.fr.at_ = 0 ∧ ∃ j, k < j ∧ j < m ∧ PlAt l j x.tu) ∨
   (x.kind = 4 ∧ t.text = outW ∧ x.tu.at_ = 0 ∧ ∃ i, k < i ∧ i < m ∧ PlAt l i x.fr))
theorem nums_le {l : List LTok} {k m : Nat} {xs : List Int} (h : numsP l k = .good xs m) : k ≤ m := by
  obtain ⟨_, rfl⟩ := numsP_inv h; omega
theorem with_le {l : List LTok} {k m : Nat} {xs : List Int} (h : withP l k = .good xs m) : k ≤ m := by
  unfold withP at h
  split at h
  · obtain ⟨n, k1, h1, h⟩ := PR.bind_inv h
    obtain ⟨ys, k2, h2, h⟩ := PR.bind_inv h
    cases h
    obtain ⟨_, _, rfl⟩ := takeP_inv h1
    have := nums_le h2
    omega
  · cases h; omega
theorem item_tok {l : List LTok} {k m : Nat} {x : LIt} (h : itemP l k = .good x m) : ItTok l k m x := by
  unfold itemP at h
  obtain ⟨y, k1, hb, h⟩ := PR.bind_inv h
  obtain ⟨_, k2, h2, h⟩ := PR.bind_inv h
  cases h
  obtain ⟨_, _, _, _, rfl⟩ := mustP_inv h2
  unfold bodyP at hb
  split at hb
  · cases hb
  · rename_i t ht
    split at hb
    · rename_i hs
      unfold actorP at hb
      obtain ⟨n, a1, q1, hb⟩ := PR.bind_inv hb
      obtain ⟨_, a2, q2, hb⟩ := PR.bind_inv hb
      obtain ⟨g, a3, q3, hb⟩ := PR.bind_inv hb
      obtain ⟨xs, a4, q4, hb⟩ := PR.bind_inv hb
      cases hb
      obtain ⟨_, _, rfl⟩ := takeP_inv q1
      obtain ⟨_, _, _, _, rfl⟩ := mustP_inv q2
      obtain ⟨_, _, rfl⟩ := takeP_inv q3
      have := nums_le q4
      exact ⟨t, ht, hs.1, rfl, by omega, .inl ⟨rfl, hs.2, rfl, rfl⟩⟩
    · split at hb
      · rename_i hs
        unfold edgeP at hb
        obtain ⟨p, a1, q1, hb⟩ := PR.bind_inv hb
        obtain ⟨_, a2, q2, hb⟩ := PR.bind_inv hb
        obtain ⟨q, a3, q3, hb⟩ := PR.bind_inv hb
        obtain ⟨xs, a4, q4, hb⟩ := PR.bind_inv hb
        cases hb
        obtain ⟨p1, l1⟩ := place_at q1
        obtain ⟨_, _, _, _, rfl⟩ := mustP_inv q2
        obtain ⟨p3, l3⟩ := place_at q3
        have := with_le q4
        exact ⟨t, ht, hs.1, rfl, by omega, .inr (.inl ⟨rfl, hs.2, k + 1, a1 + 1, by omega, by omega, by omega, p1, p3⟩)⟩
      · split at hb
        · rename_i hs
          unfold inP at hb
          obtain ⟨p, a1, q1, hb⟩ := PR.bind_inv hb
          obtain ⟨_, a2, q2, hb⟩ := PR.bind_inv hb
          obtain ⟨q, a3, q3, hb⟩ := PR.bind_inv hb
          cases hb
          obtain ⟨_, _, rfl⟩ := takeP_inv q1
          obtain ⟨_, _, _, _, rfl⟩ := mustP_inv q2
          obtain ⟨p3, l3⟩ := place_at q3
          exact ⟨t, ht, hs.1, rfl, by omega, .inr (.inr (.inl ⟨rfl, hs.2, rfl, k + 1 + 1 + 1, by omega, by omega, p3⟩))⟩
        · split at hb
          · rename_i hs
            unfold outP at hb
            obtain ⟨p, a1, q1, hb⟩ := PR.bind_inv hb
            obtain ⟨_, a2, q2, hb⟩ := PR.bind_inv hb
            obtain ⟨q, a3, q3, hb⟩ := PR.bind_inv hb
            cases hb
            obtain ⟨p1, l1⟩ := place_at q1
            obtain ⟨_, _, _, _, rfl⟩ := mustP_inv q2
            obtain ⟨_, _, rfl⟩ := takeP_inv q3
            exact ⟨t, ht, hs.1, rfl, by omega, .inr (.inr (.inr ⟨rfl, hs.2, rfl, k + 1, by omega, by omega, p1⟩))⟩
          · cases hb
def ItPl (s : List UInt8) (prev : Nat) (x : LIt) : Prop := prev < x.at_ ∧ (x.fr.at_ = 0 ∨ x.at_ < x.fr.at_) ∧ (x.tu.at_ = 0 ∨ x.fr.at_ < x.tu.at_) ∧
  ((x.kind = 1 ∧ StandsU s actorW x.at_ ∧ x.fr.at_ = 0 ∧ x.tu.at_ = 0) ∨
   (x.kind = 2 ∧ StandsU s edgeW x.at_ ∧ StandsU s x.fr.name x.fr.at_ ∧ StandsU s x.tu.name x.tu.at_ ∧ 0 < x.tu.at_ ∧ 0 < x.fr.at_) ∨
   (x.kind = 3 ∧ StandsU s inW x.at_ ∧ x.fr.at_ = 0 ∧ StandsU s x.tu.name x.tu.at_ ∧ x.at_ < x.tu.at_) ∨
   (x.kind = 4 ∧ StandsU s outW x.at_ ∧ StandsU s x.fr.name x.fr.at_ ∧ x.at_ < x.fr.at_ ∧ x.tu.at_ = 0))
def lastPl (x : LIt) : Nat := max (max x.at_ x.fr.at_) x.tu.at_
def PlsOk (s : List UInt8) : Nat → List LIt → Prop
  | _, [] => True
  | prev, x :: r => ItPl s prev x ∧ PlsOk s (lastPl x) r
def Before (l : List LTok) (k p : Nat) : Prop := ∀ t, l[k]? = some t → p < t.at_
theorem tok_pl {s : List UInt8} {l : List LTok} (h : lexA s = (l, 0, 0)) {k m prev : Nat} {x : LIt} (hx : ItTok l k m x) (hp : Before l k prev) : ItPl s prev x ∧ Before l m (lastPl x) := by
  obtain ⟨t, ht, hs, ha, hkm, hx⟩ := hx
  have h0 := hp t ht
  have hw := tok_word h ht hs
  rw [← ha] at h0 hw
  rcases hx with ⟨h1, h2, h3, h4⟩ | ⟨h1, h2, i, j, hi, hij, hj, ⟨u, hu, su, nu, au⟩, ⟨v, hv, sv, nv, av⟩⟩ | ⟨h1, h2, h3, j, hi, hj, ⟨v, hv, sv, nv, av⟩⟩ | ⟨h1, h2, h4, i, hi, hij, ⟨u, hu, su, nu, au⟩⟩
  · rw [h2] at hw
    refine ⟨⟨h0, .inl h3, .inl h4, .inl ⟨h1, hw, h3, h4⟩⟩, fun z hz => ?_⟩
    have := tok_lt h hkm ht hz
    unfold lastPl; omega
  · rw [h2] at hw
    have a := tok_lt h hi ht hu
    have b := tok_lt h hij hu hv
    have wu := tok_word h hu su
    have wv := tok_word h hv sv
    rw [← nu, ← au] at wu
    rw [← nv, ← av] at wv
    refine ⟨⟨h0, .inr (by omega), .inr (by omega), .inr (.inl ⟨h1, hw, wu, wv, by omega, by omega⟩)⟩, fun z hz => ?_⟩
    have := tok_lt h hj hv hz
    unfold lastPl; omega
  · rw [h2] at hw
    have a := tok_lt h hi ht hv
    have wv := tok_word h hv sv
    rw [← nv, ← av] at wv
    refine ⟨⟨h0, .inl h3, .inr (by omega), .inr (.inr (.inl ⟨h1, hw, h3, wv, by omega⟩))⟩, fun z hz => ?_⟩
    have := tok_lt h hj hv hz
    unfold lastPl; omega
  · rw [h2] at hw
    have a := tok_lt h hi ht hu
    have wu := tok_word h hu su
    rw [← nu, ← au] at wu
    refine ⟨⟨h0, .inr (by omega), .inl h4, .inr (.inr (.inr ⟨h1, hw, wu, by omega, h4⟩))⟩, fun z hz => ?_⟩
    have := tok_lt h hij hu hz
    unfold lastPl; omega
theorem items_pl {s : List UInt8} {l : List LTok} (h : lexA s = (l, 0, 0)) : ∀ (f k m prev : Nat) (xs : List LIt), itemsP f l k = .good xs m → Before l k prev → PlsOk s prev xs := by
  intro f
  induction f with
  | zero => intro k m prev xs hx; cases hx
  | succ f ih =>
    intro k m prev xs hx hb
    unfold itemsP at hx
    split at hx
    · cases hx; trivial
    · obtain ⟨x, k1, h1, hx⟩ := PR.bind_inv hx
      obtain ⟨ys, k2, h2, hx⟩ := PR.bind_inv hx
      cases hx
      obtain ⟨a, b⟩ := tok_pl h (item_tok h1) hb
      exact ⟨a, ih _ _ _ _ h2 b⟩
theorem parse_places {s : List UInt8} {x : LSk} (h : parseA s = .ok x) : PlsOk s 0 x.items := by
  unfold parseA at h
  obtain ⟨⟨l, c, k⟩, hA⟩ : ∃ r, lexA s = r := ⟨_, rfl⟩
  rw [hA] at h
  simp only at h
  split at h
  · cases h
  · rename_i hc
    have hc : c = 0 := by omega
    subst hc
    have hk : k = 0 := by
      rcases lexA_code hA with ⟨_, e, _⟩ | ⟨e, _⟩
      · exact e
      · rcases e with ⟨e, _⟩ | ⟨e, _⟩ <;> omega
    subst hk
    split at h
    · rename_i y m hp
      cases h
      unfold parseP at hp
      obtain ⟨_, k1, h1, hp⟩ := PR.bind_inv hp
      obtain ⟨n, k2, h2, hp⟩ := PR.bind_inv hp
      obtain ⟨_, k3, h3, hp⟩ := PR.bind_inv hp
      obtain ⟨xs, k4, h4, hp⟩ := PR.bind_inv hp
      obtain ⟨_, k5, h5, hp⟩ := PR.bind_inv hp
      obtain ⟨_, k6, h6, hp⟩ := PR.bind_inv hp
      cases hp
      obtain ⟨t, ht, _, _, rfl⟩ := mustP_inv h1
      obtain ⟨_, _, rfl⟩ := takeP_inv h2
      obtain ⟨_, _, _, _, rfl⟩ := mustP_inv h3
      refine items_pl hA _ _ _ 0 _ h4 (fun u hu => ?_)
      have := tok_lt hA (by omega : 0 < 0 + 1 + 1 + 1) ht hu
      omega
    · cases h
theorem parse_fault {s : List UInt8} {c : Int} {k : Nat} (h : parseA s = .error (c, k)) : c ≠ 0 ∧ k ≤ s.length := by
  unfold parseA at h
  obtain ⟨⟨l, c', k'⟩, hA⟩ : ∃ r, lexA s = r := ⟨_, rfl⟩
  rw [hA] at h
  simp only at h
  have hcode := lexA_code hA
  split at h
  · rename_i hc
    cases h
    refine ⟨hc, ?_⟩
    rcases hcode with ⟨e, _⟩ | ⟨e, _⟩
    · exact absurd e hc
    · rcases e with ⟨_, e2, e3⟩ | ⟨_, _, ts, e⟩
      · omega
      · have := (lexL_ge s.length 0 s (Nat.le_refl _)).2 c k (by rw [e])
        omega
  · split at h
    · cases h
    · cases h
      refine ⟨by decide, ?_⟩
      rename_i j hp
      cases hj : l[j]? with
      | none => exact Nat.zero_le _
      | some t =>
        show t.at_ ≤ _
        have := lexA_at (l := s) t (by rw [hA]; exact List.mem_of_getElem? hj)
        omega
end Go.Proofs.YtnedmonlofbahaaGreatDoor
namespace Go.Proofs.YtnedmonlofbahaaGreatDoor
open Go
set_option linter.all false

def Lx (s : List UInt8) (ts : List LTok) : Prop := ∀ p, ∃ us, lexL p s = (us, none) ∧ us.map LTok.bare0 = ts
theorem Lx.nil : Lx [] [] := fun p => ⟨[], lexL_nil p, rfl⟩
theorem Lx.blank {c : UInt8} {s : List UInt8} {ts : List LTok} (h : Lx s ts) (hc : isBlk c = true) : Lx (c :: s) ts := fun p => by
  rw [lexL_blank p c s hc]; exact h (p + 1)
theorem Lx.tok {t : LTok} {b : UInt8} {r : List UInt8} {ts : List LTok} (h : Lx (b :: r) ts) (hr : t.right = true) (hn : -9223372036854775808 ≤ t.num ∧ t.num ≤ 9223372036854775807) (hb : stops b) : Lx (t.spelt ++ b :: r) (t.bare0 :: ts) := fun p => by
  obtain ⟨c, q, hs, h1, h2, ht⟩ := tokR_back t hr hn
  have ha := tokR_append c q b hb r
  rw [ht, List.cons_append] at ha
  obtain ⟨us, hu, hts⟩ := h (p + (q.length + 1))
  refine ⟨⟨t.sort, t.text, t.num, p⟩ :: us, ?_, by rw [List.map_cons, hts]; rfl⟩
  rw [hs, List.cons_append, lexL_good _ _ _ h1 h2 ha]
  have hd : (c :: (q ++ b :: r)).drop (q.length + 1) = b :: r := by rw [List.drop_succ_cons, List.drop_left]
  rw [hd, hu]
theorem Lx.mark {c : UInt8} {r : List UInt8} {ts : List LTok} (h : Lx r ts) (hc : c = 123 ∨ c = 125 ∨ c = 61 ∨ c = 59 ∨ c = 46) : Lx (c :: r) (⟨3, [c], 0, 0⟩ :: ts) := fun p => by
  have ht : tokR (c :: r) = .good 3 [c] 0 1 := by
    rw [tokR_cons]
    rcases hc with rfl | rfl | rfl | rfl | rfl <;> rfl
  obtain ⟨us, hu, hts⟩ := h (p + 1)
  refine ⟨⟨3, [c], 0, p⟩ :: us, ?_, by rw [List.map_cons, hts]; rfl⟩
  rw [lexL_good _ _ _ (by rcases hc with rfl | rfl | rfl | rfl | rfl <;> rfl) (by rcases hc with rfl | rfl | rfl | rfl | rfl <;> decide) ht]
  rw [List.drop_succ_cons, List.drop_zero, hu]
def wT (s : List UInt8) : LTok := ⟨1, s, 0, 0⟩
def mT (s : List UInt8) : LTok := ⟨3, s, 0, 0⟩
def nT (n : Int) : LTok := ⟨2, [], n, 0⟩
theorem Lx.word {s r : List UInt8} {b : UInt8} {ts : List LTok} (h : Lx (b :: r) ts) (hs : nameU s = true) (hb : stops b) : Lx (s ++ b :: r) (wT s :: ts) := by
  have := h.tok (t := wT s) (by unfold LTok.right wT; simp [hs]) (by unfold wT; simp only; omega) hb
  exact this
theorem Lx.num {n : Int} {r : List UInt8} {b : UInt8} {ts : List LTok} (h : Lx (b :: r) ts) (hn : -9223372036854775808 ≤ n ∧ n ≤ 9223372036854775807) (hb : stops b) : Lx (Lib.itoa n ++ b :: r) (nT n :: ts) := by
  have := h.tok (t := nT n) (by unfold LTok.right nT; simp) hn hb
  exact this
theorem Lx.arrow {r : List UInt8} {ts : List LTok} (h : Lx (32 :: r) ts) : Lx (45 :: 62 :: 32 :: r) (mT [45, 62] :: ts) := by
  have := h.tok (t := mT [45, 62]) (by unfold LTok.right mT; decide) (by unfold mT; simp only; omega) (by unfold stops; decide)
  exact this
theorem stops32 : stops 32 := by unfold stops; decide
theorem stops46 : stops 46 := by unfold stops; decide
theorem stops59 : stops 59 := by unfold stops; decide
theorem Lx.place {n : ByteArray} {p : Int} {b : UInt8} {r : List UInt8} {ts : List LTok} (h : Lx (b :: r) ts) (hb : stops b) (hn : nameB n = true) (hp : -9223372036854775808 ≤ p ∧ p ≤ 9223372036854775807) :
    Lx (placeW n p ++ b :: r) (wT n.data.toList :: mT [46] :: nT p :: ts) := by
  have h1 := (h.num hp hb).mark (c := 46) (by decide)
  have h2 := h1.word (s := n.data.toList) (by rw [← nameB_eq]; exact hn) stops46
  unfold placeW
  rw [List.append_assoc, List.cons_append]
  exact h2
def numsT (xs : List Int) : List LTok := xs.map nT
theorem Lx.nums {r : List UInt8} {ts : List LTok} (h : Lx (59 :: r) ts) : ∀ xs : List Int, (∀ n ∈ xs, -9223372036854775808 ≤ n ∧ n ≤ 9223372036854775807) → Lx (numsW xs ++ 59 :: r) (numsT xs ++ ts) ∧ ∃ b q, numsW xs ++ 59 :: r = b :: q ∧ stops b := by
  intro xs
  induction xs with
  | nil => intro _; exact ⟨h, 59, r, rfl, stops59⟩
  | cons x xs ih =>
    intro hb
    obtain ⟨h1, b, q, e, hs⟩ := ih (fun n hn => hb n (List.mem_cons_of_mem _ hn))
    rw [e] at h1
    have h2 := (h1.num (hb x List.mem_cons_self) hs).blank (c := 32) (by decide)
    have e2 : numsW (x :: xs) ++ 59 :: r = 32 :: (Lib.itoa x ++ b :: q) := by
      rw [← e]; unfold numsW; simp
    rw [e2]
    exact ⟨h2, 32, _, rfl, stops32⟩
def tkIt (x : SIt) : List LTok :=
  if x.kind = 1 then [wT actorW, wT x.name.data.toList, mT [61], wT x.tag.data.toList] ++ numsT x.xs ++ [mT [59]]
  else if x.kind = 2 then [wT edgeW, wT x.fn.data.toList, mT [46], nT x.fp, mT [45, 62], wT x.tn.data.toList, mT [46], nT x.tp] ++ (if x.xs = [] then [] else [wT withW]) ++ numsT x.xs ++ [mT [59]]
  else if x.kind = 3 then [wT inW, wT x.name.data.toList, mT [45, 62], wT x.tn.data.toList, mT [46], nT x.tp, mT [59]]
  else [wT outW, wT x.fn.data.toList, mT [46], nT x.fp, mT [45, 62], wT x.name.data.toList, mT [59]]
theorem Lx.line {r : List UInt8} {ts : List LTok} (h : Lx r ts) (x : SIt) (hr : rightB x = true) (hp : (-9223372036854775808 ≤ x.fp ∧ x.fp ≤ 9223372036854775807) ∧ (-9223372036854775808 ≤ x.tp ∧ x.tp ≤ 9223372036854775807) ∧ ∀ n ∈ x.xs, -9223372036854775808 ≤ n ∧ n ≤ 9223372036854775807) : Lx (lineW x ++ r) (tkIt x ++ ts) := by
  obtain ⟨kind, name, tag, sa, sc, xs, fn, fp, fa, tn, tp, ta, at_⟩ := x
  obtain ⟨hf, ht, hx⟩ := hp
  simp only at hf ht hx
  have h0 : Lx (59 :: 10 :: r) (mT [59] :: ts) := (h.blank (c := 10) (by decide)).mark (by decide)
  obtain ⟨h1, b, q, e, hb⟩ := h0.nums xs hx
  rw [e] at h1
  unfold rightB at hr
  simp only at hr
  split at hr
  · rename_i hk; subst hk
    simp only [Bool.and_eq_true] at hr
    obtain ⟨⟨⟨hn, ht⟩, -⟩, -⟩ := hr
    rw [nameB_eq] at hn ht
    have h2 := ((h1.word ht hb).blank (c := 32) (by decide)).mark (c := 61) (by decide)
    have h3 := ((((h2.blank (c := 32) (by decide)).word hn stops32).blank (c := 32) (by decide)).word (s := actorW) (by decide) stops32)
    have h4 := (h3.blank (c := 32) (by decide)).blank (c := 32) (by decide)
    have e1 : lineW ⟨1, name, tag, sa, sc, xs, fn, fp, fa, tn, tp, ta, at_⟩ ++ r = 32 :: 32 :: (actorW ++ 32 :: (name.data.toList ++ 32 :: 61 :: 32 :: (tag.data.toList ++ b :: q))) := by
      rw [← e]; unfold lineW headW actorW; simp
    rw [e1]
    have e2 : tkIt ⟨1, name, tag, sa, sc, xs, fn, fp, fa, tn, tp, ta, at_⟩ ++ ts = wT actorW :: wT name.data.toList :: ⟨3, [61], 0, 0⟩ :: wT tag.data.toList :: (numsT xs ++ mT [59] :: ts) := by
      unfold tkIt mT; simp
    rw [e2]
    exact h4
  · split at hr
    · rename_i hk; subst hk
      simp only [Bool.and_eq_true] at hr
      obtain ⟨⟨⟨-, -⟩, hn⟩, ho⟩ := hr
      have hT : ∃ b' q', (if xs = [] then [] else [32, 119, 105, 116, 104]) ++ b :: q = b' :: q' ∧ stops b' ∧ Lx (b' :: q') ((if xs = [] then [] else [wT withW]) ++ (numsT xs ++ mT [59] :: ts)) := by
        by_cases hx0 : xs = []
        · rw [if_pos hx0, if_pos hx0]; exact ⟨b, q, rfl, hb, h1⟩
        · rw [if_neg hx0, if_neg hx0]
          exact ⟨32, _, rfl, stops32, (h1.word (s := withW) (by decide) hb).blank (c := 32) (by decide)⟩
      obtain ⟨b', q', e', hb', h2⟩ := hT
      have h3 := ((h2.place hb' ho ht).blank (c := 32) (by decide)).arrow.blank (c := 32) (by decide)
      have h4 := (((h3.place stops32 hn hf).blank (c := 32) (by decide)).word (s := edgeW) (by decide) stops32)
      have h5 := (h4.blank (c := 32) (by decide)).blank (c := 32) (by decide)
      have e1 : lineW ⟨2, name, tag, sa, sc, xs, fn, fp, fa, tn, tp, ta, at_⟩ ++ r = 32 :: 32 :: (edgeW ++ 32 :: (placeW fn fp ++ 32 :: 45 :: 62 :: 32 :: (placeW tn tp ++ b' :: q'))) := by
        rw [← e', ← e]; unfold lineW headW edgeW; simp
      rw [e1]
      have e2 : tkIt ⟨2, name, tag, sa, sc, xs, fn, fp, fa, tn, tp, ta, at_⟩ ++ ts = wT edgeW :: wT fn.data.toList :: mT [46] :: nT fp :: mT [45, 62] :: wT tn.data.toList :: mT [46] :: nT tp :: ((if xs = [] then [] else [wT withW]) ++ (numsT xs ++ mT [59] :: ts)) := by
        unfold tkIt; simp
      rw [e2]
      exact h5
    · split at hr
      · rename_i hk; subst hk
        simp only [Bool.and_eq_true] at hr
        obtain ⟨⟨⟨⟨hn, -⟩, hx0⟩, -⟩, ho⟩ := hr
        have hx0 : xs = [] := by simpa using hx0
        subst hx0
        rw [nameB_eq] at hn
        have h3 := ((h0.place stops59 ho ht).blank (c := 32) (by decide)).arrow.blank (c := 32) (by decide)
        have h4 := (((h3.word hn stops32).blank (c := 32) (by decide)).word (s := inW) (by decide) stops32)
        have h5 := (h4.blank (c := 32) (by decide)).blank (c := 32) (by decide)
        have e1 : lineW ⟨3, name, tag, sa, sc, [], fn, fp, fa, tn, tp, ta, at_⟩ ++ r = 32 :: 32 :: (inW ++ 32 :: (name.data.toList ++ 32 :: 45 :: 62 :: 32 :: (placeW tn tp ++ 59 :: 10 :: r))) := by
          unfold lineW headW inW numsW; simp
        rw [e1]
        exact h5
      · split at hr
        · rename_i hk; subst hk
          simp only [Bool.and_eq_true] at hr
          obtain ⟨⟨⟨⟨hn, -⟩, hx0⟩, ho⟩, -⟩ := hr
          have hx0 : xs = [] := by simpa using hx0
          subst hx0
          rw [nameB_eq] at hn
          have h3 := ((h0.word hn stops59).blank (c := 32) (by decide)).arrow.blank (c := 32) (by decide)
          have h4 := (((h3.place stops32 ho hf).blank (c := 32) (by decide)).word (s := outW) (by decide) stops32)
          have h5 := (h4.blank (c := 32) (by decide)).blank (c := 32) (by decide)
          have e1 : lineW ⟨4, name, tag, sa, sc, [], fn, fp, fa, tn, tp, ta, at_⟩ ++ r = 32 :: 32 :: (outW ++ 32 :: (placeW fn fp ++ 32 :: 45 :: 62 :: 32 :: (name.data.toList ++ 59 :: 10 :: r))) := by
            unfold lineW headW outW numsW; simp
          rw [e1]
          exact h5
        · cases hr
def tkS (s : Sk) : List LTok := [wT graphW, wT s.name.data.toList, mT [123]] ++ s.items.flatMap tkIt ++ [mT [125]]
theorem Lx.sketch (s : Sk) (hn : nameB s.name = true) (hr : s.items.all rightB = true) (hb : ∀ x ∈ s.items, (-9223372036854775808 ≤ x.fp ∧ x.fp ≤ 9223372036854775807) ∧ (-9223372036854775808 ≤ x.tp ∧ x.tp ≤ 9223372036854775807) ∧ ∀ n ∈ x.xs, -9223372036854775808 ≤ n ∧ n ≤ 9223372036854775807) : Lx (printW s) (tkS s) := by
  have hend : Lx [125, 10] [mT [125]] := (Lx.nil.blank (c := 10) (by decide)).mark (by decide)
  have hit : ∀ l : List SIt, (∀ x ∈ l, rightB x = true ∧ ((-9223372036854775808 ≤ x.fp ∧ x.fp ≤ 9223372036854775807) ∧ (-9223372036854775808 ≤ x.tp ∧ x.tp ≤ 9223372036854775807) ∧ ∀ n ∈ x.xs, -9223372036854775808 ≤ n ∧ n ≤ 9223372036854775807)) → Lx (l.flatMap lineW ++ [125, 10]) (l.flatMap tkIt ++ [mT [125]]) := by
    intro l
    induction l with
    | nil => intro _; exact hend
    | cons x l ih =>
      intro h
      have h1 := ih (fun y hy => h y (List.mem_cons_of_mem _ hy))
      obtain ⟨h2, h3⟩ := h x List.mem_cons_self
      have h4 := h1.line x h2 h3
      simp only [List.flatMap_cons, List.append_assoc]
      exact h4
  have h1 := (hit s.items (fun x hx => ⟨List.all_eq_true.1 hr x hx, hb x hx⟩)).blank (c := 10) (by decide)
  rw [nameB_eq] at hn
  have h2 := ((h1.mark (c := 123) (by decide)).blank (c := 32) (by decide)).word hn stops32
  have h3 := (h2.blank (c := 32) (by decide)).word (s := graphW) (by decide) stops32
  have e1 : printW s = graphW ++ 32 :: (s.name.data.toList ++ 32 :: 123 :: 10 :: (s.items.flatMap lineW ++ [125, 10])) := by
    unfold printW graphW; simp
  rw [e1]
  have e2 : tkS s = wT graphW :: wT s.name.data.toList :: ⟨3, [123], 0, 0⟩ :: (s.items.flatMap tkIt ++ [mT [125]]) := by
    unfold tkS mT; simp
  rw [e2]
  exact h3
end Go.Proofs.YtnedmonlofbahaaGreatDoor
namespace Go.Proofs.YtnedmonlofbahaaGreatDoor
open Go
set_option linter.all false

theorem get_d {l r : List LTok} {k : Nat} {t : LTok} (h : l.drop k = t :: r) : l[k]? = some t ∧ l.drop (k + 1) = r := by
  have h1 : (l.drop k)[0]? = some t := by rw [h]; rfl
  rw [List.getElem?_drop, Nat.add_zero] at h1
  refine ⟨h1, ?_⟩
  have h2 : (l.drop k).drop 1 = r := by rw [h]; rfl
  rw [List.drop_drop] at h2
  exact h2
theorem take_d {l r : List LTok} {k : Nat} {t : LTok} {so : Int} (h : l.drop k = t :: r) (hs : t.sort = so) : takeP so l k = .good t (k + 1) := by
  rw [takeP_some (get_d h).1, if_pos hs]
theorem look_d {l r : List LTok} {k : Nat} {t : LTok} {so : Int} {b : List UInt8} (h : l.drop k = t :: r) : lookP so b l k = decide (t.sort = so ∧ t.text = b) := lookP_some (get_d h).1
theorem must_d {l r : List LTok} {k : Nat} {t : LTok} {so : Int} {b : List UInt8} (h : l.drop k = t :: r) (hs : t.sort = so) (hb : t.text = b) : mustP so b l k = .good () (k + 1) := by
  unfold mustP
  rw [look_d h, if_pos (by simp [hs, hb])]
theorem takeW {l r : List LTok} {k : Nat} {s : List UInt8} (h : l.drop k = wT s :: r) : takeP 1 l k = .good (wT s) (k + 1) := take_d h rfl
theorem takeN {l r : List LTok} {k : Nat} {n : Int} (h : l.drop k = nT n :: r) : takeP 2 l k = .good (nT n) (k + 1) := take_d h rfl
theorem takeE {l r : List LTok} {k : Nat} (h : l.drop k = (⟨0, [], 0, 0⟩ : LTok) :: r) : takeP 0 l k = .good ⟨0, [], 0, 0⟩ (k + 1) := take_d h rfl
theorem mustM {l r : List LTok} {k : Nat} {s : List UInt8} (h : l.drop k = mT s :: r) : mustP 3 s l k = .good () (k + 1) := must_d h rfl rfl
theorem mustW {l r : List LTok} {k : Nat} {s : List UInt8} (h : l.drop k = wT s :: r) : mustP 1 s l k = .good () (k + 1) := must_d h rfl rfl
theorem nums_d {l r : List LTok} {k : Nat} {t : LTok} {xs : List Int} (h : l.drop k = numsT xs ++ t :: r) (ht : t.sort ≠ 2) : numsP l k = .good xs (k + xs.length) ∧ l.drop (k + xs.length) = t :: r := by
  have h1 : ∀ xs : List Int, numsF (numsT xs ++ t :: r) = xs := by
    intro xs
    induction xs with
    | nil => show numsF (t :: r) = []; unfold numsF; rw [if_neg ht]
    | cons x xs ih => show numsF (nT x :: (numsT xs ++ t :: r)) = x :: xs; unfold numsF; rw [if_pos (show (nT x).sort = 2 from rfl), ih]; rfl
  unfold numsP numsL
  rw [h, h1]
  refine ⟨rfl, ?_⟩
  rw [← List.drop_drop, h]
  have : (numsT xs).length = xs.length := by unfold numsT; rw [List.length_map]
  rw [← this, List.drop_left]
theorem place_d {l r : List LTok} {k : Nat} {n : List UInt8} {p : Int} (h : l.drop k = wT n :: mT [46] :: nT p :: r) : placeP l k = .good ⟨n, p, 0⟩ (k + 3) ∧ l.drop (k + 3) = r := by
  obtain ⟨_, h1⟩ := get_d h
  obtain ⟨_, h2⟩ := get_d h1
  obtain ⟨_, h3⟩ := get_d h2
  refine ⟨?_, h3⟩
  unfold placeP
  rw [takeW h, PR.bind_good, mustM h1, PR.bind_good, takeN h2, PR.bind_good]; rfl
def itL (x : SIt) : LIt := ⟨x.kind, x.name.data.toList, x.tag.data.toList, x.xs, ⟨x.fn.data.toList, x.fp, 0⟩, ⟨x.tn.data.toList, x.tp, 0⟩, 0⟩
theorem emptyB_list0 {s : ByteArray} (h : emptyB s = true) : s.data.toList = [] := by
  unfold emptyB at h
  rw [← ByteArray.toList_eq]; simpa using h
theorem bare_zero {n : ByteArray} {p : Int} (h : bareB n p = true) : n.data.toList = [] ∧ p = 0 := by
  unfold bareB at h
  simp only [Bool.and_eq_true] at h
  exact ⟨(emptyB_list0 h.1), by simpa using h.2⟩
theorem item_d {l r : List LTok} {k : Nat} {x : SIt} (hr : rightB x = true) (h : l.drop k = tkIt x ++ r) : itemP l k = .good (itL x) (k + (tkIt x).length) ∧ l.drop (k + (tkIt x).length) = r := by
  have hend : l.drop (k + (tkIt x).length) = r := by rw [← List.drop_drop, h, List.drop_left]
  refine ⟨?_, hend⟩
  clear hend
  obtain ⟨kind, name, tag, sa, sc, xs, fn, fp, fa, tn, tp, ta, at_⟩ := x
  unfold rightB at hr
  simp only at hr
  split at hr
  · rename_i hk; subst hk
    simp only [Bool.and_eq_true] at hr
    obtain ⟨⟨-, hf⟩, ht⟩ := hr
    obtain ⟨f1, rfl⟩ := bare_zero hf
    obtain ⟨t1, rfl⟩ := bare_zero ht
    have h : l.drop k = wT actorW :: wT name.data.toList :: mT [61] :: wT tag.data.toList :: (numsT xs ++ mT [59] :: r) := by rw [h]; unfold tkIt; simp
    obtain ⟨g, h1⟩ := get_d h
    obtain ⟨_, h2⟩ := get_d h1
    obtain ⟨_, h3⟩ := get_d h2
    obtain ⟨_, h4⟩ := get_d h3
    obtain ⟨h5, h6⟩ := nums_d h4 (by decide)
    unfold itemP bodyP
    rw [g]
    simp only
    rw [if_pos ⟨rfl, rfl⟩]
    unfold actorP
    rw [takeW h1, PR.bind_good, mustM h2, PR.bind_good, takeW h3, PR.bind_good, h5, PR.bind_good, PR.bind_good, mustM h6, PR.bind_good]
    unfold itL plZ
    simp only [f1, t1]
    have e : (tkIt ⟨1, name, tag, sa, sc, xs, fn, 0, fa, tn, 0, ta, at_⟩).length = 4 + xs.length + 1 := by unfold tkIt numsT; simp; omega
    rw [e]
    have e2 : k + 1 + 1 + 1 + 1 + xs.length + 1 = k + (4 + xs.length + 1) := by omega
    rw [e2]; rfl
  · split at hr
    · rename_i hk; subst hk
      simp only [Bool.and_eq_true] at hr
      obtain ⟨⟨⟨hn, ht⟩, -⟩, -⟩ := hr
      have n0 := emptyB_list0 hn
      have t0 := emptyB_list0 ht
      have h : l.drop k = wT edgeW :: wT fn.data.toList :: mT [46] :: nT fp :: mT [45, 62] :: wT tn.data.toList :: mT [46] :: nT tp :: ((if xs = [] then [] else [wT withW]) ++ (numsT xs ++ mT [59] :: r)) := by rw [h]; unfold tkIt; simp
      obtain ⟨g, h1⟩ := get_d h
      obtain ⟨p1, h2⟩ := place_d h1
      obtain ⟨_, h3⟩ := get_d h2
      obtain ⟨p3, h4⟩ := place_d h3
      have hw : withP l (k + 1 + 3 + 1 + 3) = .good xs (k + 8 + (if xs = [] then 0 else 1) + xs.length) ∧ l.drop (k + 8 + (if xs = [] then 0 else 1) + xs.length) = mT [59] :: r := by
        by_cases hx : xs = []
        · subst hx
          rw [if_pos rfl] at h4 ⊢
          have h4 : l.drop (k + 1 + 3 + 1 + 3) = mT [59] :: r := h4
          unfold withP
          rw [look_d h4, if_neg (by decide)]
          exact ⟨rfl, h4⟩
        · rw [if_neg hx] at h4 ⊢
          obtain ⟨z, zs, rfl⟩ : ∃ z zs, xs = z :: zs := by
            cases xs with
            | nil => exact absurd rfl hx
            | cons z zs => exact ⟨z, zs, rfl⟩
          have h4 : l.drop (k + 1 + 3 + 1 + 3) = wT withW :: nT z :: (numsT zs ++ mT [59] :: r) := h4
          obtain ⟨_, h5⟩ := get_d h4
          obtain ⟨_, h6⟩ := get_d h5
          obtain ⟨h7, h8⟩ := nums_d h6 (by decide)
          unfold withP
          rw [look_d h4, if_pos (by decide), takeN h5, PR.bind_good, h7, PR.bind_good]
          have e : k + 8 + 1 + (z :: zs).length = k + 1 + 3 + 1 + 3 + 1 + 1 + zs.length := by simp only [List.length_cons]; omega
          rw [e]
          exact ⟨rfl, h8⟩
      unfold itemP bodyP
      rw [g]
      simp only
      rw [if_neg (by decide), if_pos ⟨rfl, rfl⟩]
      unfold edgeP
      rw [p1, PR.bind_good, mustM h2, PR.bind_good, p3, PR.bind_good, hw.1, PR.bind_good, PR.bind_good, mustM hw.2, PR.bind_good]
      unfold itL
      simp only [n0, t0]
      have e : k + 8 + (if xs = [] then 0 else 1) + xs.length + 1 = k + (tkIt ⟨2, name, tag, sa, sc, xs, fn, fp, fa, tn, tp, ta, at_⟩).length := by unfold tkIt numsT; by_cases hx : xs = [] <;> simp [hx] <;> omega
      rw [e]; rfl
    · split at hr
      · rename_i hk; subst hk
        simp only [Bool.and_eq_true] at hr
        obtain ⟨⟨⟨⟨-, ht⟩, hx⟩, hf⟩, -⟩ := hr
        have t0 := emptyB_list0 ht
        have hx : xs = [] := by simpa using hx
        subst hx
        obtain ⟨f1, f2⟩ := bare_zero hf
        have h : l.drop k = wT inW :: wT name.data.toList :: mT [45, 62] :: wT tn.data.toList :: mT [46] :: nT tp :: mT [59] :: r := h
        obtain ⟨g, h1⟩ := get_d h
        obtain ⟨_, h2⟩ := get_d h1
        obtain ⟨_, h3⟩ := get_d h2
        obtain ⟨p3, h4⟩ := place_d h3
        unfold itemP bodyP
        rw [g]
        simp only
        rw [if_neg (by decide), if_neg (by decide), if_pos ⟨rfl, rfl⟩]
        unfold inP
        rw [takeW h1, PR.bind_good, mustM h2, PR.bind_good, p3, PR.bind_good, PR.bind_good, mustM h4, PR.bind_good]
        unfold itL plZ
        simp only [t0, f1, f2]
        rfl
      · split at hr
        · rename_i hk; subst hk
          simp only [Bool.and_eq_true] at hr
          obtain ⟨⟨⟨⟨-, ht⟩, hx⟩, -⟩, hf⟩ := hr
          have t0 := emptyB_list0 ht
          have hx : xs = [] := by simpa using hx
          subst hx
          obtain ⟨f1, f2⟩ := bare_zero hf
          have h : l.drop k = wT outW :: wT fn.data.toList :: mT [46] :: nT fp :: mT [45, 62] :: wT name.data.toList :: mT [59] :: r := h
          obtain ⟨g, h1⟩ := get_d h
          obtain ⟨p1, h2⟩ := place_d h1
          obtain ⟨_, h3⟩ := get_d h2
          obtain ⟨_, h4⟩ := get_d h3
          unfold itemP bodyP
          rw [g]
          simp only
          rw [if_neg (by decide), if_neg (by decide), if_neg (by decide), if_pos ⟨rfl, rfl⟩]
          unfold outP
          rw [p1, PR.bind_good, mustM h2, PR.bind_good, takeW h3, PR.bind_good, PR.bind_good, mustM h4, PR.bind_good]
          unfold itL plZ
          simp only [t0, f1, f2]
          rfl
        · cases hr
theorem items_d {l r : List LTok} : ∀ (its : List SIt) (k f : Nat), its.all rightB = true → its.length < f → l.drop k = its.flatMap tkIt ++ mT [125] :: r → itemsP f l k = .good (its.map itL) (k + (its.flatMap tkIt).length) ∧ l.drop (k + (its.flatMap tkIt).length) = mT [125] :: r := by
  intro its
  induction its with
  | nil =>
    intro k f _ hf h
    obtain ⟨f, rfl⟩ : ∃ f', f = f' + 1 := ⟨f - 1, by simp at hf; omega⟩
    have h : l.drop k = mT [125] :: r := h
    rw [itemsP, look_d h, if_pos (by decide)]
    exact ⟨rfl, h⟩
  | cons x its ih =>
    intro k f hr hf h
    obtain ⟨f, rfl⟩ : ∃ f', f = f' + 1 := ⟨f - 1, by simp at hf; omega⟩
    simp only [List.all_cons, Bool.and_eq_true] at hr
    rw [List.flatMap_cons, List.append_assoc] at h
    have hlk : lookP 3 [125] l k = false := by
      have hh : ∃ t q, tkIt x = t :: q ∧ t.sort = 1 := by
        unfold tkIt
        split
        · exact ⟨_, _, rfl, rfl⟩
        · split
          · exact ⟨_, _, rfl, rfl⟩
          · split
            · exact ⟨_, _, rfl, rfl⟩
            · exact ⟨_, _, rfl, rfl⟩
      obtain ⟨t, q, e, hs⟩ := hh
      rw [e, List.cons_append] at h
      rw [look_d h, hs]; rfl
    obtain ⟨h1, h2⟩ := item_d hr.1 h
    obtain ⟨h3, h4⟩ := ih _ f hr.2 (by simp at hf; omega) h2
    rw [itemsP, if_neg (by rw [hlk]; decide), h1, PR.bind_good, h3, PR.bind_good]
    rw [List.flatMap_cons, List.length_append, ← Nat.add_assoc]
    exact ⟨rfl, h4⟩
def skL (s : Sk) : LSk := ⟨s.name.data.toList, s.items.map itL⟩
def endT : LTok := ⟨0, [], 0, 0⟩
theorem sketch_d (s : Sk) (hr : s.items.all rightB = true) : parseP (tkS s ++ [endT]) = .good (skL s) (tkS s ++ [endT]).length := by
  have h : (tkS s ++ [endT]).drop 0 = wT graphW :: wT s.name.data.toList :: mT [123] :: (s.items.flatMap tkIt ++ mT [125] :: [endT]) := by unfold tkS; simp
  obtain ⟨_, h1⟩ := get_d h
  obtain ⟨_, h2⟩ := get_d h1
  obtain ⟨_, h3⟩ := get_d h2
  have hlen : s.items.length < (tkS s ++ [endT]).length := by
    have : s.items.length ≤ (s.items.flatMap tkIt).length := by
      induction s.items with
      | nil => simp
      | cons x l ih =>
        rw [List.flatMap_cons, List.length_append, List.length_cons]
        have : 1 ≤ (tkIt x).length := by
          unfold tkIt
          split
          · simp
          · split
            · simp
            · split <;> simp
        omega
    unfold tkS
    simp only [List.length_append, List.length_cons, List.length_nil]
    omega
  obtain ⟨h4, h5⟩ := items_d s.items (0 + 1 + 1 + 1) _ hr hlen h3
  obtain ⟨_, h6⟩ := get_d h5
  unfold parseP
  rw [mustW h, PR.bind_good, takeW h1, PR.bind_good, mustM h2, PR.bind_good, h4, PR.bind_good, mustM h5, PR.bind_good, takeE h6, PR.bind_good]
  have e : 0 + 1 + 1 + 1 + (s.items.flatMap tkIt).length + 1 + 1 = (tkS s ++ [endT]).length := by unfold tkS; simp; omega
  rw [e]; rfl
theorem len_bare0 {us ts : List LTok} (h : us.map LTok.bare0 = ts) : us.length = ts.length := by rw [← h, List.length_map]
theorem printed_parse (s : Sk) (hn : nameB s.name = true) (hr : s.items.all rightB = true) (hb : ∀ x ∈ s.items, (-9223372036854775808 ≤ x.fp ∧ x.fp ≤ 9223372036854775807) ∧ (-9223372036854775808 ≤ x.tp ∧ x.tp ≤ 9223372036854775807) ∧ ∀ n ∈ x.xs, -9223372036854775808 ≤ n ∧ n ≤ 9223372036854775807) (hl : (printW s).length ≤ 1048576) : ∃ y, parseA (printW s) = .ok y ∧ y.bare = (skL s).bare := by
  obtain ⟨us, hu, hts⟩ := Lx.sketch s hn hr hb 0
  have hA : lexA (printW s) = (us ++ [⟨0, [], 0, (printW s).length⟩], 0, 0) := by
    unfold lexA; rw [if_neg (by omega), hu]
  have hlen := len_bare0 hts
  have hag : Agree (tkS s).length (tkS s ++ [endT]) (us ++ [⟨0, [], 0, (printW s).length⟩]) := by
    refine ⟨fun i hi => ?_, ⟨0, [], 0, (printW s).length⟩, ?_, .inl rfl⟩
    · have hiu : i < us.length := by omega
      refine ⟨(tkS s)[i], us[i], ?_, ?_, ?_⟩
      · rw [List.getElem?_append_left hi, List.getElem?_eq_getElem hi]
      · rw [List.getElem?_append_left hiu, List.getElem?_eq_getElem hiu]
      · have e : (tkS s)[i] = us[i].bare0 := by
          have h1 : (us.map LTok.bare0)[i]? = (tkS s)[i]? := by rw [hts]
          rw [List.getElem?_map, List.getElem?_eq_getElem hiu, List.getElem?_eq_getElem hi] at h1
          exact (Option.some.inj h1).symm
        rw [e]; exact ⟨rfl, rfl, rfl⟩
    · rw [← hlen, List.getElem?_append_right (Nat.le_refl _)]; simp
  have hs := sketch_d s hr
  have e : (tkS s ++ [endT]).length = (tkS s).length + 1 := by rw [List.length_append]; rfl
  rw [e] at hs
  obtain ⟨y, hy, hyb⟩ := hag.parse_good hs
  refine ⟨y, ?_, hyb.symm⟩
  unfold parseA
  rw [hA]
  simp only
  rw [if_neg (by simp), hy]
end Go.Proofs.YtnedmonlofbahaaGreatDoor
namespace Go.Proofs.YtnedmonlofbahaaGreatDoor
open Go
set_option linter.all false

def PR.lt {α : Type} (n : Nat) : PR α → Prop
  | .bad k => k < n
  | .good _ k => k < n
section
variable {l : List LTok} (he : Ends l)
include he
end
end Go.Proofs.YtnedmonlofbahaaGreatDoor
namespace Go.Proofs.YtnedmonlofbahaaGreatDoor
open Go
set_option linter.all false

def looseU (l : List LTok) : Nat → List UInt8
  | 0 => []
  | i + 1 => looseU l i ++ (l[i]?.map LTok.spelt).getD [] ++ (if i + 2 < l.length then [32] else [])
structure TGood (l : List LTok) : Prop where
  ne : 0 < l.length
  rt : ∀ (i : Nat) (t : LTok), l[i]? = some t → i + 1 < l.length → t.right = true ∧ t.sort ≠ 0
  nm : ∀ (i : Nat) (t : LTok), l[i]? = some t → -9223372036854775808 ≤ t.num ∧ t.num ≤ 9223372036854775807
  en : ∀ (i : Nat) (t : LTok), l[i]? = some t → i + 1 = l.length → t.sort = 0 ∧ t.spelt = [] ∧ t.text = [] ∧ t.num = 0
theorem good_of {s : List UInt8} {l : List LTok} (h : lexA s = (l, 0, 0)) : TGood l := by
  obtain ⟨h1, _, h3⟩ := places_plain h
  refine ⟨h3, fun i t ht hi => ?_, fun i t ht => ?_, fun i t ht hi => ?_⟩
  · obtain ⟨hj, rfl⟩ := List.getElem?_eq_some_iff.1 ht
    obtain ⟨_, _, _, h4, _⟩ := h1 i hj
    rcases h4 with ⟨e, _⟩ | ⟨_, e1, e2⟩
    · omega
    · exact ⟨e2, e1⟩
  · obtain ⟨hj, rfl⟩ := List.getElem?_eq_some_iff.1 ht
    exact (h1 i hj).2.2.2.2.1
  · rcases lexA_code h with ⟨_, _, _, hlen, ts, hl, rfl⟩ | ⟨⟨e, _⟩ | ⟨e, _⟩, _⟩
    · rw [List.length_append, List.length_singleton] at hi
      obtain rfl : i = ts.length := by omega
      rw [List.getElem?_append_right (Nat.le_refl _), Nat.sub_self] at ht
      cases ht
      exact ⟨rfl, rfl, rfl, rfl⟩
    · cases e
    · omega
theorem TGood.len {l : List LTok} (h : TGood l) {i : Nat} {t : LTok} (ht : l[i]? = some t) : t.spelt.length ≤ 21 := by
  have hi := (List.getElem?_eq_some_iff.1 ht).1
  rcases Nat.lt_or_ge (i + 1) l.length with h1 | h1
  · exact (right_len1 (h.rt i t ht h1).1 (h.nm i t ht)).1
  · rw [(h.en i t ht (by omega)).2.1]; simp
def LooseSt (Bs : List UInt8) (Ws : List LTok) : Prop := ∀ rest, lexL 0 (Bs ++ rest) = (Ws ++ (lexL Bs.length rest).1, (lexL Bs.length rest).2)
theorem LooseSt.step {Bs : List UInt8} {Ws : List LTok} (h : LooseSt Bs Ws) (t : LTok) (hr : t.right = true) (hn : -9223372036854775808 ≤ t.num ∧ t.num ≤ 9223372036854775807) :
    LooseSt (Bs ++ t.spelt ++ [32]) (Ws ++ [{ t with at_ := Bs.length }]) := by
  intro rest
  have h1 := h (t.spelt ++ gapU 0 ++ rest)
  rw [lexL_back t hr hn 0 Bs.length rest] at h1
  have e : gapU 0 = [32] := rfl
  rw [e] at h1
  rw [List.append_assoc, List.append_assoc, ← List.append_assoc t.spelt, h1]
  simp only [List.length_append, List.append_assoc, List.singleton_append, Nat.add_assoc]
def MvTo (l : List LTok) (n : Nat) (Ws : List LTok) : Prop := Ws.length = n ∧ ∀ k t, k < n → l[k]? = some t → Ws[k]? = some { t with at_ := (looseU l k).length }
theorem MvTo.snoc {l : List LTok} {n : Nat} {Ws : List LTok} (h : MvTo l n Ws) {t : LTok} (ht : l[n]? = some t) : MvTo l (n + 1) (Ws ++ [{ t with at_ := (looseU l n).length }]) := by
  obtain ⟨h1, h2⟩ := h
  refine ⟨by simp [h1], fun k u hk hu => ?_⟩
  rcases Nat.lt_or_ge k n with h | h
  · rw [List.getElem?_append_left (by omega)]; exact h2 k u h hu
  · obtain rfl : k = n := by omega
    rw [ht] at hu; cases hu
    rw [List.getElem?_append_right (by omega), h1, Nat.sub_self]; rfl
end Go.Proofs.YtnedmonlofbahaaGreatDoor
namespace Go.Proofs.YtnedmonlofbahaaGreatDoor
open Go
set_option linter.all false

abbrev BndZ (n : Int) : Prop := -9223372036854775808 ≤ n ∧ n ≤ 9223372036854775807
def Span (l : List LTok) (k m : Nat) (ts : List LTok) : Prop := m = k + ts.length ∧ (l.map LTok.bare0).drop k = ts ++ (l.map LTok.bare0).drop m
theorem Span.refl (l : List LTok) (k : Nat) : Span l k k [] := ⟨rfl, rfl⟩
theorem Span.trans {l : List LTok} {k m n : Nat} {ts us : List LTok} (h : Span l k m ts) (g : Span l m n us) : Span l k n (ts ++ us) := by
  refine ⟨by rw [g.1, h.1, List.length_append]; omega, ?_⟩
  rw [h.2, g.2, List.append_assoc]
theorem Span.one {l : List LTok} {k : Nat} {t u : LTok} (h : l[k]? = some t) (e : t.bare0 = u) : Span l k (k + 1) [u] := by
  obtain ⟨hk, rfl⟩ := List.getElem?_eq_some_iff.1 h
  subst e
  refine ⟨rfl, ?_⟩
  rw [List.drop_eq_getElem_cons (by simpa using hk)]
  simp
theorem Span.le {l : List LTok} {k m : Nat} {ts : List LTok} (h : Span l k m ts) (hk : k ≤ l.length) : ts.length ≤ l.length := by
  have h1 := congrArg List.length h.2
  simp only [List.length_drop, List.length_map, List.length_append] at h1
  omega
section
variable {l : List LTok} (hg : TGood l)
include hg
theorem TGood.rt' {k : Nat} {t : LTok} (h : l[k]? = some t) (hs : t.sort ≠ 0) : t.right = true := by
  have hk := (List.getElem?_eq_some_iff.1 h).1
  rcases Nat.lt_or_ge (k + 1) l.length with h1 | h1
  · exact (hg.rt k t h h1).1
  · exact absurd (hg.en k t h (by omega)).1 hs
theorem sp_word {k m : Nat} {t : LTok} (h : takeP 1 l k = .good t m) : Span l k m [wT t.text] ∧ nameU t.text = true := by
  obtain ⟨h1, h2, rfl⟩ := takeP_inv h
  have hr := hg.rt' h1 (by omega)
  unfold LTok.right at hr
  rw [if_pos h2] at hr
  simp only [Bool.and_eq_true, decide_eq_true_iff] at hr
  refine ⟨Span.one h1 ?_, hr.2⟩
  unfold LTok.bare0 wT
  rw [h2, hr.1]
theorem sp_num {k m : Nat} {t : LTok} (h : takeP 2 l k = .good t m) : Span l k m [nT t.num] ∧ BndZ t.num := by
  obtain ⟨h1, h2, rfl⟩ := takeP_inv h
  have hr := hg.rt' h1 (by omega)
  unfold LTok.right at hr
  rw [if_neg (by omega), if_pos h2, decide_eq_true_iff] at hr
  refine ⟨Span.one h1 ?_, hg.nm k t h1⟩
  unfold LTok.bare0 nT
  rw [h2, hr]
theorem sp_must {b : List UInt8} {k m : Nat} {u : Unit} (h : mustP 3 b l k = .good u m) : Span l k m [mT b] := by
  obtain ⟨t, h1, h2, h3, rfl⟩ := mustP_inv h
  have hr := hg.rt' h1 (by omega)
  unfold LTok.right at hr
  rw [if_neg (by omega), if_neg (by omega), if_pos h2] at hr
  simp only [Bool.and_eq_true, decide_eq_true_iff] at hr
  refine Span.one h1 ?_
  unfold LTok.bare0 mT
  rw [h2, h3, hr.1]
theorem sp_key {b : List UInt8} {k : Nat} {t : LTok} (h1 : l[k]? = some t) (h2 : t.sort = 1) (h3 : t.text = b) : Span l k (k + 1) [wT b] := by
  have hr := hg.rt' h1 (by omega)
  unfold LTok.right at hr
  rw [if_pos h2] at hr
  simp only [Bool.and_eq_true, decide_eq_true_iff] at hr
  refine Span.one h1 ?_
  unfold LTok.bare0 wT
  rw [h2, h3, hr.1]
theorem sp_mustw {b : List UInt8} {k m : Nat} {u : Unit} (h : mustP 1 b l k = .good u m) : Span l k m [wT b] := by
  obtain ⟨t, h1, h2, h3, rfl⟩ := mustP_inv h
  exact sp_key hg h1 h2 h3
theorem sp_numsL : ∀ (n k : Nat), (numsL l k).length = n → Span l k (k + n) (numsT (numsL l k)) ∧ ∀ x ∈ numsL l k, BndZ x := by
  intro n
  induction n with
  | zero =>
    intro k hk
    rw [List.length_eq_zero_iff.1 hk]
    exact ⟨Span.refl _ _, fun x hx => by cases hx⟩
  | succ n ih =>
    intro k hk
    obtain ⟨t, h1, h2, _⟩ := numsL_get (l := l) (k := k) (i := 0) (by omega)
    rw [Nat.add_zero] at h1
    have e := numsL_some h1
    rw [if_pos h2] at e
    rw [e] at hk ⊢
    simp only [List.length_cons, Nat.add_right_cancel_iff] at hk
    obtain ⟨i1, i2⟩ := ih (k + 1) hk
    have ht : takeP 2 l k = .good t (k + 1) := by rw [takeP_some h1, if_pos h2]
    obtain ⟨j1, j2⟩ := sp_num hg ht
    refine ⟨?_, fun x hx => ?_⟩
    · have := j1.trans i1
      rw [show k + 1 + n = k + (n + 1) by omega] at this
      exact this
    · rcases List.mem_cons.1 hx with rfl | hx
      · exact j2
      · exact i2 x hx
theorem sp_nums {k m : Nat} {xs : List Int} (h : numsP l k = .good xs m) : Span l k m (numsT xs) ∧ ∀ x ∈ xs, BndZ x := by
  obtain ⟨rfl, rfl⟩ := numsP_inv h
  exact sp_numsL hg _ k rfl
theorem sp_place {k m : Nat} {p : LPl} (h : placeP l k = .good p m) : Span l k m [wT p.name, mT [46], nT p.port] ∧ nameU p.name = true ∧ BndZ p.port := by
  unfold placeP at h
  obtain ⟨t, k1, h1, h⟩ := PR.bind_inv h
  obtain ⟨_, k2, h2, h⟩ := PR.bind_inv h
  obtain ⟨n, k3, h3, h⟩ := PR.bind_inv h
  cases h
  obtain ⟨a1, a2⟩ := sp_word hg h1
  obtain ⟨b1, b2⟩ := sp_num hg h3
  exact ⟨(a1.trans (sp_must hg h2)).trans b1, a2, b2⟩
theorem sp_with {k m : Nat} {xs : List Int} (h : withP l k = .good xs m) : Span l k m ((if xs = [] then [] else [wT withW]) ++ numsT xs) ∧ ∀ x ∈ xs, BndZ x := by
  unfold withP at h
  split at h
  · rename_i hl
    obtain ⟨t, h1, h2, h3⟩ := lookP_inv hl
    obtain ⟨n, k1, h4, h⟩ := PR.bind_inv h
    obtain ⟨ys, k2, h5, h⟩ := PR.bind_inv h
    cases h
    obtain ⟨a1, a2⟩ := sp_num hg h4
    obtain ⟨b1, b2⟩ := sp_nums hg h5
    refine ⟨?_, fun x hx => ?_⟩
    · rw [if_neg (by simp)]
      exact (sp_key hg h1 h2 h3).trans (a1.trans b1)
    · rcases List.mem_cons.1 hx with rfl | hx
      · exact a2
      · exact b2 x hx
  · cases h
    exact ⟨Span.refl _ _, fun x hx => by cases hx⟩
end
abbrev IZ (x : LIt) : SIt := x.mem none 0
structure ItOk (x : LIt) : Prop where
  rt : rightB (IZ x) = true
  fp : BndZ x.fr.port
  tp : BndZ x.tu.port
  xs : ∀ n ∈ x.xs, BndZ n
theorem nameB_arr {s : List UInt8} (h : nameU s = true) : nameB ⟨s.toArray⟩ = true := by rw [nameB_eq]; simpa using h
theorem empty_arr : emptyB (⟨([] : List UInt8).toArray⟩ : ByteArray) = true := by unfold emptyB; rw [ByteArray.toList_eq]; rfl
theorem bare_arr : bareB (⟨plZ.name.toArray⟩ : ByteArray) plZ.port = true := by
  unfold bareB
  rw [show emptyB (⟨plZ.name.toArray⟩ : ByteArray) = true from empty_arr]; rfl
theorem z_bnd : BndZ 0 := ⟨by decide, by decide⟩
theorem arr_back (s : List UInt8) : (⟨s.toArray⟩ : ByteArray).data.toList = s := by simp
section
variable {l : List LTok} (hg : TGood l)
include hg
theorem sp_item {k m : Nat} {x : LIt} (h : itemP l k = .good x m) : Span l k m (tkIt (IZ x)) ∧ ItOk x := by
  unfold itemP at h
  obtain ⟨y, kb, h0, h⟩ := PR.bind_inv h
  obtain ⟨_, ke, he, h⟩ := PR.bind_inv h
  cases h
  have he := sp_must hg he
  unfold bodyP at h0
  split at h0
  · cases h0
  · rename_i t ht
    split at h0
    · rename_i hs
      have hk := sp_key hg ht hs.1 hs.2
      unfold actorP at h0
      obtain ⟨n, k1, h1, h0⟩ := PR.bind_inv h0
      obtain ⟨_, k2, h2, h0⟩ := PR.bind_inv h0
      obtain ⟨g, k3, h3, h0⟩ := PR.bind_inv h0
      obtain ⟨xs, k4, h4, h0⟩ := PR.bind_inv h0
      cases h0
      obtain ⟨a1, a2⟩ := sp_word hg h1
      obtain ⟨b1, b2⟩ := sp_word hg h3
      obtain ⟨c1, c2⟩ := sp_nums hg h4
      refine ⟨?_, ⟨?_, z_bnd, z_bnd, c2⟩⟩
      · have := (((((hk.trans a1).trans (sp_must hg h2)).trans b1).trans c1).trans he)
        unfold tkIt IZ LIt.mem
        simp only [if_pos, arr_back]
        simpa using this
      · unfold rightB IZ LIt.mem
        simp only [if_pos]
        have e1 := bare_arr
        simp only [nameB_arr a2, nameB_arr b2, e1, Bool.and_true]
    · split at h0
      · rename_i hs
        have hk := sp_key hg ht hs.1 hs.2
        unfold edgeP at h0
        obtain ⟨p, k1, h1, h0⟩ := PR.bind_inv h0
        obtain ⟨_, k2, h2, h0⟩ := PR.bind_inv h0
        obtain ⟨q, k3, h3, h0⟩ := PR.bind_inv h0
        obtain ⟨xs, k4, h4, h0⟩ := PR.bind_inv h0
        cases h0
        obtain ⟨a1, a2, a3⟩ := sp_place hg h1
        obtain ⟨b1, b2, b3⟩ := sp_place hg h3
        obtain ⟨c1, c2⟩ := sp_with hg h4
        refine ⟨?_, ⟨?_, a3, b3, c2⟩⟩
        · have := (((((hk.trans a1).trans (sp_must hg h2)).trans b1).trans c1).trans he)
          unfold tkIt IZ LIt.mem
          simp only [if_neg (show ¬ (2 : Int) = 1 by decide), if_pos, arr_back]
          simpa using this
        · unfold rightB IZ LIt.mem
          simp only [if_neg (show ¬ (2 : Int) = 1 by decide), if_pos]
          have e1 := empty_arr
          simp only [nameB_arr a2, nameB_arr b2, e1, Bool.and_true]
      · split at h0
        · rename_i hs
          have hk := sp_key hg ht hs.1 hs.2
          unfold inP at h0
          obtain ⟨n, k1, h1, h0⟩ := PR.bind_inv h0
          obtain ⟨_, k2, h2, h0⟩ := PR.bind_inv h0
          obtain ⟨q, k3, h3, h0⟩ := PR.bind_inv h0
          cases h0
          obtain ⟨a1, a2⟩ := sp_word hg h1
          obtain ⟨b1, b2, b3⟩ := sp_place hg h3
          refine ⟨?_, ⟨?_, z_bnd, b3, fun n hn => by cases hn⟩⟩
          · have := ((((hk.trans a1).trans (sp_must hg h2)).trans b1).trans he)
            unfold tkIt IZ LIt.mem
            simp only [if_neg (show ¬ (3 : Int) = 1 by decide), if_neg (show ¬ (3 : Int) = 2 by decide), if_pos, arr_back]
            simpa using this
          · unfold rightB IZ LIt.mem
            simp only [if_neg (show ¬ (3 : Int) = 1 by decide), if_neg (show ¬ (3 : Int) = 2 by decide), if_pos]
            have e1 := bare_arr
            have e2 := empty_arr
            simp only [nameB_arr a2, nameB_arr b2, e1, e2, Bool.and_true, List.length_nil, beq_self_eq_true]
        · split at h0
          · rename_i hs
            have hk := sp_key hg ht hs.1 hs.2
            unfold outP at h0
            obtain ⟨p, k1, h1, h0⟩ := PR.bind_inv h0
            obtain ⟨_, k2, h2, h0⟩ := PR.bind_inv h0
            obtain ⟨n, k3, h3, h0⟩ := PR.bind_inv h0
            cases h0
            obtain ⟨a1, a2, a3⟩ := sp_place hg h1
            obtain ⟨b1, b2⟩ := sp_word hg h3
            refine ⟨?_, ⟨?_, a3, z_bnd, fun n hn => by cases hn⟩⟩
            · have := ((((hk.trans a1).trans (sp_must hg h2)).trans b1).trans he)
              unfold tkIt IZ LIt.mem
              simp only [if_neg (show ¬ (4 : Int) = 1 by decide), if_neg (show ¬ (4 : Int) = 2 by decide), if_neg (show ¬ (4 : Int) = 3 by decide), arr_back]
              simpa using this
            · unfold rightB IZ LIt.mem
              simp only [if_neg (show ¬ (4 : Int) = 1 by decide), if_neg (show ¬ (4 : Int) = 2 by decide), if_neg (show ¬ (4 : Int) = 3 by decide), if_pos]
              have e1 := bare_arr
              have e2 := empty_arr
              simp only [nameB_arr a2, nameB_arr b2, e1, e2, Bool.and_true, List.length_nil, beq_self_eq_true]
          · cases h0
theorem sp_items : ∀ (f k m : Nat) (xs : List LIt), itemsP f l k = .good xs m → Span l k m ((xs.map IZ).flatMap tkIt) ∧ ∀ x ∈ xs, ItOk x := by
  intro f
  induction f with
  | zero => intro k m xs h; cases h
  | succ f ih =>
    intro k m xs h
    unfold itemsP at h
    split at h
    · cases h; exact ⟨Span.refl _ _, fun x hx => by cases hx⟩
    · obtain ⟨x, k1, h1, h⟩ := PR.bind_inv h
      obtain ⟨ys, k2, h2, h⟩ := PR.bind_inv h
      cases h
      obtain ⟨a1, a2⟩ := sp_item hg h1
      obtain ⟨b1, b2⟩ := ih _ _ _ h2
      refine ⟨a1.trans b1, fun y hy => ?_⟩
      rcases List.mem_cons.1 hy with rfl | hy
      · exact a2
      · exact b2 y hy
theorem sp_parse {x : LSk} {m : Nat} (h : parseP l = .good x m) : (∃ k, Span l 0 k (tkS x.mem)) ∧ nameU x.name = true ∧ ∀ y ∈ x.items, ItOk y := by
  unfold parseP at h
  obtain ⟨_, k1, h1, h⟩ := PR.bind_inv h
  obtain ⟨n, k2, h2, h⟩ := PR.bind_inv h
  obtain ⟨_, k3, h3, h⟩ := PR.bind_inv h
  obtain ⟨xs, k4, h4, h⟩ := PR.bind_inv h
  obtain ⟨_, k5, h5, h⟩ := PR.bind_inv h
  obtain ⟨_, k6, h6, h⟩ := PR.bind_inv h
  cases h
  obtain ⟨a1, a2⟩ := sp_word hg h2
  obtain ⟨b1, b2⟩ := sp_items hg _ _ _ _ h4
  refine ⟨⟨k5, ?_⟩, a2, b2⟩
  have := ((((sp_mustw hg h1).trans a1).trans (sp_must hg h3)).trans b1).trans (sp_must hg h5)
  unfold tkS LSk.mem
  simp only [arr_back]
  simpa using this
end
def slen (ts : List LTok) : Nat := (ts.map fun t => t.spelt.length).sum
theorem slen_append (a b : List LTok) : slen (a ++ b) = slen a + slen b := by unfold slen; simp
theorem slen_cons (t : LTok) (b : List LTok) : slen (t :: b) = t.spelt.length + slen b := by unfold slen; simp
theorem slen_nil : slen [] = 0 := rfl
theorem slen_bare0 (a : List LTok) : slen (a.map LTok.bare0) = slen a := by
  unfold slen; rw [List.map_map]; rfl
theorem slen_le {s : List UInt8} {l : List LTok} (h : lexA s = (l, 0, 0)) : slen l ≤ s.length := by
  obtain ⟨h1, h2, h3⟩ := places_plain h
  have key : ∀ i, i ≤ l.length → slen (l.take i) ≤ posL l i := by
    intro i
    induction i with
    | zero => intro _; simp [slen]
    | succ i ih =>
      intro hi
      have hl : i < l.length := by omega
      obtain ⟨p1, _⟩ := h1 i hl
      have h4 := ih (by omega)
      have e : posL l (i + 1) = l[i].at_ + l[i].spelt.length := by
        show (match l[i]? with | some t => t.at_ + t.spelt.length | none => 0) = _
        rw [List.getElem?_eq_getElem hl]
      rw [List.take_succ_eq_append_getElem hl, slen_append, slen_cons, slen_nil, e]
      omega
  have := key l.length (Nat.le_refl _)
  rw [List.take_length, h2] at this
  exact this
theorem wT_len (s : List UInt8) : (wT s).spelt.length = s.length := rfl
theorem mT_len (s : List UInt8) : (mT s).spelt.length = s.length := rfl
theorem nT_len (n : Int) : (nT n).spelt.length = (Lib.itoa n).length := rfl
theorem itoa_pos (n : Int) (h : BndZ n) : 1 ≤ (Lib.itoa n).length := by
  have := (right_len1 (t := nT n) (by unfold LTok.right nT; simp) h).2
  exact this
theorem nums_len2 : ∀ xs : List Int, (∀ n ∈ xs, BndZ n) → (numsW xs).length ≤ 2 * slen (numsT xs) ∧ (numsW xs).length = xs.length + slen (numsT xs) := by
  intro xs
  induction xs with
  | nil => intro _; exact ⟨Nat.le_refl _, rfl⟩
  | cons x xs ih =>
    intro h
    obtain ⟨i1, i2⟩ := ih (fun n hn => h n (List.mem_cons_of_mem _ hn))
    have h1 := itoa_pos x (h x List.mem_cons_self)
    have e : numsW (x :: xs) = 32 :: (Lib.itoa x ++ numsW xs) := by unfold numsW; simp
    have e2 : numsT (x :: xs) = nT x :: numsT xs := rfl
    rw [e, e2, slen_cons, nT_len]
    simp only [List.length_cons, List.length_append]
    omega
theorem line_len2 {x : SIt} (hr : rightB x = true) (hx : ∀ n ∈ x.xs, BndZ n) : (lineW x).length ≤ 2 * slen (tkIt x) := by
  obtain ⟨h1, _⟩ := nums_len2 x.xs hx
  unfold rightB at hr
  unfold lineW headW tkIt
  split at hr
  · rename_i hk
    rw [if_pos hk, if_pos hk]
    simp only [slen_append, slen_cons, slen_nil, wT_len, mT_len, List.length_append, List.length_cons, List.length_nil, actorW]
    omega
  · split at hr
    · rename_i h1' hk
      rw [if_neg h1', if_neg h1', if_pos hk, if_pos hk]
      unfold placeW
      by_cases hn : x.xs = []
      · rw [hn] at h1 ⊢
        simp only [slen_append, slen_cons, slen_nil, wT_len, mT_len, nT_len, List.length_append, List.length_cons, List.length_nil, edgeW, if_pos]
        omega
      · rw [if_neg hn, if_neg hn]
        simp only [slen_append, slen_cons, slen_nil, wT_len, mT_len, nT_len, List.length_append, List.length_cons, List.length_nil, edgeW, withW]
        omega
    · split at hr
      · rename_i h1' h2' hk
        rw [if_neg h1', if_neg h1', if_neg h2', if_neg h2', if_pos hk, if_pos hk]
        unfold placeW
        simp only [Bool.and_eq_true] at hr
        have hn : x.xs = [] := by have := hr.1.1.2; simpa using this
        rw [hn]
        simp only [slen_append, slen_cons, slen_nil, wT_len, mT_len, nT_len, List.length_append, List.length_cons, List.length_nil, inW, numsW, List.flatMap_nil]
        omega
      · split at hr
        · rename_i h1' h2' h3' hk
          rw [if_neg h1', if_neg h1', if_neg h2', if_neg h2', if_neg h3', if_neg h3', if_pos hk]
          unfold placeW
          simp only [Bool.and_eq_true] at hr
          have hn : x.xs = [] := by have := hr.1.1.2; simpa using this
          rw [hn]
          simp only [slen_append, slen_cons, slen_nil, wT_len, mT_len, nT_len, List.length_append, List.length_cons, List.length_nil, outW, numsW, List.flatMap_nil]
          omega
        · cases hr
theorem lines_len2 : ∀ l : List SIt, (∀ x ∈ l, rightB x = true ∧ ∀ n ∈ x.xs, BndZ n) → (l.flatMap lineW).length ≤ 2 * slen (l.flatMap tkIt) := by
  intro l
  induction l with
  | nil => intro _; exact Nat.le_refl _
  | cons x l ih =>
    intro h
    have h1 := ih (fun y hy => h y (List.mem_cons_of_mem _ hy))
    obtain ⟨a, b⟩ := h x List.mem_cons_self
    have h2 := line_len2 a b
    simp only [List.flatMap_cons, List.length_append, slen_append]
    omega
theorem item_toks {l : List SIt} {x : SIt} (h : x ∈ l) : (tkIt x).length ≤ (l.flatMap tkIt).length := by
  induction l with
  | nil => cases h
  | cons y l ih =>
    rw [List.flatMap_cons, List.length_append]
    rcases List.mem_cons.1 h with rfl | h
    · omega
    · have := ih h; omega
theorem xs_toks {x : SIt} (hr : rightB x = true) : x.xs.length ≤ (tkIt x).length ∧ 1 ≤ (tkIt x).length := by
  have e : (numsT x.xs).length = x.xs.length := by unfold numsT; simp
  unfold rightB at hr
  unfold tkIt
  split
  · simp only [List.length_append, List.length_cons, List.length_nil]; omega
  · split
    · simp only [List.length_append, List.length_cons, List.length_nil]; omega
    · rename_i h1 h2
      rw [if_neg h1, if_neg h2] at hr
      have hn : x.xs = [] := by
        split at hr
        · simp only [Bool.and_eq_true] at hr; have := hr.1.1.2; simpa using this
        · split at hr
          · simp only [Bool.and_eq_true] at hr; have := hr.1.1.2; simpa using this
          · cases hr
      rw [hn]
      split <;> simp
theorem items_toks : ∀ l : List SIt, (∀ x ∈ l, rightB x = true) → l.length ≤ (l.flatMap tkIt).length := by
  intro l
  induction l with
  | nil => intro _; exact Nat.le_refl _
  | cons x l ih =>
    intro h
    have h1 := ih (fun y hy => h y (List.mem_cons_of_mem _ hy))
    have h2 := (xs_toks (h x List.mem_cons_self)).2
    rw [List.flatMap_cons, List.length_append, List.length_cons]
    omega
structure ReadOk (x : LSk) (n : Nat) : Prop where
  nm : nameB x.mem.name = true
  rt : x.mem.items.all rightB = true
  bd : ∀ y ∈ x.mem.items, BndZ y.fp ∧ BndZ y.tp ∧ ∀ m ∈ y.xs, BndZ m
  ln : (printW x.mem).length ≤ 2 * n
  it : x.items.length ≤ n + 1
  xl : ∀ y ∈ x.items, y.xs.length ≤ n + 1
theorem name_len16 {s : List UInt8} (h : nameU s = true) : s.length ≤ 16 := by
  cases s with
  | nil => simp
  | cons c r =>
    simp only [nameU, Bool.and_eq_true, decide_eq_true_iff] at h
    have := h.2.2
    simp only [List.length_cons]; omega
theorem read_ok {s : List UInt8} {x : LSk} (h : parseA s = .ok x) : ReadOk x s.length ∧ s.length ≤ 1048576 := by
  have hlen : s.length ≤ 1048576 := by
    unfold parseA at h
    obtain ⟨⟨l, c, k'⟩, hA⟩ : ∃ r, lexA s = r := ⟨_, rfl⟩
    rw [hA] at h
    simp only at h
    split at h
    · cases h
    · rename_i hc
      rcases lexA_code hA with ⟨_, _, _, e, _⟩ | ⟨⟨e, _⟩ | ⟨e, _⟩, _⟩ <;> omega
  refine ⟨?_, hlen⟩
  unfold parseA at h
  obtain ⟨⟨l, c, k'⟩, hA⟩ : ∃ r, lexA s = r := ⟨_, rfl⟩
  rw [hA] at h
  simp only at h
  split at h
  · cases h
  · rename_i hc
    have hA : lexA s = (l, 0, 0) := by
      rcases lexA_code hA with ⟨rfl, rfl, _⟩ | ⟨⟨e, _⟩ | ⟨e, _⟩, _⟩
      · exact hA
      · omega
      · omega
    split at h
    · rename_i z m hp
      cases h
      have hg := good_of hA
      obtain ⟨⟨k, hsp⟩, hn, hit⟩ := sp_parse hg hp
      have hs1 : slen (tkS x.mem) ≤ s.length := by
        have e := hsp.2
        rw [List.drop_zero] at e
        have := congrArg slen e
        rw [slen_bare0, slen_append] at this
        have h2 := slen_le hA
        omega
      have htl : (tkS x.mem).length ≤ s.length + 1 := by
        have h1 := hsp.le (Nat.zero_le _)
        have h2 := (lexA_count (l := s)).2
        rw [hA] at h2
        simp only at h2
        omega
      have hrt : ∀ y ∈ x.mem.items, rightB y = true ∧ ∀ n ∈ y.xs, BndZ n := by
        intro y hy
        obtain ⟨z, hz, rfl⟩ := List.mem_map.1 hy
        exact ⟨(hit z hz).rt, (hit z hz).xs⟩
      have hfl : (x.mem.items.flatMap tkIt).length ≤ s.length + 1 := by
        unfold tkS at htl
        simp only [List.length_append, List.length_cons, List.length_nil] at htl
        omega
      refine ⟨nameB_arr hn, ?_, ?_, ?_, ?_, ?_⟩
      · rw [List.all_eq_true]; exact fun y hy => (hrt y hy).1
      · intro y hy
        obtain ⟨z, hz, rfl⟩ := List.mem_map.1 hy
        exact ⟨(hit z hz).fp, (hit z hz).tp, (hit z hz).xs⟩
      · have h1 := lines_len2 x.mem.items hrt
        unfold tkS at hs1
        unfold printW
        simp only [slen_append, slen_cons, slen_nil, wT_len, mT_len, graphW, List.length_append, List.length_cons, List.length_nil] at hs1 ⊢
        have h2 : 1 ≤ x.mem.name.data.toList.length := by
          have e : x.mem.name.data.toList = x.name := by unfold LSk.mem; simp
          rw [e]
          cases hx : x.name with
          | nil => rw [hx] at hn; cases hn
          | cons c r => simp
        omega
      · have h1 := items_toks x.mem.items (fun y hy => (hrt y hy).1)
        have e : x.mem.items.length = x.items.length := by unfold LSk.mem; simp
        omega
      · intro y hy
        have hm : IZ y ∈ x.mem.items := List.mem_map.2 ⟨y, hy, rfl⟩
        have h1 := item_toks hm
        have h2 := (xs_toks (hrt _ hm).1).1
        have e : (IZ y).xs = y.xs := rfl
        rw [e] at h2
        omega
    · cases h
theorem ReadOk.bnd {x : LSk} {n : Nat} (h : ReadOk x n) (hn : n ≤ 1048576) : LBnd x := by
  have hsz : ∀ s : ByteArray, nameB s = true → s.data.toList.length ≤ 16 := fun s hs => name_len16 (by rw [← nameB_eq]; exact hs)
  have hem : ∀ s : ByteArray, emptyB s = true → s.data.toList.length ≤ 16 := fun s hs => by rw [emptyB_list0 hs]; simp
  have hba : ∀ (s : ByteArray) (p : Int), bareB s p = true → s.data.toList.length ≤ 16 := fun s p hs => by rw [(bare_zero hs).1]; simp
  refine ⟨?_, ?_, fun y hy => ?_, fun y hy => ?_⟩
  · have := hsz _ h.nm
    have e : x.mem.name.data.toList = x.name := by unfold LSk.mem; simp
    rw [e] at this; omega
  · have := h.it; omega
  · have hm : IZ y ∈ x.mem.items := List.mem_map.2 ⟨y, hy, rfl⟩
    have hr := List.all_eq_true.1 h.rt _ hm
    have hx := h.xl y hy
    have e1 : (IZ y).name.data.toList = y.name := by unfold IZ LIt.mem; simp
    have e2 : (IZ y).tag.data.toList = y.tag := by unfold IZ LIt.mem; simp
    have e3 : (IZ y).fn.data.toList = y.fr.name := by unfold IZ LIt.mem; simp
    have e4 : (IZ y).tn.data.toList = y.tu.name := by unfold IZ LIt.mem; simp
    rw [← e1, ← e2, ← e3, ← e4]
    have key : (IZ y).name.data.toList.length ≤ 16 ∧ (IZ y).tag.data.toList.length ≤ 16 ∧ (IZ y).fn.data.toList.length ≤ 16 ∧ (IZ y).tn.data.toList.length ≤ 16 := by
      unfold rightB at hr
      split at hr
      · simp only [Bool.and_eq_true] at hr
        exact ⟨hsz _ hr.1.1.1, hsz _ hr.1.1.2, hba _ _ hr.1.2, hba _ _ hr.2⟩
      · split at hr
        · simp only [Bool.and_eq_true] at hr
          exact ⟨hem _ hr.1.1.1, hem _ hr.1.1.2, hsz _ hr.1.2, hsz _ hr.2⟩
        · split at hr
          · simp only [Bool.and_eq_true] at hr
            exact ⟨hsz _ hr.1.1.1.1, hem _ hr.1.1.1.2, hba _ _ hr.1.2, hsz _ hr.2⟩
          · split at hr
            · simp only [Bool.and_eq_true] at hr
              exact ⟨hsz _ hr.1.1.1.1, hem _ hr.1.1.1.2, hsz _ hr.1.2, hba _ _ hr.2⟩
            · cases hr
    omega
  · have hm : IZ y ∈ x.mem.items := List.mem_map.2 ⟨y, hy, rfl⟩
    obtain ⟨a, b, c⟩ := h.bd _ hm
    exact ⟨a, b, c⟩
end Go.Proofs.YtnedmonlofbahaaGreatDoor
