/-
  Layer 5, the program's side: Print.
-/
import Derived.Test.YtohalcbhckahmaaDoorSkI
import Derived.Test.YtohalcbhckahmaaDoorSkE
namespace Go.Proofs.YtohalcbhckahmaaDoor
open Go Go.RowKit Go.Joins
set_option linter.all false

/-- Sizes and bounds of a sketch that may be handed in. -/
structure SBnd (s : Sk) : Prop where
  n : s.name.size ≤ 9223372036854775807
  i : s.items.length ≤ 9223372036854775807
  sz : ∀ x ∈ s.items, ISz x
  bd : ∀ x ∈ s.items, IBnd x
theorem all_take {l : List SIt} {k : Nat} (h : (l.take k).all rightB = true) (hk : k < l.length) (hr : rightB l[k] = true) : (l.take (k + 1)).all rightB = true := by
  rw [List.take_succ_eq_append_getElem hk, List.all_append, h]
  simp [hr]
theorem all_not {l : List SIt} {k : Nat} (hk : k < l.length) (hr : rightB l[k] = false) : l.all rightB = false := by
  cases h : l.all rightB with
  | false => rfl
  | true => exact absurd (List.all_eq_true.1 h _ (List.getElem_mem hk)) (by rw [hr]; decide)
def headS (s : Sk) : List UInt8 := [103, 114, 97, 112, 104, 32] ++ s.name.data.toList ++ [32, 123, 10]
theorem printW_eq (s : Sk) : printW s = headS s ++ s.items.flatMap lineW ++ [125, 10] := rfl
theorem line_pre (l : List SIt) (k : Nat) : (l.take k).flatMap lineW <+: l.flatMap lineW := by
  conv => rhs; rw [← List.take_append_drop k l]
  rw [List.flatMap_append]
  exact List.prefix_append _ _
theorem line_succ (l : List SIt) (k : Nat) (h : k < l.length) : (l.take (k + 1)).flatMap lineW = (l.take k).flatMap lineW ++ lineW l[k] := by
  rw [List.take_succ_eq_append_getElem h, List.flatMap_append]
  simp
/-- How far the text has come. -/
def Far (s : Sk) (k : Nat) (L : List UInt8) : Prop := (L = headS s ++ (s.items.take k).flatMap lineW ∨ 1048576 < L.length) ∧ L <+: headS s ++ (s.items.take k).flatMap lineW ∧ L.length ≤ 1048800
theorem Far.big {s : Sk} {k : Nat} {L : List UInt8} (h : Far s k L) (hL : 1048576 < L.length) : 1048576 < (printW s).length := by
  have h1 := h.2.1.length_le
  have h2 := (line_pre s.items k).length_le
  rw [printW_eq]
  simp only [List.length_append] at h1 ⊢
  omega
theorem Far.next {s : Sk} {k : Nat} {L : List UInt8} (h : Far s k L) (hL : ¬ 1048576 < L.length) (hk : k < s.items.length) {l' : List UInt8} (h1 : l' <+: lineW s.items[k]) (h2 : l' = lineW s.items[k] ∨ 1048576 < (L ++ l').length) (h3 : (L ++ l').length ≤ 1048800) : Far s (k + 1) (L ++ l') := by
  have e : L = headS s ++ (s.items.take k).flatMap lineW := by
    rcases h.1 with e | e
    · exact e
    · exact absurd e hL
  rw [Far, line_succ _ _ hk]
  refine ⟨?_, ?_, h3⟩
  · rcases h2 with rfl | h2
    · exact .inl (by rw [e, List.append_assoc])
    · exact .inr h2
  · rw [← List.append_assoc, ← e]
    exact (List.prefix_append_right_inj L).2 h1
theorem Far.done {s : Sk} {L : List UInt8} (h : Far s s.items.length L) : (L ++ [125, 10] = printW s ∨ 1048576 < L.length) := by
  rcases h.1 with e | e
  · left; rw [e, List.take_length]; rfl
  · exact .inr e
set_option maxRecDepth 100000 in
set_option maxHeartbeats 8000000 in
theorem print_any (w : World) (s : Sk) (he : Env w) (h : SkAt w s) (hd : SBnd s) :
    Calls Tryd.prog 18 #[s.v] w fun e w' => e = .returned (.tuple #[.string ⟨(printA s).1.toArray⟩, I (printA s).2]) ∧ New w w' := by
  obtain ⟨name, ia, ic, items⟩ := s
  have nb : New w (w.alloc (.cells #[.string name, .slice ia items.length ic] 24)) := (New.refl w).alloc _
  have hbk : (w.alloc (.cells #[.string name, .slice ia items.length ic] 24)).heap[w.heap.size]? = some (.cells #[.string name, .slice ia items.length ic] 24 (0, 0)) := heap_alloc_new w _
  obtain ⟨c0, c1, -, -, hX⟩ := sk_get hbk
  have hnm := cname_any (w.alloc (.cells #[.string name, .slice ia items.length ic] 24)) name hd.n
  have hil := hd.i
  simp only at hil
  have HBK := Lib.hid hbk
  have HB := Lib.hid nb
  have H := Lib.hid h
  have HD := Lib.hid hd
  obtain ⟨PO, hPO⟩ : ∃ PO : Ending → World → Prop, PO = fun e w' => e = .returned (.tuple #[.string ⟨(printA ⟨name, ia, ic, items⟩).1.toArray⟩, I (printA ⟨name, ia, ic, items⟩).2]) ∧ New w w' := ⟨_, rfl⟩
  have HPO := Lib.hid hPO
  show Calls Tryd.prog 18 #[.agg #[.string name, .slice ia items.length ic]] w _
  rw [← hPO]
  clear hPO h hd nb hbk
  cases hn : nameB name with
  | false =>
    rw [hn] at hnm
    have hpa : printA ⟨name, ia, ic, items⟩ = ([], 1) := by unfold printA; rw [if_pos (by simp [hn])]
    have HPA := Lib.hid hpa
    clear hpa hn
    go_enter Tryd.func18, Tryd.ntmps18
    go_wp2_with fail
    refine hnm.mono ?_
    rintro e w1 ⟨rfl, n1⟩
    go_wp2_with fail
    rw [HPO.out]
    exact ⟨(show Ending.returned (.tuple #[.string ⟨#[]⟩, I 1]) = _ by rw [HPA.out]), HB.out.trans n1⟩
  | true =>
    rw [hn] at hnm
    have hn16 := nameB_size hn
    have HNM := Lib.hid hn
    clear hn
    go_enter Tryd.func18, Tryd.ntmps18
    go_wp2_with fail
    refine hnm.mono ?_
    rintro e w1 ⟨rfl, n1⟩
    have NW := Lib.hid (HB.out.trans n1)
    have hbk := Keeps.heap n1 HBK.out (fun h => h)
    obtain ⟨d0, d1, -, -, hX1⟩ := sk_get hbk
    have HBK1 := Lib.hid hbk
    clear hnm hbk n1 c0 c1 hX HBK
    go_wp2_with fail
    go_loopw [16] (fun i wr => ∃ k : Nat, k ≤ items.length ∧ i = .int .i64 k ∧ Hid (New w1 wr) ∧ Hid ((items.take k).all rightB = true)) (fun i _ => items.length - (intOf i).toNat)
    case atStart => exact ⟨0, by omega, rfl, Lib.hid (New.refl _), Lib.hid (by simp)⟩
    case round =>
      obtain ⟨k, hk, rfl, HN, HR⟩ := hrel
      by_cases hk1 : k < items.length
      · have hkI : (k : Int) < (items.length : Int) := by omega
        have hkd : decide (k < items.length) = true := decide_eq_true hk1
        have hnw := NW.out.trans HN.out
        obtain ⟨bb, off, hab, q0, q1, q2, q3, q4, q5, q6, q7, q8, q9, q10⟩ := items_row (H.out.new hnw).sl hk1
        have hisz := HD.out.sz _ (List.getElem_mem hk1)
        have hibd := (HD.out.bd _ (List.getElem_mem hk1)).ln
        have hat := @all_take items k HR.out hk1
        have han := @all_not items k hk1
        simp only at hab q0 q1 q2 q3 q4 q5 q6 q7 q8 q9 q10
        subst hab
        generalize items[k] = y at q0 q1 q2 q3 q4 q5 q6 q7 q8 q9 q10 hisz hibd hat han
        obtain ⟨kd, nm, tg, sa, sc, xs, fn, fp, fa, tn, tp, ta, at_⟩ := y
        simp only at q0 q1 q2 q3 q4 q5 q6 q7 q8 q9 q10 hibd
        have hbw := World.block_lt_of_cell? wr _ q0
        have nX : New wr (wr.alloc (.cells #[.int .u8 kd, .string nm, .string tg, .slice sa xs.length sc, .string fn, I fp, I fa, .string tn, I tp, I ta, I at_] ItT)) := (New.refl _).alloc _
        obtain ⟨⟨x0, x1, x2, x3, x4, x5, x6, x7, x8, x9, x10⟩, -, hXX⟩ := it_get (heap_alloc_new wr (.cells #[.int .u8 kd, .string nm, .string tg, .slice sa xs.length sc, .string fn, I fp, I fa, .string tn, I tp, I ta, I at_] ItT))
        have hri := right_any_sk (wr.alloc (.cells #[.int .u8 kd, .string nm, .string tg, .slice sa xs.length sc, .string fn, I fp, I fa, .string tn, I tp, I ta, I at_] ItT)) (⟨kd, nm, tg, sa, sc, xs, fn, fp, fa, tn, tp, ta, at_⟩ : SIt) hisz hibd
        have HAT := Lib.hid hat
        have HAN := Lib.hid han
        obtain ⟨rb, hrb⟩ : ∃ r, rightB (⟨kd, nm, tg, sa, sc, xs, fn, fp, fa, tn, tp, ta, at_⟩ : SIt) = r := ⟨_, rfl⟩
        rw [hrb] at hri
        have HRB := Lib.hid hrb
        have NX := Lib.hid nX
        clear hisz hat han hrb nX
        cases rb with
        | false =>
          have hpa : printA ⟨name, some ⟨bb, off, none⟩, ic, items⟩ = ([], 1) := by unfold printA; rw [if_pos (by simp only [HAN.out HRB.out, Bool.and_false])]
          have HPA := Lib.hid hpa
          clear hpa
          go_wp2_with fail
          refine hri.mono ?_
          rintro e w2 ⟨rfl, n2⟩
          go_wp2_with fail
          rw [HPO.out]
          exact ⟨(show Ending.returned (.tuple #[.string ⟨#[]⟩, I 1]) = _ by rw [HPA.out]), (hnw.trans NX.out).trans n2⟩
        | true =>
          go_wp2_with fail
          refine hri.mono ?_
          rintro e w2 ⟨rfl, n2⟩
          have HN2 := Lib.hid ((HN.out.trans NX.out).trans n2)
          clear hri n2 hnw
          go_wp2_with fail
          go_roundw
          case rel => exact ⟨k + 1, by omega, by go_num, HN2, Lib.hid (HAT.out HRB.out)⟩
          case measure => simp [intOf]; omega
      · have hke : k = items.length := by omega
        have hkd : decide (k < items.length) = false := decide_eq_false hk1
        have hk9 : ¬ (k : Int) < (items.length : Int) := by omega
        have HALL : Hid (items.all rightB = true) := Lib.hid (by have h1 := HR.out; rw [hke, List.take_length] at h1; exact h1)
        clear hke
        obtain ⟨wo, hwo⟩ : ∃ wo : World, wo = wr := ⟨_, rfl⟩
        rw [← hwo] at HN ⊢
        clear hwo HR hk hk1
        have hnwo := NW.out.trans HN.out
        have heo := Lib.hid (he.new hnwo)
        have hbk := Keeps.heap HN.out HBK1.out (fun h => h)
        have nB : New wo (wo.alloc (.cells #[.pointer none, .slice none 0 0] 74)) := (New.refl _).alloc _
        have hbk2 := Keeps.heap nB hbk (fun h => h)
        obtain ⟨e0, e1, -, -, hX2⟩ := sk_get hbk2
        have HBK2 := Lib.hid hbk2
        have hbd := Bd.start wo
        obtain ⟨S1, hS1⟩ : ∃ X, (⟨#[103, 114, 97, 112, 104, 32]⟩ : ByteArray) ++ name = X := ⟨_, rfl⟩
        have hzS1 : S1.size ≤ 22 := by
          have h1 : ((⟨#[103, 114, 97, 112, 104, 32]⟩ : ByteArray)).size ≤ 6 := (by decide)
          have h2 : (name).size ≤ 16 := hn16
          rw [← hS1, ByteArray.size_append]; omega
        have lS1 : S1.data.toList = ((⟨#[103, 114, 97, 112, 104, 32]⟩ : ByteArray)).data.toList ++ (name).data.toList := by rw [← hS1, ByteArray.data_append, Array.toList_append]
        have addS1 : ∀ w : World, (Op.stringOp .add ((⟨#[103, 114, 97, 112, 104, 32]⟩ : ByteArray)) (name)).run Tryd.prog w = .ok (.string S1) w := fun w => by
          have h1 : ((⟨#[103, 114, 97, 112, 104, 32]⟩ : ByteArray)).size ≤ 6 := (by decide)
          have h2 : (name).size ≤ 16 := hn16
          rw [← hS1]; exact run_string_add_sum w _ _ (by omega)
        clear hS1
        obtain ⟨S2, hS2⟩ : ∃ X, S1 ++ (⟨#[32, 123, 10]⟩ : ByteArray) = X := ⟨_, rfl⟩
        have hzS2 : S2.size ≤ 25 := by
          have h1 : (S1).size ≤ 22 := hzS1
          have h2 : ((⟨#[32, 123, 10]⟩ : ByteArray)).size ≤ 3 := (by decide)
          rw [← hS2, ByteArray.size_append]; omega
        have lS2 : S2.data.toList = (S1).data.toList ++ ((⟨#[32, 123, 10]⟩ : ByteArray)).data.toList := by rw [← hS2, ByteArray.data_append, Array.toList_append]
        have addS2 : ∀ w : World, (Op.stringOp .add (S1) ((⟨#[32, 123, 10]⟩ : ByteArray))).run Tryd.prog w = .ok (.string S2) w := fun w => by
          have h1 : (S1).size ≤ 22 := hzS1
          have h2 : ((⟨#[32, 123, 10]⟩ : ByteArray)).size ≤ 3 := (by decide)
          rw [← hS2]; exact run_string_add_sum w _ _ (by omega)
        clear hS2
        have hwo2 : wo.heap.size ≤ (wo.alloc (.cells #[.pointer none, .slice none 0 0] 74)).heap.size := nB.size
        have hw := wstr_any _ wo.heap.size wo.heap.size [] S2 hbd (by simp only [List.length_nil]; omega) hwo2
        have HSL : Hid ([] ++ S2.data.toList = headS ⟨name, ia, ic, items⟩) := Lib.hid (by rw [lS2, lS1]; rfl)
        have HSZ := Lib.hid hzS2
        have NB := Lib.hid nB
        have NWO := Lib.hid hnwo
        clear hbk hbk2 hbd nB d0 d1 hX1 HBK1 hzS1 hzS2 lS1 lS2 hnwo
        go_wp2_with fail
        refine hw.mono ?_
        rintro e w2 ⟨rfl, b2, k2⟩
        clear hkd hk9
        have hbk2 := k2.heap HBK2.out rfl
        obtain ⟨f0, f1, -, -, hX3⟩ := sk_get hbk2
        have HBB := Lib.hid b2
        have HKK := Lib.hid k2
        have HFAR : Hid (Far ⟨name, ia, ic, items⟩ 0 ([] ++ S2.data.toList)) := Lib.hid (by
          rw [HSL.out]
          refine ⟨.inl (by simp), by simp, ?_⟩
          rw [← HSL.out, List.nil_append, toList_len]
          have := HSZ.out
          omega)
        clear hw b2 k2 hbk2 e0 e1 hX2 HBK2
        obtain ⟨BB, hBB⟩ : ∃ BB, BB = wo.heap.size := ⟨_, rfl⟩
        have hBBle : wo.heap.size ≤ BB := by omega
        rw [← hBB] at HBB HKK ⊢
        have HBE := Lib.hid hBB
        clear hBB
        go_wp2_with fail
        go_loopw [32] (fun i wr => ∃ (k : Nat) (L : List UInt8), k ≤ items.length ∧ i = .int .i64 k ∧ Hid (Bd wr BB BB L ∧ KZ BB (wo.alloc (.cells #[.pointer none, .slice none 0 0] 74)) wr) ∧ Hid (Far ⟨name, ia, ic, items⟩ k L)) (fun i _ => items.length - (intOf i).toNat)
        case atStart => exact ⟨0, _, by omega, rfl, Lib.hid ⟨HBB.out, HKK.out⟩, HFAR⟩
        case round =>
          clear HBB HKK HFAR f0 f1 hX3
          obtain ⟨k, L, hk, rfl, HS, HF⟩ := hrel
          have HNO : Hid (New wo wr) := Lib.hid (KZ.nw HS.out.2 hBBle NB.out)
          by_cases hk1 : k < items.length
          · have hkI : (k : Int) < (items.length : Int) := by omega
            have hkd : decide (k < items.length) = true := decide_eq_true hk1
            obtain ⟨bb, off, hab, q0, q1, q2, q3, q4, q5, q6, q7, q8, q9, q10⟩ := items_row (H.out.new (NWO.out.trans HNO.out)).sl hk1
            have hibd := HD.out.bd _ (List.getElem_mem hk1)
            have hnx := (H.out.new NWO.out).nx _ (List.getElem_mem hk1)
            have hright := List.all_eq_true.1 HALL.out _ (List.getElem_mem hk1)
            simp only at hab q0 q1 q2 q3 q4 q5 q6 q7 q8 q9 q10
            have HNEXT := Lib.hid (@Far.next ⟨name, ia, ic, items⟩ k L HF.out)
            have HBIG := Lib.hid (@Far.big ⟨name, ia, ic, items⟩ k L HF.out)
            have HAB := Lib.hid hab
            obtain ⟨y, hy⟩ : ∃ y, items[k] = y := ⟨_, rfl⟩
            have HY := Lib.hid hy
            rw [hy] at q0 q1 q2 q3 q4 q5 q6 q7 q8 q9 q10 hibd hnx hright
            clear hy
            obtain ⟨kd, nm, tg, sa, sc, xs, fn, fp, fa, tn, tp, ta, at_⟩ := y
            simp only at q0 q1 q2 q3 q4 q5 q6 q7 q8 q9 q10
            have hbw := World.block_lt_of_cell? wr _ q0
            have nX : New wr (wr.alloc (.cells #[.int .u8 kd, .string nm, .string tg, .slice sa xs.length sc, .string fn, I fp, I fa, .string tn, I tp, I ta, I at_] ItT)) := (New.refl _).alloc _
            obtain ⟨⟨x0, x1, x2, x3, x4, x5, x6, x7, x8, x9, x10⟩, -, hXX⟩ := it_get (heap_alloc_new wr (.cells #[.int .u8 kd, .string nm, .string tg, .slice sa xs.length sc, .string fn, I fp, I fa, .string tn, I tp, I ta, I at_] ItT))
            have hlen := blen_any (wr.alloc (.cells #[.int .u8 kd, .string nm, .string tg, .slice sa xs.length sc, .string fn, I fp, I fa, .string tn, I tp, I ta, I at_] ItT)) BB BB L (HS.out.1.new nX)
            have NX := Lib.hid nX
            obtain ⟨m, hm⟩ : ∃ m, L.length = m := ⟨_, rfl⟩
            rw [hm] at hlen
            have HM := Lib.hid hm
            have HIB := Lib.hid hibd
            have HNXX := Lib.hid hnx
            have HRT := Lib.hid hright
            clear hab nX hm hibd hnx hright
            by_cases hbig : 1048576 < m
            · have hbI : (1048576 : Int) < (m : Int) := by omega
              have hpa : printA ⟨name, ia, ic, items⟩ = ([], 2) := by
                unfold printA
                rw [if_neg (by simp only [HNM.out, HALL.out]; decide), if_pos (HBIG.out (by rw [HM.out]; exact hbig))]
              have HPA := Lib.hid hpa
              clear hpa hbig
              rw [HAB.out]
              go_wp2_with fail
              refine hlen.mono ?_
              rintro e w3 ⟨rfl, rfl⟩
              go_wp2_with fail
              rw [HPO.out]
              exact ⟨(show Ending.returned (.tuple #[.string ⟨#[]⟩, I 2]) = _ by rw [HPA.out]), (NWO.out.trans HNO.out).trans NX.out⟩
            · have hbI : ¬ (1048576 : Int) < (m : Int) := by omega
              have HNB := Lib.hid hbig
              have hwr := write_any wo (wr.alloc (.cells #[.int .u8 kd, .string nm, .string tg, .slice sa xs.length sc, .string fn, I fp, I fa, .string tn, I tp, I ta, I at_] ItT)) BB BB L heo.out hBBle (HNO.out.trans NX.out) (HS.out.1.new NX.out) (⟨kd, nm, tg, sa, sc, xs, fn, fp, fa, tn, tp, ta, at_⟩ : SIt) HNXX.out HRT.out HIB.out (by rw [HM.out]; omega)
              clear hbig
              rw [HAB.out]
              go_wp2_with fail
              refine hlen.mono ?_
              rintro e w3 ⟨rfl, rfl⟩
              go_wp2_with fail
              refine hwr.mono ?_
              rintro e w4 ⟨rfl, k4, l', b4, p4, q4, z4⟩
              have HS4 := Lib.hid (And.intro b4 ((HS.out.2.trans (KY.of_new NX.out)).trans k4))
              have HF4 : Hid (Far ⟨name, ia, ic, items⟩ (k + 1) (L ++ l')) := Lib.hid (HNEXT.out (by rw [HM.out]; exact HNB.out) hk1 (by rw [HY.out]; exact p4) (by rw [HY.out]; exact q4) z4)
              clear hwr hlen b4 k4 p4 q4 z4 x0 x1 x2 x3 x4 x5 x6 x7 x8 x9 x10
              go_wp2_with fail
              go_roundw
              case rel => exact ⟨k + 1, L ++ l', by omega, by go_num, HS4, HF4⟩
              case measure => simp [intOf]; omega
          · have hke : k = items.length := by omega
            have hkd : decide (k < items.length) = false := decide_eq_false hk1
            have hk9 : ¬ (k : Int) < (items.length : Int) := by omega
            have HFE : Hid (Far ⟨name, ia, ic, items⟩ items.length L) := Lib.hid (by rw [← hke]; exact HF.out)
            have hlt := HS.out.1.lt
            have hw := wstr_any wr BB BB L (⟨#[125, 10]⟩ : ByteArray) HS.out.1 (by have := HFE.out.2.2; show _ + 2 ≤ _; omega) hlt.2
            clear hke
            go_wp2_with fail
            refine hw.mono ?_
            rintro e w3 ⟨rfl, b3, k3⟩
            have b3 : Bd w3 BB BB (L ++ [125, 10]) := b3
            have hlen := blen_any w3 BB BB _ b3
            have hst := bstr_any w3 BB BB _ b3 b3.lt.2
            have NW3 := Lib.hid (NWO.out.trans (KZ.nw (HS.out.2.trans k3) hBBle NB.out))
            obtain ⟨m, hm⟩ : ∃ m, (L ++ [125, 10]).length = m := ⟨_, rfl⟩
            rw [hm] at hlen
            have HM := Lib.hid hm
            have hwle : w.heap.size ≤ BB := Nat.le_trans NWO.out.size hBBle
            clear hw k3 b3 hm
            by_cases hbig : 1048576 < m
            · have hbI : (1048576 : Int) < (m : Int) := by omega
              have hpa : printA ⟨name, ia, ic, items⟩ = ([], 2) := by
                unfold printA
                rw [if_neg (by simp only [HNM.out, HALL.out]; decide), if_pos]
                rcases HFE.out.done with e | e
                · rw [← e, HM.out]; exact hbig
                · exact HFE.out.big e
              have HPA := Lib.hid hpa
              clear hpa hbig
              go_wp2_with fail
              refine hlen.mono ?_
              rintro e w4 ⟨rfl, rfl⟩
              go_wp2_with fail
              rw [HPO.out]
              exact ⟨(show Ending.returned (.tuple #[.string ⟨#[]⟩, I 2]) = _ by rw [HPA.out]), NW3.out⟩
            · have hbI : ¬ (1048576 : Int) < (m : Int) := by omega
              have hLP : L ++ [125, 10] = printW ⟨name, ia, ic, items⟩ := by
                rcases HFE.out.done with e | e
                · exact e
                · have := HM.out; rw [List.length_append] at this; omega
              have hpa : printA ⟨name, ia, ic, items⟩ = (L ++ [125, 10], 0) := by
                unfold printA
                rw [if_neg (by simp only [HNM.out, HALL.out]; decide), if_neg (by rw [← hLP, HM.out]; exact hbig), ← hLP]
              have HPA := Lib.hid hpa
              obtain ⟨X, hXX⟩ : ∃ X : ByteArray, (⟨(L ++ [125, 10]).toArray⟩ : ByteArray) = X := ⟨_, rfl⟩
              rw [hXX] at hst
              have HXX := Lib.hid hXX
              clear hpa hbig hLP hXX
              go_wp2_with fail
              refine hlen.mono ?_
              rintro e w4 ⟨rfl, rfl⟩
              go_wp2_with fail
              refine hst.mono ?_
              rintro e w5 ⟨rfl, k5⟩
              go_wp2_with fail
              rw [HPO.out]
              refine ⟨(show Ending.returned (.tuple #[.string X, I 0]) = _ by rw [HPA.out, HXX.out]), ?_⟩
              have kk : Keeps (fun i => BB ≤ i) w4 w5 := ⟨k5.os, k5.tape, k5.output, k5.size, fun i hi hn => k5.block i (by omega)⟩
              exact NW3.out.keeps kk (fun i hi h => by omega)
end Go.Proofs.YtohalcbhckahmaaDoor
