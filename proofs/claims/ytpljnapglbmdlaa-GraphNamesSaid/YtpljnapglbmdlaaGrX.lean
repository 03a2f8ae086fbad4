/-
  Layer 8: where a spot stands in a sketch.
-/
import Derived.Test.YtpljnapglbmdlaaGrW
namespace Go.Proofs.Ytpljnapglbmdlaa
open Go Go.RowKit Go.Joins
set_option linter.all false

abbrev itA (x : SIt) : Array Value := #[.int .u8 x.kind, .string x.name, .string x.tag, .slice x.a x.xs.length x.c, .string x.fn, I x.fp, I x.fa, .string x.tn, I x.tp, I x.ta, I x.at_]
theorem it_cells {w : World} {C : Nat} {x : SIt} (h : w.heap[C]? = some (.cells (itA x) 45 (0, 0))) :
    (w.cell? ⟨C, 0, none⟩ = some (.int .u8 x.kind) ∧ w.cell? ⟨C, 1, none⟩ = some (.string x.name) ∧ w.cell? ⟨C, 2, none⟩ = some (.string x.tag) ∧ w.cell? ⟨C, 3, none⟩ = some (.slice x.a x.xs.length x.c) ∧ w.cell? ⟨C, 4, none⟩ = some (.string x.fn) ∧ w.cell? ⟨C, 5, none⟩ = some (I x.fp) ∧
    w.cell? ⟨C, 6, none⟩ = some (I x.fa) ∧ w.cell? ⟨C, 7, none⟩ = some (.string x.tn) ∧ w.cell? ⟨C, 8, none⟩ = some (I x.tp) ∧ w.cell? ⟨C, 9, none⟩ = some (I x.ta) ∧ w.cell? ⟨C, 10, none⟩ = some (I x.at_)) ∧ C < w.heap.size := by
  refine ⟨⟨?_, ?_, ?_, ?_, ?_, ?_, ?_, ?_, ?_, ?_, ?_⟩, (Array.getElem?_eq_some_iff.1 h).1⟩
  all_goals rw [cell_of_block h]; rfl
theorem items_row {w : World} {ao : Option Addr} {l : List SIt} (h : SlAt w ao (l.flatMap itCells)) {i : Nat} (hi : i < l.length) :
    ∃ b off, ao = some ⟨b, off, none⟩ ∧ w.cell? ⟨b, off + i * 11, none⟩ = some (.int .u8 l[i].kind) ∧ w.cell? ⟨b, off + i * 11 + 1, none⟩ = some (.string l[i].name) ∧ w.cell? ⟨b, off + i * 11 + 2, none⟩ = some (.string l[i].tag) ∧ w.cell? ⟨b, off + i * 11 + 3, none⟩ = some (.slice l[i].a l[i].xs.length l[i].c) ∧
      w.cell? ⟨b, off + i * 11 + 4, none⟩ = some (.string l[i].fn) ∧ w.cell? ⟨b, off + i * 11 + 5, none⟩ = some (I l[i].fp) ∧ w.cell? ⟨b, off + i * 11 + 6, none⟩ = some (I l[i].fa) ∧ w.cell? ⟨b, off + i * 11 + 7, none⟩ = some (.string l[i].tn) ∧ w.cell? ⟨b, off + i * 11 + 8, none⟩ = some (I l[i].tp) ∧ w.cell? ⟨b, off + i * 11 + 9, none⟩ = some (I l[i].ta) ∧ w.cell? ⟨b, off + i * 11 + 10, none⟩ = some (I l[i].at_) := by
  obtain ⟨b, off, e, k⟩ := items_at h hi
  exact ⟨b, off, e, k 0 (by decide), k 1 (by decide), k 2 (by decide), k 3 (by decide), k 4 (by decide), k 5 (by decide), k 6 (by decide), k 7 (by decide), k 8 (by decide), k 9 (by decide), k 10 (by decide)⟩
theorem ofK_take {kd : Int} {l : List SIt} {k : Nat} (hk : k < l.length) : ofK kd (l.take (k + 1)) = if l[k].kind = kd then ofK kd (l.take k) ++ [l[k]] else ofK kd (l.take k) := by
  rw [List.take_succ_eq_append_getElem hk, ofK_snoc]
theorem place_hit {kd i d : Int} {l : List SIt} {k : Nat} (hk : k < l.length) (hkd : l[k].kind = kd) (hi : ((ofK kd (l.take k)).length : Int) = i) : placeS l kd i d = if d = 1 then l[k].fa else if d = 2 then l[k].ta else l[k].at_ := by
  unfold placeS
  have e : l = l.take k ++ l[k] :: l.drop (k + 1) := by rw [List.getElem_cons_drop]; exact (List.take_append_drop k l).symm
  have h : (ofK kd l)[i.toNat]? = some l[k] := by
    conv => lhs; rw [e]
    unfold ofK at hi ⊢
    rw [List.filter_append, List.filter_cons_of_pos (by simp [hkd])]
    rw [List.getElem?_append_right (by omega)]
    rw [show i.toNat - (List.filter (fun x => decide (x.kind = kd)) (l.take k)).length = 0 by omega]
    rfl
  rw [h]
theorem place_none {kd i d : Int} {l : List SIt} (h : ((ofK kd l).length : Int) ≤ i) : placeS l kd i d = 0 := by
  unfold placeS
  rw [List.getElem?_eq_none (by omega)]
set_option maxRecDepth 100000 in
set_option maxHeartbeats 8000000 in
theorem cplace_any (w : World) (s : Sk) (kd i d : Int) (hs : SkAt w s) (hl : SLen s) (hi0 : 0 ≤ i) :
    Calls Try.prog 35 #[s.v, .agg #[.int .u8 kd, I i, I d]] w fun e w' => e = .returned (I (placeS s.items kd i d)) ∧ New w w' := by
  have HS := Lib.hid hs
  have hli := hl.i
  obtain ⟨si, hsi⟩ : ∃ a, s.ia = a := ⟨_, rfl⟩
  simp only [Sk.v, Sk.cs]
  rw [hsi]
  have HSI := Lib.hid hsi
  obtain ⟨r, hr⟩ : ∃ r, placeS s.items kd i d = r := ⟨_, rfl⟩
  rw [hr]
  have HR := Lib.hid hr
  clear hs hl hsi hr
  go_enter Try.func35, Try.ntmps35
  go_wp2_with fail
  have na : New w (w.alloc (.cells #[.string s.name, .slice si s.items.length s.ic] 35)) := (New.refl w).alloc _
  have ha : (w.alloc (.cells #[.string s.name, .slice si s.items.length s.ic] 35)).heap[w.heap.size]? = some (.cells #[.string s.name, .slice si s.items.length s.ic] 35 (0, 0)) := heap_alloc_new w _
  have sa : (w.alloc (.cells #[.string s.name, .slice si s.items.length s.ic] 35)).heap.size = w.heap.size + 1 := size_alloc _ _
  generalize (w.alloc (.cells #[.string s.name, .slice si s.items.length s.ic] 35)) = wa at na ha sa ⊢
  have nb : New wa (wa.alloc (.cells #[.int .u8 kd, I i, I d] 64)) := (New.refl wa).alloc _
  have hb : (wa.alloc (.cells #[.int .u8 kd, I i, I d] 64)).heap[wa.heap.size]? = some (.cells #[.int .u8 kd, I i, I d] 64 (0, 0)) := heap_alloc_new wa _
  rw [sa] at hb
  generalize (wa.alloc (.cells #[.int .u8 kd, I i, I d] 64)) = wb at nb hb ⊢
  have HB := Lib.hid hb
  have hN := na.trans nb
  clear na nb ha hb sa
  go_loopw [5, 11] (fun n j wr => ∃ (k : Nat) (m : Nat), k ≤ s.items.length ∧ j = .int .i64 k ∧ n = .int .i64 m ∧ m ≤ k ∧ (m : Int) ≤ i ∧ Hid (m = (ofK kd (s.items.take k)).length ∧ New wb wr)) (fun _ j _ => s.items.length - (intOf j).toNat)
  case atStart => exact ⟨0, 0, by omega, rfl, rfl, by omega, by omega, Lib.hid ⟨rfl, New.refl _⟩⟩
  case round =>
    obtain ⟨k, m, hk, rfl, rfl, hmk, hmi, HM⟩ := hrel
    have hNr := hN.trans HM.out.2
    obtain ⟨⟨p0, p1, p2⟩, -, hPl⟩ := spot_cells (Keeps.heap HM.out.2 HB.out (fun h => h))
    by_cases hk1 : k < s.items.length
    · have hkI : (k : Int) < (s.items.length : Int) := by omega
      have hkd : decide (k < s.items.length) = true := decide_eq_true hk1
      obtain ⟨b, off, hab, q0, q1, q2, q3, q4, q5, q6, q7, q8, q9, q10⟩ := items_row (HS.out.new hNr).sl hk1
      have hbw : b < wr.heap.size := World.block_lt_of_cell? wr _ q0
      have e : si = some ⟨b, off, none⟩ := HSI.out.symm.trans hab
      subst e
      have HT := Lib.hid (ofK_take (kd := kd) hk1)
      have HH : Hid (s.items[k].kind = kd → (m : Int) = i → r = if d = 1 then s.items[k].fa else if d = 2 then s.items[k].ta else s.items[k].at_) := Lib.hid (fun h1 h2 => by rw [← HR.out]; exact place_hit hk1 h1 (by rw [← HM.out.1]; exact h2))
      clear hab
      generalize s.items[k] = x at q0 q1 q2 q3 q4 q5 q6 q7 q8 q9 q10 HT HH
      by_cases hkk : x.kind = kd
      · have d1 : (x.kind != kd) = false := by simp [hkk]
        have HT2 : Hid ((ofK kd (s.items.take (k + 1))).length = m + 1) := Lib.hid (by rw [HT.out, if_pos hkk, List.length_append, HM.out.1]; rfl)
        by_cases hmi2 : (m : Int) = i
        · have d2 : ((m : Int) == i) = true := by simp [hmi2]
          have HV := Lib.hid (HH.out hkk hmi2)
          clear HH HT HT2 hkk hmi2
          by_cases e1 : d = 1
          · have d3 : (d == 1) = true := by simp [e1]
            rw [if_pos e1] at HV
            clear e1
            go_wp2_with fail
            go_ret
            exact ⟨by rw [HV.out]; rfl, hNr.alloc _⟩
          · have d3 : (d == 1) = false := by simp [e1]
            rw [if_neg e1] at HV
            clear e1
            by_cases e2 : d = 2
            · have d4 : (d == 2) = true := by simp [e2]
              rw [if_pos e2] at HV
              clear e2
              go_wp2_with fail
              go_ret
              exact ⟨by rw [HV.out]; rfl, hNr.alloc _⟩
            · have d4 : (d == 2) = false := by simp [e2]
              rw [if_neg e2] at HV
              clear e2
              go_wp2_with fail
              go_ret
              exact ⟨by rw [HV.out]; rfl, hNr.alloc _⟩
        · have d2 : ((m : Int) == i) = false := by simp [hmi2]
          have hlt : (m : Int) + 1 ≤ i := by omega
          clear HH HT hkk hmi2
          go_wp2_with fail
          go_roundw
          case rel => exact ⟨k + 1, m + 1, by omega, by go_num, by go_num, by omega, by omega, Lib.hid ⟨HT2.out.symm, HM.out.2.alloc _⟩⟩
          case measure => simp [intOf]; omega
      · have d1 : (x.kind != kd) = true := by simp [hkk]
        have HT2 : Hid ((ofK kd (s.items.take (k + 1))).length = m) := Lib.hid (by rw [HT.out, if_neg hkk, HM.out.1])
        clear HH HT hkk
        go_wp2_with fail
        go_roundw
        case rel => exact ⟨k + 1, m, by omega, by go_num, rfl, by omega, by omega, Lib.hid ⟨HT2.out.symm, HM.out.2.alloc _⟩⟩
        case measure => simp [intOf]; omega
    · have hke : k = s.items.length := by omega
      have hkd : decide (k < s.items.length) = false := decide_eq_false hk1
      have HV : Hid (r = 0) := Lib.hid (by
        rw [← HR.out]; refine place_none ?_
        have h1 := HM.out.1
        rw [hke, List.take_length] at h1
        omega)
      clear hke hk hk1
      go_wp2_with fail
      go_ret
      exact ⟨by rw [HV.out]; rfl, hNr⟩
end Go.Proofs.Ytpljnapglbmdlaa
