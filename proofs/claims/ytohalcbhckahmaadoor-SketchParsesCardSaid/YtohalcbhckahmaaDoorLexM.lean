/-
  LexR, LexS, LexU in one.
-/
import Derived.Test.YtohalcbhckahmaaDoorWhM
namespace Go.Proofs.YtohalcbhckahmaaDoor
open Go Go.RowKit Go.Joins
set_option linter.all false

theorem valA_take (l : List UInt8) (i : Nat) (h : i < l.length) : valA 0 (l.take (i + 1)) = valA 0 (l.take i) * 10 + (l[i].toNat - 48) := by
  rw [List.take_succ, List.getElem?_eq_getElem h]
  exact valA_snoc 0 _ _
theorem valA_bound (l : List UInt8) (h : l.all isDig = true) (hl : l.length ≤ 19) : valA 0 l < 10000000000000000000 := by
  have h1 := valA_lt l 0 h
  have h2 : (10 : Nat) ^ l.length ≤ 10 ^ 19 := Nat.pow_le_pow_right (by omega) hl
  have h3 : (10 : Nat) ^ 19 = 10000000000000000000 := by decide
  omega
theorem all_take0 {l : List UInt8} (h : l.all isDig = true) (i : Nat) : (l.take i).all isDig = true := by
  rw [List.all_eq_true] at h ⊢
  exact fun x hx => h x (List.mem_of_mem_take hx)
/-- Digits stay when a number's own cells are stored. -/
theorem sl_wh {w w' : World} {a x : Option Addr} {v B y z : Nat} {b : Bool} {T : TypeId} {fr : Nat × Nat} (h : SlAt w a (Is (dgs v))) (hB : w.heap[B]? = some (.cells #[.bool b, .slice x y z] T fr)) (k : Keeps (fun k => k = B) w w') : SlAt w' a (Is (dgs v)) := by
  by_cases h0 : nd v = 0
  · have e : dgs v = [] := by unfold dgs; rw [h0]; rfl
    rw [e]; exact SlAt.nil _ _
  · refine h.keeps k (fun ad had hb => ?_)
    subst had
    unfold dgs at h
    obtain ⟨bb, oo, ee, qq⟩ := is_at h (j := 0) (by omega)
    cases ee
    simp only at hb
    subst hb
    rw [cell_of_block hB] at qq
    match oo, qq with
    | 0, qq => simp at qq
    | 1, qq => simp at qq
    | oo + 2, qq => simp at qq
/-- What number answers. -/
def NumAns (w : World) (D : List UInt8) (e : Ending) (w' : World) : Prop :=
  (match numB D with
    | some n => e = .returned (.tuple #[I n, .bool true])
    | none => e = .returned (.tuple #[I 0, .bool false])) ∧ New w w'
theorem one_w (w : World) : (w.alloc (.cells #[.bool false, .slice none 0 0] 118)).heap[w.heap.size]? = some (.cells #[.bool false, .slice none 0 0] 118 (0, 0)) := wh_new w _ _
set_option maxRecDepth 100000 in
set_option maxHeartbeats 4000000 in
theorem rnum_lead_m (w : World) (s : ByteArray) (dl : List UInt8) (hs : s.data.toList = 45 :: dl) (hne : dl ≠ []) (hd : dl.all isDig = true) (hsz : s.size ≤ 1048577) (h2 : 2 ≤ dl.length) (h0 : dl.head? = some 48) :
    Calls Tryd.prog 80 #[.string s] w fun e w' => e = .returned (.tuple #[I 0, .bool false]) ∧ New w w' := by
  have hlen := toList_len s
  have hpos : 0 < s.size := by rw [← hlen, hs]; simp
  have hb0 : s[0] = 45 := by
    have := byteAt_in s 0 hpos
    rw [← this]; unfold byteAt; rw [hs]; rfl
  have hsI : (0 : Int) < (s.size : Int) := by omega
  have hsI1 : (1 : Int) ≤ (s.size : Int) := by omega
  have hdE : decide (s = ByteArray.empty) = false := decide_eq_false (by rintro rfl; simp at hpos)
  have e45 : ((s[0].toNat : Int) == 45) = true := by rw [hb0]; rfl
  obtain ⟨d, hdd⟩ : ∃ d, s.extract 1 s.size = d := ⟨_, rfl⟩
  have hdl : d.data.toList = dl := by
    rw [← hdd, extract_list, hs]
    show dl.take _ = dl
    exact List.take_of_length_le (by rw [← hlen, hs]; simp)
  have HDD := Lib.hid hdd
  have hds : d.size = dl.length := by rw [← toList_len, hdl]
  have hdp : 0 < d.size := by rw [hds]; exact List.length_pos_iff.2 hne
  have hd0 : d[0] = dl.head hne := by
    have := byteAt_in d 0 hdp
    rw [← this]; unfold byteAt; rw [hdl]
    cases dl with
    | nil => exact absurd rfl hne
    | cons c r => rfl
  have hdEE : decide (d = ByteArray.empty) = false := decide_eq_false (by rintro rfl; simp at hdp)
  have hdI : (0 : Int) < (d.size : Int) := by omega
  have c1 : (1 : Int) < (d.size : Int) := by omega
  have c2 : ((d[0].toNat : Int) == 48) = true := by
    rw [hd0]
    cases dl with
    | nil => exact absurd rfl hne
    | cons c r => simp only [List.head?_cons, Option.some.injEq] at h0; simp only [List.head_cons]; rw [h0]; rfl
  clear hdl hds hd0 hb0 hs hlen hd hne

  go_enter Tryd.func80, Tryd.ntmps80
  go_wp2_with fail
  go_ret2
  exact ⟨rfl, New.refl _⟩
set_option maxRecDepth 100000 in
set_option maxHeartbeats 4000000 in
theorem rnum_lead_p (w : World) (s : ByteArray) (dl : List UInt8) (hs : s.data.toList = dl) (hne : dl ≠ []) (hd : dl.all isDig = true) (hsz : s.size ≤ 1048577) (h2 : 2 ≤ dl.length) (h0 : dl.head? = some 48) :
    Calls Tryd.prog 80 #[.string s] w fun e w' => e = .returned (.tuple #[I 0, .bool false]) ∧ New w w' := by
  have hlen := toList_len s
  have hpos : 0 < s.size := by rw [← hlen, hs]; exact List.length_pos_iff.2 hne
  have hb0 : s[0] = dl.head hne := by
    have := byteAt_in s 0 hpos
    rw [← this]; unfold byteAt; rw [hs]; cases dl with | nil => exact absurd rfl hne | cons c r => rfl
  have hsI : (0 : Int) < (s.size : Int) := by omega
  have hsI1 : (1 : Int) ≤ (s.size : Int) := by omega
  have hdE : decide (s = ByteArray.empty) = false := decide_eq_false (by rintro rfl; simp at hpos)
  have hdg : isDig (dl.head hne) = true := (List.all_eq_true.1 hd) _ (List.head_mem hne)
  have hdr := (isDig_iff _).1 hdg
  have e45 : ((s[0].toNat : Int) == 45) = false := by
    rw [hb0]
    simpa using fun h : ((dl.head hne).toNat : Int) = 45 => by omega
  obtain ⟨d, hdd⟩ : ∃ d, s = d := ⟨_, rfl⟩
  have hdl : d.data.toList = dl := by rw [← hdd]; exact hs
  have hds : d.size = dl.length := by rw [← toList_len, hdl]
  have hdp : 0 < d.size := by rw [hds]; exact List.length_pos_iff.2 hne
  have hd0 : d[0] = dl.head hne := by
    have := byteAt_in d 0 hdp
    rw [← this]; unfold byteAt; rw [hdl]
    cases dl with
    | nil => exact absurd rfl hne
    | cons c r => rfl
  have hdEE : decide (d = ByteArray.empty) = false := decide_eq_false (by rintro rfl; simp at hdp)
  have hdI : (0 : Int) < (d.size : Int) := by omega
  have c1 : (1 : Int) < (d.size : Int) := by omega
  have c2 : ((d[0].toNat : Int) == 48) = true := by
    rw [hd0]
    cases dl with
    | nil => exact absurd rfl hne
    | cons c r => simp only [List.head?_cons, Option.some.injEq] at h0; simp only [List.head_cons]; rw [h0]; rfl
  clear hdl hds hd0 hb0 hs hlen hd hne hdr hdg
  subst hdd
  go_enter Tryd.func80, Tryd.ntmps80
  go_wp2_with fail
  go_ret2
  exact ⟨rfl, New.refl _⟩
set_option maxRecDepth 100000 in
set_option maxHeartbeats 4000000 in
theorem rnum_zero_m (w : World) (s : ByteArray) (dl : List UInt8) (hs : s.data.toList = 45 :: dl) (hne : dl ≠ []) (hd : dl.all isDig = true) (hsz : s.size ≤ 1048577) (hz : dl = [48]) :
    Calls Tryd.prog 80 #[.string s] w fun e w' => e = .returned (.tuple #[I 0, .bool false]) ∧ New w w' := by
  have hlen := toList_len s
  have hpos : 0 < s.size := by rw [← hlen, hs]; simp
  have hb0 : s[0] = 45 := by
    have := byteAt_in s 0 hpos
    rw [← this]; unfold byteAt; rw [hs]; rfl
  have hsI : (0 : Int) < (s.size : Int) := by omega
  have hsI1 : (1 : Int) ≤ (s.size : Int) := by omega
  have hdE : decide (s = ByteArray.empty) = false := decide_eq_false (by rintro rfl; simp at hpos)
  have e45 : ((s[0].toNat : Int) == 45) = true := by rw [hb0]; rfl
  obtain ⟨d, hdd⟩ : ∃ d, s.extract 1 s.size = d := ⟨_, rfl⟩
  have hdl : d.data.toList = dl := by
    rw [← hdd, extract_list, hs]
    show dl.take _ = dl
    exact List.take_of_length_le (by rw [← hlen, hs]; simp)
  have HDD := Lib.hid hdd
  have hds : d.size = dl.length := by rw [← toList_len, hdl]
  have hdp : 0 < d.size := by rw [hds]; exact List.length_pos_iff.2 hne
  have hd0 : d[0] = dl.head hne := by
    have := byteAt_in d 0 hdp
    rw [← this]; unfold byteAt; rw [hdl]
    cases dl with
    | nil => exact absurd rfl hne
    | cons c r => rfl
  have hdEE : decide (d = ByteArray.empty) = false := decide_eq_false (by rintro rfl; simp at hdp)
  have hdI : (0 : Int) < (d.size : Int) := by omega
  have c1 : ¬ (1 : Int) < (d.size : Int) := by rw [hds, hz]; decide
  have c3 : (d.toList == [48]) = true := by rw [beq_iff_eq, ByteArray.toList_eq, hdl, hz]
  clear hdl hds hd0 hb0 hs hlen hd hne

  go_enter Tryd.func80, Tryd.ntmps80
  go_wp2_with fail
  go_ret2
  exact ⟨rfl, New.refl _⟩
set_option maxRecDepth 100000 in
set_option maxHeartbeats 4000000 in
theorem rnum_long_m (w : World) (s : ByteArray) (dl : List UInt8) (hs : s.data.toList = 45 :: dl) (hne : dl ≠ []) (hd : dl.all isDig = true) (hsz : s.size ≤ 1048577) (hl : 19 < dl.length) (h0 : dl.head? ≠ some 48) :
    Calls Tryd.prog 80 #[.string s] w fun e w' => e = .returned (.tuple #[I 0, .bool false]) ∧ New w w' := by
  have hlen := toList_len s
  have hpos : 0 < s.size := by rw [← hlen, hs]; simp
  have hb0 : s[0] = 45 := by
    have := byteAt_in s 0 hpos
    rw [← this]; unfold byteAt; rw [hs]; rfl
  have hsI : (0 : Int) < (s.size : Int) := by omega
  have hsI1 : (1 : Int) ≤ (s.size : Int) := by omega
  have hdE : decide (s = ByteArray.empty) = false := decide_eq_false (by rintro rfl; simp at hpos)
  have e45 : ((s[0].toNat : Int) == 45) = true := by rw [hb0]; rfl
  obtain ⟨d, hdd⟩ : ∃ d, s.extract 1 s.size = d := ⟨_, rfl⟩
  have hdl : d.data.toList = dl := by
    rw [← hdd, extract_list, hs]
    show dl.take _ = dl
    exact List.take_of_length_le (by rw [← hlen, hs]; simp)
  have HDD := Lib.hid hdd
  have hds : d.size = dl.length := by rw [← toList_len, hdl]
  have hdp : 0 < d.size := by rw [hds]; exact List.length_pos_iff.2 hne
  have hd0 : d[0] = dl.head hne := by
    have := byteAt_in d 0 hdp
    rw [← this]; unfold byteAt; rw [hdl]
    cases dl with
    | nil => exact absurd rfl hne
    | cons c r => rfl
  have hdEE : decide (d = ByteArray.empty) = false := decide_eq_false (by rintro rfl; simp at hdp)
  have hdI : (0 : Int) < (d.size : Int) := by omega
  have c1 : (1 : Int) < (d.size : Int) := by omega
  have c4 : (19 : Int) < (d.size : Int) := by omega
  have c2 : ((d[0].toNat : Int) == 48) = false := by
    rw [hd0]
    cases dl with
    | nil => exact absurd rfl hne
    | cons c r =>
      simp only [List.head?_cons, ne_eq, Option.some.injEq] at h0
      simp only [List.head_cons]
      simpa using fun h : (c.toNat : Int) = 48 => h0 (UInt8.toNat_inj.1 (by show c.toNat = 48; omega))
  have c3 : (d.toList == [48]) = false := by
    rw [beq_eq_false_iff_ne, ByteArray.toList_eq, hdl]
    intro h; rw [h] at hl; simp at hl
  clear hdl hds hd0 hb0 hs hlen hd hne

  go_enter Tryd.func80, Tryd.ntmps80
  go_wp2_with fail
  go_ret2
  exact ⟨rfl, New.refl _⟩
set_option maxRecDepth 100000 in
set_option maxHeartbeats 4000000 in
theorem rnum_long_p (w : World) (s : ByteArray) (dl : List UInt8) (hs : s.data.toList = dl) (hne : dl ≠ []) (hd : dl.all isDig = true) (hsz : s.size ≤ 1048577) (hl : 19 < dl.length) (h0 : dl.head? ≠ some 48) :
    Calls Tryd.prog 80 #[.string s] w fun e w' => e = .returned (.tuple #[I 0, .bool false]) ∧ New w w' := by
  have hlen := toList_len s
  have hpos : 0 < s.size := by rw [← hlen, hs]; exact List.length_pos_iff.2 hne
  have hb0 : s[0] = dl.head hne := by
    have := byteAt_in s 0 hpos
    rw [← this]; unfold byteAt; rw [hs]; cases dl with | nil => exact absurd rfl hne | cons c r => rfl
  have hsI : (0 : Int) < (s.size : Int) := by omega
  have hsI1 : (1 : Int) ≤ (s.size : Int) := by omega
  have hdE : decide (s = ByteArray.empty) = false := decide_eq_false (by rintro rfl; simp at hpos)
  have hdg : isDig (dl.head hne) = true := (List.all_eq_true.1 hd) _ (List.head_mem hne)
  have hdr := (isDig_iff _).1 hdg
  have e45 : ((s[0].toNat : Int) == 45) = false := by
    rw [hb0]
    simpa using fun h : ((dl.head hne).toNat : Int) = 45 => by omega
  obtain ⟨d, hdd⟩ : ∃ d, s = d := ⟨_, rfl⟩
  have hdl : d.data.toList = dl := by rw [← hdd]; exact hs
  have hds : d.size = dl.length := by rw [← toList_len, hdl]
  have hdp : 0 < d.size := by rw [hds]; exact List.length_pos_iff.2 hne
  have hd0 : d[0] = dl.head hne := by
    have := byteAt_in d 0 hdp
    rw [← this]; unfold byteAt; rw [hdl]
    cases dl with
    | nil => exact absurd rfl hne
    | cons c r => rfl
  have hdEE : decide (d = ByteArray.empty) = false := decide_eq_false (by rintro rfl; simp at hdp)
  have hdI : (0 : Int) < (d.size : Int) := by omega
  have c1 : (1 : Int) < (d.size : Int) := by omega
  have c4 : (19 : Int) < (d.size : Int) := by omega
  have c2 : ((d[0].toNat : Int) == 48) = false := by
    rw [hd0]
    cases dl with
    | nil => exact absurd rfl hne
    | cons c r =>
      simp only [List.head?_cons, ne_eq, Option.some.injEq] at h0
      simp only [List.head_cons]
      simpa using fun h : (c.toNat : Int) = 48 => h0 (UInt8.toNat_inj.1 (by show c.toNat = 48; omega))
  have c3 : (d.toList == [48]) = false := by
    rw [beq_eq_false_iff_ne, ByteArray.toList_eq, hdl]
    intro h; rw [h] at hl; simp at hl
  clear hdl hds hd0 hb0 hs hlen hd hne hdr hdg
  subst hdd
  go_enter Tryd.func80, Tryd.ntmps80
  go_wp2_with fail
  go_ret2
  exact ⟨rfl, New.refl _⟩
set_option maxRecDepth 100000 in
set_option maxHeartbeats 8000000 in
theorem rnum_good_m (w : World) (s : ByteArray) (dl : List UInt8) (hs : s.data.toList = 45 :: dl) (hne : dl ≠ []) (hd : dl.all isDig = true) (hl19 : dl.length ≤ 19) (hform : dl.length = 1 ∨ dl.head? ≠ some 48) (hz : dl ≠ [48]) :
    Calls Tryd.prog 80 #[.string s] w fun e w' => (match intW true (valA 0 dl) with
      | some n => e = .returned (.tuple #[I n, .bool true])
      | none => e = .returned (.tuple #[I 0, .bool false])) ∧ New w w' := by
  have hlen := toList_len s
  have hpos : 0 < s.size := by rw [← hlen, hs]; simp
  have hss : s.size ≤ 20 := by rw [← hlen, hs]; simp; omega
  have hb0 : s[0] = 45 := by
    have := byteAt_in s 0 hpos
    rw [← this]; unfold byteAt; rw [hs]; rfl
  have hsI : (0 : Int) < (s.size : Int) := by omega
  have hsI1 : (1 : Int) ≤ (s.size : Int) := by omega
  have hdE : decide (s = ByteArray.empty) = false := decide_eq_false (by rintro rfl; simp at hpos)
  have hvb := valA_bound dl hd hl19
  have e45 : ((s[0].toNat : Int) == 45) = true := by rw [hb0]; rfl
  obtain ⟨d, hdd⟩ : ∃ d, s.extract 1 s.size = d := ⟨_, rfl⟩
  have hdl : d.data.toList = dl := by
    rw [← hdd, extract_list, hs]
    show dl.take _ = dl
    exact List.take_of_length_le (by rw [← hlen, hs]; simp)
  have hv1 : 0 < nd (valA 0 dl) := by
    have h0 : valA 0 dl ≠ 0 := by
      cases dl with
      | nil => exact absurd rfl hne
      | cons c r =>
        simp only [List.all_cons, Bool.and_eq_true] at hd
        have hc := (isDig_iff c).1 hd.1
        have h48 : c.toNat ≠ 48 := by
          intro h
          rcases hform with h1 | h1
          · cases r with
            | nil => exact hz (by rw [UInt8.toNat_inj.1 (show c.toNat = (48 : UInt8).toNat from h)])
            | cons => simp at h1
          · exact h1 (by simp only [List.head?_cons, Option.some.injEq]; exact UInt8.toNat_inj.1 h)
        have := valA_le r (0 * 10 + (c.toNat - 48))
        rw [valA_cons]; omega
    unfold nd
    rw [if_neg h0]
    split
    · omega
    · split <;> omega
  have hds : d.size = dl.length := by rw [← toList_len, hdl]
  have hdp : 0 < d.size := by rw [hds]; exact List.length_pos_iff.2 hne
  have hd0 : d[0] = dl.head hne := by
    have := byteAt_in d 0 hdp
    rw [← this]; unfold byteAt; rw [hdl]
    cases dl with
    | nil => exact absurd rfl hne
    | cons c r => rfl
  have hdEE : decide (d = ByteArray.empty) = false := decide_eq_false (by rintro rfl; simp at hdp)
  have hdI : (0 : Int) < (d.size : Int) := by omega
  have hdI19 : ¬ (19 : Int) < (d.size : Int) := by omega
  have hd19 : d.size ≤ 19 := by omega
  have HDG : Hid (∀ (i : Nat) (h : i < d.size), 48 ≤ d[i].toNat ∧ d[i].toNat ≤ 57 ∧ valA 0 (dl.take (i + 1)) = valA 0 (dl.take i) * 10 + (d[i].toNat - 48) ∧ valA 0 (dl.take i) * 10 + 9 < whTop) := Lib.hid (fun i h => by
    have hi : i < dl.length := by omega
    have e : d[i] = dl[i] := by
      have h1 : d.data.toList[i]? = some d[i] := by rw [Array.getElem?_toList]; exact Array.getElem?_eq_getElem h
      rw [hdl, List.getElem?_eq_getElem hi] at h1
      simpa using h1.symm
    have hdi := (isDig_iff dl[i]).1 ((List.all_eq_true.1 hd) _ (List.getElem_mem hi))
    rw [e]
    refine ⟨hdi.1, hdi.2, valA_take dl i hi, ?_⟩
    have := valA_bound (dl.take i) (all_take0 hd i) (by rw [List.length_take]; omega)
    unfold whTop; omega)
  have HDN : Hid (dl.take d.size = dl) := Lib.hid (List.take_of_length_le (by omega))
  have c1 : decide ((1 : Int) < (d.size : Int)) = false ∨ ((decide ((1 : Int) < (d.size : Int)) = true) ∧ ((d[0].toNat : Int) == 48) = false) := by
    by_cases h1 : dl.length = 1
    · exact Or.inl (decide_eq_false (by omega))
    · refine Or.inr ⟨decide_eq_true (by have := List.length_pos_iff.2 hne; omega), ?_⟩
      have h2 := hform.resolve_left h1
      rw [hd0]
      cases dl with
      | nil => exact absurd rfl hne
      | cons c r =>
        simp only [List.head?_cons, ne_eq, Option.some.injEq] at h2
        simp only [List.head_cons]
        simpa using fun h : (c.toNat : Int) = 48 => h2 (UInt8.toNat_inj.1 (by show c.toNat = 48; omega))
  have c3 : (d.toList == [48]) = false := by rw [beq_eq_false_iff_ne, ByteArray.toList_eq, hdl]; exact hz
  have hvt : valA 0 dl < whTop := by unfold whTop; omega
  have HVT := Lib.hid hvt
  have HV1 := Lib.hid hv1
  obtain ⟨PO, hPO⟩ : ∃ PO, PO = (fun (e : Ending) (w' : World) => (match intW true (valA 0 dl) with
        | some n => e = .returned (.tuple #[I n, .bool true])
        | none => e = .returned (.tuple #[I 0, .bool false])) ∧ New w w') := ⟨_, rfl⟩
  rw [← hPO]
  have HPO := Lib.hid hPO
  have hof10 : ∀ W, Calls Tryd.prog 88 #[I 10] W (WhRes W false 10) := fun W => of_any W 10 (by omega) (by omega)
  have hnd10 : nd 10 = 1 := by decide
  clear hdl hds hd0 hb0 hs hlen hd hne hform hl19 hvb hvt hPO hz hv1

  rcases c1 with c1 | ⟨c1, c2⟩
  all_goals
    (go_enter Tryd.func80, Tryd.ntmps80
     go_wp2_with fail
     go_loopw [7] (fun x wr => ∃ (i : Nat) (a : Option Addr) (c n : Nat), i ≤ d.size ∧ x = .int .i64 i ∧ Hid (nd (valA 0 (dl.take i)) = n) ∧ Hid (SlAt wr a (Is (dgs (valA 0 (dl.take i)))) ∧ Rm n c) ∧ New w wr ∧ Hid (wr.heap[w.heap.size]? = some (.cells #[.bool false, .slice a n c] 118 (0, 0)))) (fun x _ => d.size - (intOf x).toNat)
     case atStart => exact ⟨0, none, 0, 0, by omega, rfl, Lib.hid rfl, Lib.hid ⟨SlAt.nil _ _, by show 0 ≤ 0; omega, by show (0 : Int) ≤ _; omega⟩, (New.refl w).alloc _, Lib.hid (one_w w)⟩
     case round =>
       obtain ⟨i, a, c, n, hi, rfl, HND, HSL, hN, HB⟩ := hrel
       obtain ⟨p0, p1, z0, z1, pB⟩ := wh_cells HB.out
       by_cases hi1 : i < d.size
       · obtain ⟨g1, g2, g3, g4⟩ := HDG.out i hi1
         have hiI : (i : Int) < (d.size : Int) := by omega
         obtain ⟨v, hv⟩ : ∃ v, valA 0 (dl.take i) = v := ⟨_, rfl⟩
         rw [hv] at g3 g4 HND HSL
         obtain ⟨b, hb⟩ : ∃ b : Nat, d[i].toNat - 48 = b := ⟨_, rfl⟩
         have hb9 : b ≤ 9 := by omega
         have q1 : IntKind.u8.wrap ((d[i].toNat : Int) - 48) = (b : Int) := by rw [IntWalk.u8_in _ (by omega)]; omega
         have q2 : IntKind.i64.wrap (b : Int) = (b : Int) := IntWalk.i64_in _ (by omega)
         have hofd : ∀ W, Calls Tryd.prog 88 #[I (b : Int)] W (WhRes W false b) := fun W => by
           have := of_any W (b : Int) (by omega) (by omega)
           rwa [decide_eq_false (by omega : ¬ (b : Int) < 0), Int.natAbs_natCast] at this
         rw [hb] at g3
         have HG3 := Lib.hid g3
         clear g1 g2 g3 hv hb
         go_wp2_with fail
         have hS0 : (fun w' : World => w'.cell? ⟨w.heap.size, 0, none⟩ = some (.bool false) ∧ w'.cell? ⟨w.heap.size, 1, none⟩ = some (.slice a n c)) wr.drew := ⟨New.cell ((New.refl wr).drew) p0, New.cell ((New.refl wr).drew) p1⟩
         refine wp_region_X (fun w' : World => w'.cell? ⟨w.heap.size, 0, none⟩ = some (.bool false) ∧ w'.cell? ⟨w.heap.size, 1, none⟩ = some (.slice a n c)) [10] (by kernel_rfl) hS0 ?_
         refine anyX_take 0 (by kernel_rfl) (by kernel_rfl) (by kernel_rfl) (by kernel_rfl) (by kernel_rfl) hS0 ?_
         intro oi ho; simp only [List.getElem?_toArray, List.getElem?_cons_succ, List.getElem?_cons_zero, Option.some.injEq] at ho; subst ho
         refine ⟨?_, fun _ _ _ h => h, Or.inl ⟨by rfl, ?_⟩, ?_⟩; rotate_left 1
         · (intro wS hSw; (try dsimp only at hSw); go_simp; try with_reducible rfl)
         simp only [Act.put, List.setIfInBounds_toArray, List.set_cons_zero, List.set_cons_succ]
         refine anyX_take 3 (by kernel_rfl) (by kernel_rfl) (by kernel_rfl) (by kernel_rfl) (by kernel_rfl) hS0 ?_
         intro oi ho; simp only [List.getElem?_toArray, List.getElem?_cons_succ, List.getElem?_cons_zero, Option.some.injEq] at ho; subst ho
         refine ⟨?_, fun _ _ _ h => h, Or.inl ⟨by rfl, ?_⟩, ?_⟩; rotate_left 1
         · (intro wS hSw; (try dsimp only at hSw); go_simp; try with_reducible rfl)
         simp only [Act.put, List.setIfInBounds_toArray, List.set_cons_zero, List.set_cons_succ]
         refine anyX_take 4 (by kernel_rfl) (by kernel_rfl) (by kernel_rfl) (by kernel_rfl) (by kernel_rfl) hS0 ?_
         intro oi ho; simp only [List.getElem?_toArray, List.getElem?_cons_succ, List.getElem?_cons_zero, Option.some.injEq] at ho; subst ho
         refine ⟨?_, fun _ _ _ h => h, Or.inl ⟨by rfl, ?_⟩, ?_⟩; rotate_left 1
         · (intro wS hSw; (try dsimp only at hSw); go_simp; try with_reducible rfl)
         simp only [Act.put, List.setIfInBounds_toArray, List.set_cons_zero, List.set_cons_succ]
         refine anyX_take 5 (by kernel_rfl) (by kernel_rfl) (by kernel_rfl) (by kernel_rfl) (by kernel_rfl) hS0 ?_
         intro oi ho; simp only [List.getElem?_toArray, List.getElem?_cons_succ, List.getElem?_cons_zero, Option.some.injEq] at ho; subst ho
         refine ⟨?_, fun _ _ _ h => h, Or.inl ⟨by rfl, ?_⟩, ?_⟩; rotate_left 1
         · (intro wS hSw; (try dsimp only at hSw); go_simp; try with_reducible rfl)
         simp only [Act.put, List.setIfInBounds_toArray, List.set_cons_zero, List.set_cons_succ]
         refine anyX_take 6 (by kernel_rfl) (by kernel_rfl) (by kernel_rfl) (by kernel_rfl) (by kernel_rfl) hS0 ?_
         intro oi ho; simp only [List.getElem?_toArray, List.getElem?_cons_succ, List.getElem?_cons_zero, Option.some.injEq] at ho; subst ho
         refine ⟨?_, fun _ _ _ h => h, Or.inl ⟨by rfl, ?_⟩, ?_⟩; rotate_left 1
         · (intro wS hSw; (try dsimp only at hSw); go_simp; try with_reducible rfl)
         simp only [Act.put, List.setIfInBounds_toArray, List.set_cons_zero, List.set_cons_succ]
         refine anyX_take 7 (by kernel_rfl) (by kernel_rfl) (by kernel_rfl) (by kernel_rfl) (by kernel_rfl) hS0 ?_
         intro oi ho; simp only [List.getElem?_toArray, List.getElem?_cons_succ, List.getElem?_cons_zero, Option.some.injEq] at ho; subst ho
         refine ⟨?_, fun _ _ _ h => h, Or.inl ⟨by rfl, ?_⟩, ?_⟩; rotate_left 1
         · (intro wS hSw; (try dsimp only at hSw); go_simp; try with_reducible rfl)
         simp only [Act.put, List.setIfInBounds_toArray, List.set_cons_zero, List.set_cons_succ]
         refine anyX_one 1 (by kernel_rfl) ?_
         intro oi ho; simp only [List.getElem?_toArray, List.getElem?_cons_succ, List.getElem?_cons_zero, Option.some.injEq] at ho; subst ho; intro K hK
         (try simp only [Act.put, List.setIfInBounds_toArray, List.set_cons_zero, List.set_cons_succ])
         go_simp
         refine (hof10 _).mono ?_
         rintro e w2 ⟨a2, c2, rfl, n2, s2, -⟩
         rw [hnd10]
         have m2 : New wr w2 := ((New.refl wr).drew).trans n2
         have hS2 : (fun w' : World => w'.cell? ⟨w.heap.size, 0, none⟩ = some (.bool false) ∧ w'.cell? ⟨w.heap.size, 1, none⟩ = some (.slice a n c)) w2 := ⟨New.cell m2 p0, New.cell m2 p1⟩
         refine hK _ _ (fun _ => hS2) ?_
         clear hK K hS0 n2
         refine anyX_one 2 (by kernel_rfl) ?_
         intro oi ho; simp only [List.getElem?_toArray, List.getElem?_cons_succ, List.getElem?_cons_zero, Option.some.injEq] at ho; subst ho; intro K hK
         (try simp only [Act.put, List.setIfInBounds_toArray, List.set_cons_zero, List.set_cons_succ])
         go_simp
         have hten := ten_any w2 a a2 c c2 v (HSL.out.1.new m2) s2 (by unfold whTop at g4 ⊢; omega)
         rw [HND.out] at hten
         refine hten.mono ?_
         rintro e w3 ⟨a3, c3, rfl, n3, s3, -⟩
         have m3 := m2.trans n3
         have hS3 : (fun w' : World => w'.cell? ⟨w.heap.size, 0, none⟩ = some (.bool false) ∧ w'.cell? ⟨w.heap.size, 1, none⟩ = some (.slice a n c)) w3 := ⟨New.cell m3 p0, New.cell m3 p1⟩
         refine hK _ _ (fun _ => hS3) ?_
         clear hK K hS2 n3 s2 m2 hten
         refine anyX_one 8 (by kernel_rfl) ?_
         intro oi ho; simp only [List.getElem?_toArray, List.getElem?_cons_succ, List.getElem?_cons_zero, Option.some.injEq] at ho; subst ho; intro K hK
         (try simp only [Act.put, List.setIfInBounds_toArray, List.set_cons_zero, List.set_cons_succ])
         go_simp
         refine (hofd _).mono ?_
         rintro e w4 ⟨a4, c4, rfl, n4, s4, -⟩
         have m4 := m3.trans n4
         have hS4 : (fun w' : World => w'.cell? ⟨w.heap.size, 0, none⟩ = some (.bool false) ∧ w'.cell? ⟨w.heap.size, 1, none⟩ = some (.slice a n c)) w4 := ⟨New.cell m4 p0, New.cell m4 p1⟩
         refine hK _ _ (fun _ => hS4) ?_
         replace s3 := s3.new n4
         clear hK K hS3 n4 m3
         refine anyX_one 9 (by kernel_rfl) ?_
         intro oi ho; simp only [List.getElem?_toArray, List.getElem?_cons_succ, List.getElem?_cons_zero, Option.some.injEq] at ho; subst ho; intro K hK
         (try simp only [Act.put, List.setIfInBounds_toArray, List.set_cons_zero, List.set_cons_succ])
         go_simp
         have hplus := plus_any w4 a3 a4 c3 c4 (v * 10) b s3 s4 (by unfold whTop at g4 ⊢; omega)
         refine hplus.mono ?_
         rintro e w5 ⟨a5, c5, rfl, n5, s5, r5⟩
         have m5 := m4.trans n5
         have hS5 : (fun w' : World => w'.cell? ⟨w.heap.size, 0, none⟩ = some (.bool false) ∧ w'.cell? ⟨w.heap.size, 1, none⟩ = some (.slice a n c)) w5 := ⟨New.cell m5 p0, New.cell m5 p1⟩
         refine hK _ _ (fun _ => hS5) ?_
         clear hK K hS4 n5 s3 s4 m4 hplus
         have hB5 := Keeps.heap m5 HB.out (fun h => h)
         obtain ⟨r0, r1, f0, f1, hBB⟩ := wh_cells hB5
         obtain ⟨n6, hn6⟩ : ∃ n6, nd (v * 10 + b) = n6 := ⟨_, rfl⟩
         obtain ⟨hst, kst⟩ := wh_stored hB5 (.bool false) (.slice a5 n6 c5)
         have HN6 := Lib.hid hn6
         rw [hn6]
         have HSL2 : Hid (SlAt ((w5.setCell ⟨w.heap.size, 0, none⟩ (.bool false)).setCell ⟨w.heap.size, 1, none⟩ (.slice a5 n6 c5)) a5 (Is (dgs (valA 0 (dl.take (i + 1))))) ∧ Rm n6 c5) := Lib.hid ⟨by rw [HG3.out]; exact sl_wh s5 hB5 kst, by rw [← hn6]; exact r5⟩
         have HND2 : Hid (nd (valA 0 (dl.take (i + 1))) = n6) := Lib.hid (by rw [HG3.out]; exact hn6)
         have HB2 := Lib.hid hst
         have HNN := Lib.hid (New.keeps (hN.trans m5) kst (fun i hi hx => by omega))
         clear hst kst s5 r5 hn6 m5 hB5
         refine anyX_one 10 (by kernel_rfl) ?_
         intro oi ho; simp only [List.getElem?_toArray, List.getElem?_cons_succ, List.getElem?_cons_zero, Option.some.injEq] at ho; subst ho; intro K hK
         (try simp only [Act.put, List.setIfInBounds_toArray, List.set_cons_zero, List.set_cons_succ])
         go_simp
         refine hK _ _ (fun h => by cases h) ?_
         clear hK K hS5 p0 p1 z0 z1 pB
         refine anyX_done (by kernel_rfl) ?_
         (try simp only [Act.put, List.setIfInBounds_toArray, List.set_cons_zero, List.set_cons_succ])
         (try simp only [Exit.then])
         go_wp2_with fail
         go_roundw
         case rel => exact ⟨i + 1, a5, c5, n6, by omega, by go_num, HND2, HSL2, HNN.out, HB2⟩
         case measure => simp [intOf]; omega
       · have hie : i = d.size := by omega
         have hdi : ¬ (i : Int) < (d.size : Int) := by omega
         have HND' : Hid (nd (valA 0 dl) = n) := Lib.hid (by rw [← HDN.out, ← hie]; exact HND.out)
         have HSL' : Hid (SlAt wr a (Is (dgs (valA 0 dl))) ∧ Rm n c) := Lib.hid (by rw [← HDN.out, ← hie]; exact HSL.out)
         obtain ⟨v, hv⟩ : ∃ v, valA 0 dl = v := ⟨_, rfl⟩
         rw [hv] at HND' HSL' HPO HVT HV1
         clear hv hie HND HSL HDG HDN
         have hneg := negw_any wr v a c HSL'.out.1 (by rw [HND'.out]; exact HSL'.out.2) HV1.out
         rw [HND'.out] at hneg
         go_wp2_with fail
         refine hneg.mono ?_
         rintro e w2 ⟨a2, c2, rfl, n2, s2, -⟩
         rw [HND'.out]
         have hB2 := Keeps.heap n2 HB.out (fun h => h)
         obtain ⟨r0, r1, f0, f1, hBB⟩ := wh_cells hB2
         obtain ⟨hst, kst⟩ := wh_stored hB2 (.bool true) (.slice a2 n c2)
         have hsl2 := sl_wh s2 hB2 kst
         have hN2 := New.keeps (hN.trans n2) kst (fun i hi hx => by omega)
         obtain ⟨q0, q1, _, _, hq⟩ := wh_cells hst
         have hin := int_any _ true a2 c2 v hsl2 HVT.out
         rw [HND'.out] at hin
         have HN2 := Lib.hid hN2
         clear hst kst hsl2 hN2 s2 hB2 n2 hN hneg p0 p1 z0 z1 pB
         go_wp2_with fail
         refine hin.mono ?_
         rintro e w3 ⟨he, n3⟩
         obtain ⟨o, ho⟩ : ∃ o, intW true v = o := ⟨_, rfl⟩
         rw [ho] at he HPO
         cases o with
         | some r =>
           simp only at he
           subst he
           have HF : Hid (PO (.returned (.tuple #[I r, .bool true])) w3) := Lib.hid (by rw [HPO.out]; exact ⟨rfl, HN2.out.trans n3⟩)
           clear n3 ho
           go_wp2_with fail
           first | exact HF.out | (refine bodyPost_ret (results_tmp2 (by kernel_rfl) _ _ _) rfl ?_; exact HF.out)
         | none =>
           simp only at he
           subst he
           have HF : Hid (PO (.returned (.tuple #[I 0, .bool false])) w3) := Lib.hid (by rw [HPO.out]; exact ⟨rfl, HN2.out.trans n3⟩)
           clear n3 ho
           go_wp2_with fail
           first | exact HF.out | (refine bodyPost_ret (results_tmp2 (by kernel_rfl) _ _ _) rfl ?_; exact HF.out))
set_option maxRecDepth 100000 in
set_option maxHeartbeats 8000000 in
theorem rnum_good_p (w : World) (s : ByteArray) (dl : List UInt8) (hs : s.data.toList = dl) (hne : dl ≠ []) (hd : dl.all isDig = true) (hl19 : dl.length ≤ 19) (hform : dl.length = 1 ∨ dl.head? ≠ some 48) :
    Calls Tryd.prog 80 #[.string s] w fun e w' => (match intW false (valA 0 dl) with
      | some n => e = .returned (.tuple #[I n, .bool true])
      | none => e = .returned (.tuple #[I 0, .bool false])) ∧ New w w' := by
  have hlen := toList_len s
  have hpos : 0 < s.size := by rw [← hlen, hs]; exact List.length_pos_iff.2 hne
  have hss : s.size ≤ 20 := by rw [← hlen, hs]; omega
  have hb0 : s[0] = dl.head hne := by
    have := byteAt_in s 0 hpos
    rw [← this]; unfold byteAt; rw [hs]; cases dl with | nil => exact absurd rfl hne | cons c r => rfl
  have hsI : (0 : Int) < (s.size : Int) := by omega
  have hsI1 : (1 : Int) ≤ (s.size : Int) := by omega
  have hdE : decide (s = ByteArray.empty) = false := decide_eq_false (by rintro rfl; simp at hpos)
  have hvb := valA_bound dl hd hl19
  have hdg : isDig (dl.head hne) = true := (List.all_eq_true.1 hd) _ (List.head_mem hne)
  have hdr := (isDig_iff _).1 hdg
  have e45 : ((s[0].toNat : Int) == 45) = false := by
    rw [hb0]
    simpa using fun h : ((dl.head hne).toNat : Int) = 45 => by omega
  obtain ⟨d, hdd⟩ : ∃ d, d = s := ⟨_, rfl⟩
  have hdl : d.data.toList = dl := by rw [hdd]; exact hs
  have hds : d.size = dl.length := by rw [← toList_len, hdl]
  have hdp : 0 < d.size := by rw [hds]; exact List.length_pos_iff.2 hne
  have hd0 : d[0] = dl.head hne := by
    have := byteAt_in d 0 hdp
    rw [← this]; unfold byteAt; rw [hdl]
    cases dl with
    | nil => exact absurd rfl hne
    | cons c r => rfl
  have hdEE : decide (d = ByteArray.empty) = false := decide_eq_false (by rintro rfl; simp at hdp)
  have hdI : (0 : Int) < (d.size : Int) := by omega
  have hdI19 : ¬ (19 : Int) < (d.size : Int) := by omega
  have hd19 : d.size ≤ 19 := by omega
  have HDG : Hid (∀ (i : Nat) (h : i < d.size), 48 ≤ d[i].toNat ∧ d[i].toNat ≤ 57 ∧ valA 0 (dl.take (i + 1)) = valA 0 (dl.take i) * 10 + (d[i].toNat - 48) ∧ valA 0 (dl.take i) * 10 + 9 < whTop) := Lib.hid (fun i h => by
    have hi : i < dl.length := by omega
    have e : d[i] = dl[i] := by
      have h1 : d.data.toList[i]? = some d[i] := by rw [Array.getElem?_toList]; exact Array.getElem?_eq_getElem h
      rw [hdl, List.getElem?_eq_getElem hi] at h1
      simpa using h1.symm
    have hdi := (isDig_iff dl[i]).1 ((List.all_eq_true.1 hd) _ (List.getElem_mem hi))
    rw [e]
    refine ⟨hdi.1, hdi.2, valA_take dl i hi, ?_⟩
    have := valA_bound (dl.take i) (all_take0 hd i) (by rw [List.length_take]; omega)
    unfold whTop; omega)
  have HDN : Hid (dl.take d.size = dl) := Lib.hid (List.take_of_length_le (by omega))
  have c1 : decide ((1 : Int) < (d.size : Int)) = false ∨ ((decide ((1 : Int) < (d.size : Int)) = true) ∧ ((d[0].toNat : Int) == 48) = false) := by
    by_cases h1 : dl.length = 1
    · exact Or.inl (decide_eq_false (by omega))
    · refine Or.inr ⟨decide_eq_true (by have := List.length_pos_iff.2 hne; omega), ?_⟩
      have h2 := hform.resolve_left h1
      rw [hd0]
      cases dl with
      | nil => exact absurd rfl hne
      | cons c r =>
        simp only [List.head?_cons, ne_eq, Option.some.injEq] at h2
        simp only [List.head_cons]
        simpa using fun h : (c.toNat : Int) = 48 => h2 (UInt8.toNat_inj.1 (by show c.toNat = 48; omega))

  have hvt : valA 0 dl < whTop := by unfold whTop; omega
  have HVT := Lib.hid hvt

  obtain ⟨PO, hPO⟩ : ∃ PO, PO = (fun (e : Ending) (w' : World) => (match intW false (valA 0 dl) with
        | some n => e = .returned (.tuple #[I n, .bool true])
        | none => e = .returned (.tuple #[I 0, .bool false])) ∧ New w w') := ⟨_, rfl⟩
  rw [← hPO]
  have HPO := Lib.hid hPO
  have hof10 : ∀ W, Calls Tryd.prog 88 #[I 10] W (WhRes W false 10) := fun W => of_any W 10 (by omega) (by omega)
  have hnd10 : nd 10 = 1 := by decide
  clear hdl hds hd0 hb0 hs hlen hd hne hform hl19 hvb hvt hPO hdr hdg
  subst hdd
  rcases c1 with c1 | ⟨c1, c2⟩
  all_goals
    (go_enter Tryd.func80, Tryd.ntmps80
     go_wp2_with fail
     go_loopw [7] (fun x wr => ∃ (i : Nat) (a : Option Addr) (c n : Nat), i ≤ d.size ∧ x = .int .i64 i ∧ Hid (nd (valA 0 (dl.take i)) = n) ∧ Hid (SlAt wr a (Is (dgs (valA 0 (dl.take i)))) ∧ Rm n c) ∧ New w wr ∧ Hid (wr.heap[w.heap.size]? = some (.cells #[.bool false, .slice a n c] 118 (0, 0)))) (fun x _ => d.size - (intOf x).toNat)
     case atStart => exact ⟨0, none, 0, 0, by omega, rfl, Lib.hid rfl, Lib.hid ⟨SlAt.nil _ _, by show 0 ≤ 0; omega, by show (0 : Int) ≤ _; omega⟩, (New.refl w).alloc _, Lib.hid (one_w w)⟩
     case round =>
       obtain ⟨i, a, c, n, hi, rfl, HND, HSL, hN, HB⟩ := hrel
       obtain ⟨p0, p1, z0, z1, pB⟩ := wh_cells HB.out
       by_cases hi1 : i < d.size
       · obtain ⟨g1, g2, g3, g4⟩ := HDG.out i hi1
         have hiI : (i : Int) < (d.size : Int) := by omega
         obtain ⟨v, hv⟩ : ∃ v, valA 0 (dl.take i) = v := ⟨_, rfl⟩
         rw [hv] at g3 g4 HND HSL
         obtain ⟨b, hb⟩ : ∃ b : Nat, d[i].toNat - 48 = b := ⟨_, rfl⟩
         have hb9 : b ≤ 9 := by omega
         have q1 : IntKind.u8.wrap ((d[i].toNat : Int) - 48) = (b : Int) := by rw [IntWalk.u8_in _ (by omega)]; omega
         have q2 : IntKind.i64.wrap (b : Int) = (b : Int) := IntWalk.i64_in _ (by omega)
         have hofd : ∀ W, Calls Tryd.prog 88 #[I (b : Int)] W (WhRes W false b) := fun W => by
           have := of_any W (b : Int) (by omega) (by omega)
           rwa [decide_eq_false (by omega : ¬ (b : Int) < 0), Int.natAbs_natCast] at this
         rw [hb] at g3
         have HG3 := Lib.hid g3
         clear g1 g2 g3 hv hb
         go_wp2_with fail
         have hS0 : (fun w' : World => w'.cell? ⟨w.heap.size, 0, none⟩ = some (.bool false) ∧ w'.cell? ⟨w.heap.size, 1, none⟩ = some (.slice a n c)) wr.drew := ⟨New.cell ((New.refl wr).drew) p0, New.cell ((New.refl wr).drew) p1⟩
         refine wp_region_X (fun w' : World => w'.cell? ⟨w.heap.size, 0, none⟩ = some (.bool false) ∧ w'.cell? ⟨w.heap.size, 1, none⟩ = some (.slice a n c)) [10] (by kernel_rfl) hS0 ?_
         refine anyX_take 0 (by kernel_rfl) (by kernel_rfl) (by kernel_rfl) (by kernel_rfl) (by kernel_rfl) hS0 ?_
         intro oi ho; simp only [List.getElem?_toArray, List.getElem?_cons_succ, List.getElem?_cons_zero, Option.some.injEq] at ho; subst ho
         refine ⟨?_, fun _ _ _ h => h, Or.inl ⟨by rfl, ?_⟩, ?_⟩; rotate_left 1
         · (intro wS hSw; (try dsimp only at hSw); go_simp; try with_reducible rfl)
         simp only [Act.put, List.setIfInBounds_toArray, List.set_cons_zero, List.set_cons_succ]
         refine anyX_take 3 (by kernel_rfl) (by kernel_rfl) (by kernel_rfl) (by kernel_rfl) (by kernel_rfl) hS0 ?_
         intro oi ho; simp only [List.getElem?_toArray, List.getElem?_cons_succ, List.getElem?_cons_zero, Option.some.injEq] at ho; subst ho
         refine ⟨?_, fun _ _ _ h => h, Or.inl ⟨by rfl, ?_⟩, ?_⟩; rotate_left 1
         · (intro wS hSw; (try dsimp only at hSw); go_simp; try with_reducible rfl)
         simp only [Act.put, List.setIfInBounds_toArray, List.set_cons_zero, List.set_cons_succ]
         refine anyX_take 4 (by kernel_rfl) (by kernel_rfl) (by kernel_rfl) (by kernel_rfl) (by kernel_rfl) hS0 ?_
         intro oi ho; simp only [List.getElem?_toArray, List.getElem?_cons_succ, List.getElem?_cons_zero, Option.some.injEq] at ho; subst ho
         refine ⟨?_, fun _ _ _ h => h, Or.inl ⟨by rfl, ?_⟩, ?_⟩; rotate_left 1
         · (intro wS hSw; (try dsimp only at hSw); go_simp; try with_reducible rfl)
         simp only [Act.put, List.setIfInBounds_toArray, List.set_cons_zero, List.set_cons_succ]
         refine anyX_take 5 (by kernel_rfl) (by kernel_rfl) (by kernel_rfl) (by kernel_rfl) (by kernel_rfl) hS0 ?_
         intro oi ho; simp only [List.getElem?_toArray, List.getElem?_cons_succ, List.getElem?_cons_zero, Option.some.injEq] at ho; subst ho
         refine ⟨?_, fun _ _ _ h => h, Or.inl ⟨by rfl, ?_⟩, ?_⟩; rotate_left 1
         · (intro wS hSw; (try dsimp only at hSw); go_simp; try with_reducible rfl)
         simp only [Act.put, List.setIfInBounds_toArray, List.set_cons_zero, List.set_cons_succ]
         refine anyX_take 6 (by kernel_rfl) (by kernel_rfl) (by kernel_rfl) (by kernel_rfl) (by kernel_rfl) hS0 ?_
         intro oi ho; simp only [List.getElem?_toArray, List.getElem?_cons_succ, List.getElem?_cons_zero, Option.some.injEq] at ho; subst ho
         refine ⟨?_, fun _ _ _ h => h, Or.inl ⟨by rfl, ?_⟩, ?_⟩; rotate_left 1
         · (intro wS hSw; (try dsimp only at hSw); go_simp; try with_reducible rfl)
         simp only [Act.put, List.setIfInBounds_toArray, List.set_cons_zero, List.set_cons_succ]
         refine anyX_take 7 (by kernel_rfl) (by kernel_rfl) (by kernel_rfl) (by kernel_rfl) (by kernel_rfl) hS0 ?_
         intro oi ho; simp only [List.getElem?_toArray, List.getElem?_cons_succ, List.getElem?_cons_zero, Option.some.injEq] at ho; subst ho
         refine ⟨?_, fun _ _ _ h => h, Or.inl ⟨by rfl, ?_⟩, ?_⟩; rotate_left 1
         · (intro wS hSw; (try dsimp only at hSw); go_simp; try with_reducible rfl)
         simp only [Act.put, List.setIfInBounds_toArray, List.set_cons_zero, List.set_cons_succ]
         refine anyX_one 1 (by kernel_rfl) ?_
         intro oi ho; simp only [List.getElem?_toArray, List.getElem?_cons_succ, List.getElem?_cons_zero, Option.some.injEq] at ho; subst ho; intro K hK
         (try simp only [Act.put, List.setIfInBounds_toArray, List.set_cons_zero, List.set_cons_succ])
         go_simp
         refine (hof10 _).mono ?_
         rintro e w2 ⟨a2, c2, rfl, n2, s2, -⟩
         rw [hnd10]
         have m2 : New wr w2 := ((New.refl wr).drew).trans n2
         have hS2 : (fun w' : World => w'.cell? ⟨w.heap.size, 0, none⟩ = some (.bool false) ∧ w'.cell? ⟨w.heap.size, 1, none⟩ = some (.slice a n c)) w2 := ⟨New.cell m2 p0, New.cell m2 p1⟩
         refine hK _ _ (fun _ => hS2) ?_
         clear hK K hS0 n2
         refine anyX_one 2 (by kernel_rfl) ?_
         intro oi ho; simp only [List.getElem?_toArray, List.getElem?_cons_succ, List.getElem?_cons_zero, Option.some.injEq] at ho; subst ho; intro K hK
         (try simp only [Act.put, List.setIfInBounds_toArray, List.set_cons_zero, List.set_cons_succ])
         go_simp
         have hten := ten_any w2 a a2 c c2 v (HSL.out.1.new m2) s2 (by unfold whTop at g4 ⊢; omega)
         rw [HND.out] at hten
         refine hten.mono ?_
         rintro e w3 ⟨a3, c3, rfl, n3, s3, -⟩
         have m3 := m2.trans n3
         have hS3 : (fun w' : World => w'.cell? ⟨w.heap.size, 0, none⟩ = some (.bool false) ∧ w'.cell? ⟨w.heap.size, 1, none⟩ = some (.slice a n c)) w3 := ⟨New.cell m3 p0, New.cell m3 p1⟩
         refine hK _ _ (fun _ => hS3) ?_
         clear hK K hS2 n3 s2 m2 hten
         refine anyX_one 8 (by kernel_rfl) ?_
         intro oi ho; simp only [List.getElem?_toArray, List.getElem?_cons_succ, List.getElem?_cons_zero, Option.some.injEq] at ho; subst ho; intro K hK
         (try simp only [Act.put, List.setIfInBounds_toArray, List.set_cons_zero, List.set_cons_succ])
         go_simp
         refine (hofd _).mono ?_
         rintro e w4 ⟨a4, c4, rfl, n4, s4, -⟩
         have m4 := m3.trans n4
         have hS4 : (fun w' : World => w'.cell? ⟨w.heap.size, 0, none⟩ = some (.bool false) ∧ w'.cell? ⟨w.heap.size, 1, none⟩ = some (.slice a n c)) w4 := ⟨New.cell m4 p0, New.cell m4 p1⟩
         refine hK _ _ (fun _ => hS4) ?_
         replace s3 := s3.new n4
         clear hK K hS3 n4 m3
         refine anyX_one 9 (by kernel_rfl) ?_
         intro oi ho; simp only [List.getElem?_toArray, List.getElem?_cons_succ, List.getElem?_cons_zero, Option.some.injEq] at ho; subst ho; intro K hK
         (try simp only [Act.put, List.setIfInBounds_toArray, List.set_cons_zero, List.set_cons_succ])
         go_simp
         have hplus := plus_any w4 a3 a4 c3 c4 (v * 10) b s3 s4 (by unfold whTop at g4 ⊢; omega)
         refine hplus.mono ?_
         rintro e w5 ⟨a5, c5, rfl, n5, s5, r5⟩
         have m5 := m4.trans n5
         have hS5 : (fun w' : World => w'.cell? ⟨w.heap.size, 0, none⟩ = some (.bool false) ∧ w'.cell? ⟨w.heap.size, 1, none⟩ = some (.slice a n c)) w5 := ⟨New.cell m5 p0, New.cell m5 p1⟩
         refine hK _ _ (fun _ => hS5) ?_
         clear hK K hS4 n5 s3 s4 m4 hplus
         have hB5 := Keeps.heap m5 HB.out (fun h => h)
         obtain ⟨r0, r1, f0, f1, hBB⟩ := wh_cells hB5
         obtain ⟨n6, hn6⟩ : ∃ n6, nd (v * 10 + b) = n6 := ⟨_, rfl⟩
         obtain ⟨hst, kst⟩ := wh_stored hB5 (.bool false) (.slice a5 n6 c5)
         have HN6 := Lib.hid hn6
         rw [hn6]
         have HSL2 : Hid (SlAt ((w5.setCell ⟨w.heap.size, 0, none⟩ (.bool false)).setCell ⟨w.heap.size, 1, none⟩ (.slice a5 n6 c5)) a5 (Is (dgs (valA 0 (dl.take (i + 1))))) ∧ Rm n6 c5) := Lib.hid ⟨by rw [HG3.out]; exact sl_wh s5 hB5 kst, by rw [← hn6]; exact r5⟩
         have HND2 : Hid (nd (valA 0 (dl.take (i + 1))) = n6) := Lib.hid (by rw [HG3.out]; exact hn6)
         have HB2 := Lib.hid hst
         have HNN := Lib.hid (New.keeps (hN.trans m5) kst (fun i hi hx => by omega))
         clear hst kst s5 r5 hn6 m5 hB5
         refine anyX_one 10 (by kernel_rfl) ?_
         intro oi ho; simp only [List.getElem?_toArray, List.getElem?_cons_succ, List.getElem?_cons_zero, Option.some.injEq] at ho; subst ho; intro K hK
         (try simp only [Act.put, List.setIfInBounds_toArray, List.set_cons_zero, List.set_cons_succ])
         go_simp
         refine hK _ _ (fun h => by cases h) ?_
         clear hK K hS5 p0 p1 z0 z1 pB
         refine anyX_done (by kernel_rfl) ?_
         (try simp only [Act.put, List.setIfInBounds_toArray, List.set_cons_zero, List.set_cons_succ])
         (try simp only [Exit.then])
         go_wp2_with fail
         go_roundw
         case rel => exact ⟨i + 1, a5, c5, n6, by omega, by go_num, HND2, HSL2, HNN.out, HB2⟩
         case measure => simp [intOf]; omega
       · have hie : i = d.size := by omega
         have hdi : ¬ (i : Int) < (d.size : Int) := by omega
         have HND' : Hid (nd (valA 0 dl) = n) := Lib.hid (by rw [← HDN.out, ← hie]; exact HND.out)
         have HSL' : Hid (SlAt wr a (Is (dgs (valA 0 dl))) ∧ Rm n c) := Lib.hid (by rw [← HDN.out, ← hie]; exact HSL.out)
         obtain ⟨v, hv⟩ : ∃ v, valA 0 dl = v := ⟨_, rfl⟩
         rw [hv] at HND' HSL' HPO HVT
         clear hv hie HND HSL HDG HDN
         have hin := int_any wr false a c v HSL'.out.1 HVT.out
         rw [HND'.out] at hin
         have HN2 := Lib.hid hN
         clear hN
         go_wp2_with fail
         refine hin.mono ?_
         rintro e w3 ⟨he, n3⟩
         obtain ⟨o, ho⟩ : ∃ o, intW false v = o := ⟨_, rfl⟩
         rw [ho] at he HPO
         cases o with
         | some r =>
           simp only at he
           subst he
           have HF : Hid (PO (.returned (.tuple #[I r, .bool true])) w3) := Lib.hid (by rw [HPO.out]; exact ⟨rfl, HN2.out.trans n3⟩)
           clear n3 ho
           go_wp2_with fail
           first | exact HF.out | (refine bodyPost_ret (results_tmp2 (by kernel_rfl) _ _ _) rfl ?_; exact HF.out)
         | none =>
           simp only at he
           subst he
           have HF : Hid (PO (.returned (.tuple #[I 0, .bool false])) w3) := Lib.hid (by rw [HPO.out]; exact ⟨rfl, HN2.out.trans n3⟩)
           clear n3 ho
           go_wp2_with fail
           first | exact HF.out | (refine bodyPost_ret (results_tmp2 (by kernel_rfl) _ _ _) rfl ?_; exact HF.out))
/-- The document's number, at any numeral. -/
theorem rnum_any (w : World) (s : ByteArray) (c : UInt8) (r : List UInt8) (hs : s.data.toList = c :: r.takeWhile isDig) (hc : isDig c = true ∨ (c.toNat = 45 ∧ isDig (r.headD 0) = true)) (hsz : s.size ≤ 1048577) :
    Calls Tryd.prog 80 #[.string s] w (NumAns w (c :: r.takeWhile isDig)) := by
  have ha := takeWhile_all isDig r
  have hnone : ∀ {e : Ending} {w' : World}, numB (c :: r.takeWhile isDig) = none → (e = .returned (.tuple #[I 0, .bool false]) ∧ New w w') → NumAns w (c :: r.takeWhile isDig) e w' := fun h he => by
    unfold NumAns; rw [h]; exact he
  rcases hc with hc | ⟨hc, hd⟩
  · have hall : (c :: r.takeWhile isDig).all isDig = true := by simp only [List.all_cons, hc, ha, Bool.and_self]
    have hcd := (isDig_iff c).1 hc
    have en : numB (c :: r.takeWhile isDig) = match magN (c :: r.takeWhile isDig) with
        | some v => if v < 9223372036854775808 then some (v : Int) else none
        | none => none := by
      unfold numB
      exact if_neg (by omega)
    by_cases hlead : 2 ≤ (c :: r.takeWhile isDig).length ∧ (c :: r.takeWhile isDig).head? = some 48
    · refine (rnum_lead_p w s _ hs (by simp) hall hsz hlead.1 hlead.2).mono fun e w' he => hnone ?_ he
      rw [en]; unfold magN; rw [if_pos (Or.inl hlead)]
    · by_cases hlong : 19 < (c :: r.takeWhile isDig).length
      · refine (rnum_long_p w s _ hs (by simp) hall hsz hlong (fun h => hlead ⟨by omega, h⟩)).mono fun e w' he => hnone ?_ he
        rw [en]; unfold magN; rw [if_pos (Or.inr hlong)]
      · have hform : (c :: r.takeWhile isDig).length = 1 ∨ (c :: r.takeWhile isDig).head? ≠ some 48 := by
          by_cases h1 : (c :: r.takeWhile isDig).length = 1
          · exact Or.inl h1
          · exact Or.inr (fun h => hlead ⟨by simp only [List.length_cons] at h1 ⊢; omega, h⟩)
        refine (rnum_good_p w s _ hs (by simp) hall (by omega) hform).mono fun e w' he => ?_
        have e2 : numB (c :: r.takeWhile isDig) = intW false (valA 0 (c :: r.takeWhile isDig)) := by
          rw [en]; unfold magN
          rw [if_neg (fun h => h.elim hlead hlong)]
          unfold intW
          rw [if_neg (by simp)]
        unfold NumAns
        rw [e2]; exact he
  · obtain rfl : c = 45 := UInt8.toNat_inj.1 hc
    have hne : r.takeWhile isDig ≠ [] := by
      obtain ⟨r', e⟩ := headD_some r (fun e => by rw [e] at hd; exact absurd hd (by decide))
      rw [e, List.takeWhile_cons, if_pos hd]; simp
    generalize r.takeWhile isDig = dl at hs ha hnone hne ⊢
    by_cases hlead : 2 ≤ dl.length ∧ dl.head? = some 48
    · refine (rnum_lead_m w s _ hs hne ha hsz hlead.1 hlead.2).mono fun e w' he => hnone ?_ he
      rw [numB_minus]; unfold magN; rw [if_pos (Or.inl hlead)]; simp
    · by_cases hz : dl = [48]
      · refine (rnum_zero_m w s _ hs hne ha hsz hz).mono fun e w' he => hnone ?_ he
        rw [numB_minus, if_pos hz]
      · by_cases hlong : 19 < dl.length
        · refine (rnum_long_m w s _ hs hne ha hsz hlong (fun h => hlead ⟨by omega, h⟩)).mono fun e w' he => hnone ?_ he
          rw [numB_minus]; unfold magN; rw [if_pos (Or.inr hlong)]; simp
        · have hform : dl.length = 1 ∨ dl.head? ≠ some 48 := by
            by_cases h1 : dl.length = 1
            · exact Or.inl h1
            · exact Or.inr (fun h => hlead ⟨by have := List.length_pos_iff.2 hne; omega, h⟩)
          refine (rnum_good_m w s _ hs hne ha (by omega) hform hz).mono fun e w' he => ?_
          have e2 : numB (45 :: dl) = intW true (valA 0 dl) := by
            rw [numB_minus, if_neg hz]; unfold magN
            rw [if_neg (fun h => h.elim hlead hlong)]
            unfold intW
            rw [if_pos rfl]
          unfold NumAns
          rw [e2]; exact he
end Go.Proofs.YtohalcbhckahmaaDoor
namespace Go.Proofs.YtohalcbhckahmaaDoor
open Go Go.RowKit Go.Joins
set_option linter.all false

/-- What the document's token answers. -/
def RTokAns (w : World) (s : ByteArray) (k : Nat) (e : Ending) (w' : World) : Prop :=
  (match tokR (s.data.toList.drop k) with
    | .good so tx nu len => e = .returned (.tuple #[.agg #[.int .u8 so, .string ⟨tx.toArray⟩, I nu, I k], I ((k + len : Nat) : Int), I 0])
    | .bad c => e = .returned (.tuple #[.agg #[.int .u8 0, .string ⟨#[]⟩, I 0, I 0], I 0, I c])) ∧ New w w'
theorem rgood {w w' : World} {s : ByteArray} {k : Nat} {so nu : Int} {tx : List UInt8} {len : Nat} {T : ByteArray} {z : Nat} (ht : tokR (s.data.toList.drop k) = .good so tx nu len) (hT : (⟨tx.toArray⟩ : ByteArray) = T) (hz : k + len = z) (h : New w w') :
    RTokAns w s k (.returned (.tuple #[.agg #[.int .u8 so, .string T, I nu, I k], I (z : Int), I 0])) w' := by
  subst hT; subst hz
  unfold RTokAns; rw [ht]; exact ⟨rfl, h⟩
theorem rbad {w w' : World} {s : ByteArray} {k : Nat} {c : Int} (ht : tokR (s.data.toList.drop k) = .bad c) (h : New w w') : RTokAns w s k (.returned (.tuple #[.agg #[.int .u8 0, .string ⟨#[]⟩, I 0, I 0], I 0, I c])) w' := by
  unfold RTokAns; rw [ht]; exact ⟨rfl, h⟩
set_option maxRecDepth 100000 in
set_option maxHeartbeats 8000000 in
theorem rtok_word_i (w : World) (s : ByteArray) (k j : Nat) (hj : k + 1 = j) (hk : k < s.size) (hs : s.size ≤ 1048576) (hin : j < s.size) (hl : isLet (byteAt s k) = true) :
    Calls Tryd.prog 58 #[.string s, I k] w (RTokAns w s k) := by
  obtain ⟨PO, hPO⟩ : ∃ PO, PO = RTokAns w s k := ⟨_, rfl⟩
  rw [← hPO]
  have HPO := Lib.hid hPO
  have hdr := dropAt' s k hk
  have hlen := toList_len s
  have h255 := (byteAt s k).toNat_lt
  have hkI : (k : Int) < (s.size : Int) := by omega
  have hw1 : IntKind.i64.wrap ((k : Int) + 1) = (j : Int) := by rw [IntWalk.i64_in _ (by omega)]; omega
  have hbk : byteAt s k = s[k] := byteAt_in s k hk
  have hjI : (j : Int) < (s.size : Int) := by omega
  have hjs : j ≤ s.size := by omega
  have hb1 : byteAt s j = s[j] := byteAt_in s j hin
  rw [hj] at hdr
  obtain ⟨L, hL⟩ : ∃ L, s.data.toList.drop j = L := ⟨_, rfl⟩
  have hLlen : L.length = s.size - j := by rw [← hL, List.length_drop, hlen]
  have hLat : ∀ t (ht : t < s.size), j ≤ t → L[t - j]? = some s[t] := fun t ht h0 => by
    rw [← hL, List.getElem?_drop, show j + (t - j) = t by omega, Array.getElem?_toList]
    exact Array.getElem?_eq_getElem ht
  have hL0 : L.headD 0 = byteAt s j := by rw [← hL]; rfl
  rw [hL] at hdr
  have HL := Lib.hid hLlen
  have HAT := Lib.hid hLat
  have HJ := Lib.hid hj
  have HDR := Lib.hid hdr
  clear hPO hL hLlen hLat hlen
  have hins : isIns (byteAt s k) = true := (isIns_iff _).2 (Or.inl hl)
  have HTK : Hid (tokR (s.data.toList.drop k) = if 16 < (L.takeWhile isIns).length + 1 then .bad 42 else .good 1 (byteAt s k :: L.takeWhile isIns) 0 ((L.takeWhile isIns).length + 1)) := Lib.hid (by
    rw [hdr, tokR_cons, if_pos hl, List.takeWhile_cons, if_pos hins]; rfl)
  have hlet := fun W => rlet_any W ((byteAt s k).toNat : Int)
  have e1 : letterB ((byteAt s k).toNat : Int) = true := hl
  rw [e1, hbk] at hlet
  clear hins hdr e1 hl hb1 hL0 hj hbk
  go_enter Tryd.func58, Tryd.ntmps58
  go_wp2_with fail
  refine (hlet _).mono ?_
  rintro e w2 ⟨rfl, rfl⟩
  go_wp2_with fail
  go_loopw [9] (fun x wr => ∃ t : Nat, j ≤ t ∧ t ≤ s.size ∧ x = .int .i64 t ∧ Hid ((L.take (t - j)).all isIns = true) ∧ wr = w.alloc (.cells #[.int .u8 0, .string ⟨#[]⟩, I 0, I 0] 50)) (fun x _ => s.size - (intOf x).toNat)
  case atStart => exact ⟨j, Nat.le_refl _, hjs, by rfl, Lib.hid (by rw [Nat.sub_self]; rfl), rfl⟩
  case round =>
    obtain ⟨t, ht1, ht2, rfl, HA, rfl⟩ := hrel
    by_cases ht3 : t < s.size
    · have hjj : True := trivial
      have hi := fun W => rins_any W (s[t].toNat : Int)
      have hat := HAT.out t ht3 ht1
      have h256 : s[t].toNat < 256 := s[t].toNat_lt
      have htI : (t : Int) < (s.size : Int) := by omega
      have hwt : IntKind.i64.wrap ((t : Int) + 1) = (t : Int) + 1 := IntWalk.i64_in _ (by omega)
      have hfold : insideB (s[t].toNat : Int) = isIns s[t] := rfl
      rw [hfold] at hi
      clear hfold
      cases e2 : isIns s[t] with
      | true =>
        rw [e2] at hi
        have HA2 : Hid ((L.take (t + 1 - j)).all isIns = true) := Lib.hid (by
          rw [show t + 1 - j = (t - j) + 1 by omega, List.take_succ, hat, List.all_append, HA.out]
          simp [e2])
        clear e2 hat
        go_wp2_with fail
        refine (hi _).mono ?_
        rintro e w2 ⟨rfl, rfl⟩
        go_wp2_with fail
        go_roundw
        case rel => exact ⟨t + 1, by omega, by omega, by go_num, HA2, by first | rfl | trivial⟩
        case measure => simp [intOf]; omega
      | false =>
        rw [e2] at hi
        have HSP : Hid ((L.takeWhile isIns).length = t - j) := Lib.hid (takeWhile_cut _ _ _ HA.out (fun b hb => by rw [hat] at hb; cases hb; exact e2) (by rw [HL.out]; omega))
        clear e2 hat
        have hkt : (k : Int) ≤ (t : Int) := by have := HJ.out; omega
        have hts : (t : Int) ≤ (s.size : Int) := by omega
        have hsub : IntKind.i64.wrap ((t : Int) - (k : Int)) = (t : Int) - (k : Int) := IntWalk.i64_in _ (by omega)
        by_cases h16 : 16 < t - k
        · have HB : Hid (tokR (s.data.toList.drop k) = .bad 42) := Lib.hid (by rw [HTK.out, HSP.out, if_pos (by have := HJ.out; omega)])
          have hd16 : decide (16 < (t : Int) - (k : Int)) = true := decide_eq_true (by omega)
          go_wp2_with fail
          refine (hi _).mono ?_
          rintro e w2 ⟨rfl, rfl⟩
          go_wp2_with fail
          refine bodyPost_ret (v := .tuple #[.agg #[.int .u8 0, .string ⟨#[]⟩, I 0, I 0], I 0, I 42]) (by simp [results, Tryd.results58, go_sem]) rfl ?_
          rw [HPO.out]
          exact rbad HB.out ((New.refl w).alloc _)
        · obtain ⟨Wd, hWd⟩ : ∃ Wd, s.extract k t = Wd := ⟨_, rfl⟩
          have HWL : Hid ((⟨(byteAt s k :: L.takeWhile isIns).toArray⟩ : ByteArray) = Wd) := Lib.hid (by
            apply ByteArray.ext
            apply Array.toList_inj.1
            rw [← hWd, extract_list, HDR.out, show t - k = (t - j) + 1 by have := HJ.out; omega, List.take_succ_cons, ← HSP.out, takeWhile_take])
          have HG : Hid (tokR (s.data.toList.drop k) = .good 1 (byteAt s k :: L.takeWhile isIns) 0 ((L.takeWhile isIns).length + 1)) := Lib.hid (by rw [HTK.out, if_neg (by rw [HSP.out]; have := HJ.out; omega)])
          have hd16 : decide (16 < (t : Int) - (k : Int)) = false := decide_eq_false (by omega)
          go_wp2_with fail
          refine (hi _).mono ?_
          rintro e w2 ⟨rfl, rfl⟩
          go_wp2_with fail
          refine bodyPost_ret (v := .tuple #[.agg #[.int .u8 1, .string Wd, I 0, I k], I t, I 0]) (by simp [results, Tryd.results58, go_sem, hWd]) rfl ?_
          rw [HPO.out]
          exact rgood HG.out HWL.out (by rw [HSP.out]; have := HJ.out; omega) ((New.refl w).alloc _)
    · have HSP : Hid ((L.takeWhile isIns).length = t - j) := Lib.hid (takeWhile_cut _ _ _ HA.out (fun b hb => by rw [List.getElem?_eq_none (by rw [HL.out]; omega)] at hb; cases hb) (by rw [HL.out]; omega))
      have htI : ¬ (t : Int) < (s.size : Int) := by omega
      have hkt : (k : Int) ≤ (t : Int) := by have := HJ.out; omega
      have hts : (t : Int) ≤ (s.size : Int) := by omega
      have hsub : IntKind.i64.wrap ((t : Int) - (k : Int)) = (t : Int) - (k : Int) := IntWalk.i64_in _ (by omega)
      by_cases h16 : 16 < t - k
      · have HB : Hid (tokR (s.data.toList.drop k) = .bad 42) := Lib.hid (by rw [HTK.out, HSP.out, if_pos (by have := HJ.out; omega)])
        have hd16 : decide (16 < (t : Int) - (k : Int)) = true := decide_eq_true (by omega)
        go_wp2_with fail
        refine bodyPost_ret (v := .tuple #[.agg #[.int .u8 0, .string ⟨#[]⟩, I 0, I 0], I 0, I 42]) (by simp [results, Tryd.results58, go_sem]) rfl ?_
        rw [HPO.out]
        exact rbad HB.out ((New.refl w).alloc _)
      · obtain ⟨Wd, hWd⟩ : ∃ Wd, s.extract k t = Wd := ⟨_, rfl⟩
        have HWL : Hid ((⟨(byteAt s k :: L.takeWhile isIns).toArray⟩ : ByteArray) = Wd) := Lib.hid (by
          apply ByteArray.ext
          apply Array.toList_inj.1
          rw [← hWd, extract_list, HDR.out, show t - k = (t - j) + 1 by have := HJ.out; omega, List.take_succ_cons, ← HSP.out, takeWhile_take])
        have HG : Hid (tokR (s.data.toList.drop k) = .good 1 (byteAt s k :: L.takeWhile isIns) 0 ((L.takeWhile isIns).length + 1)) := Lib.hid (by rw [HTK.out, if_neg (by rw [HSP.out]; have := HJ.out; omega)])
        have hd16 : decide (16 < (t : Int) - (k : Int)) = false := decide_eq_false (by omega)
        go_wp2_with fail
        refine bodyPost_ret (v := .tuple #[.agg #[.int .u8 1, .string Wd, I 0, I k], I t, I 0]) (by simp [results, Tryd.results58, go_sem, hWd]) rfl ?_
        rw [HPO.out]
        exact rgood HG.out HWL.out (by rw [HSP.out]; have := HJ.out; omega) ((New.refl w).alloc _)
set_option maxRecDepth 100000 in
set_option maxHeartbeats 8000000 in
theorem rtok_word_o (w : World) (s : ByteArray) (k j : Nat) (hj : k + 1 = j) (hk : k < s.size) (hs : s.size ≤ 1048576) (hin : ¬ j < s.size) (hl : isLet (byteAt s k) = true) :
    Calls Tryd.prog 58 #[.string s, I k] w (RTokAns w s k) := by
  obtain ⟨PO, hPO⟩ : ∃ PO, PO = RTokAns w s k := ⟨_, rfl⟩
  rw [← hPO]
  have HPO := Lib.hid hPO
  have hdr := dropAt' s k hk
  have hlen := toList_len s
  have h255 := (byteAt s k).toNat_lt
  have hkI : (k : Int) < (s.size : Int) := by omega
  have hw1 : IntKind.i64.wrap ((k : Int) + 1) = (j : Int) := by rw [IntWalk.i64_in _ (by omega)]; omega
  have hbk : byteAt s k = s[k] := byteAt_in s k hk
  have hjI : ¬ (j : Int) < (s.size : Int) := by omega
  have hjs : j ≤ s.size := by omega
  have hb1 : byteAt s j = 0 := byteAt_out s j hin
  rw [hj] at hdr
  obtain ⟨L, hL⟩ : ∃ L, s.data.toList.drop j = L := ⟨_, rfl⟩
  have hLlen : L.length = s.size - j := by rw [← hL, List.length_drop, hlen]
  have hLat : ∀ t (ht : t < s.size), j ≤ t → L[t - j]? = some s[t] := fun t ht h0 => by
    rw [← hL, List.getElem?_drop, show j + (t - j) = t by omega, Array.getElem?_toList]
    exact Array.getElem?_eq_getElem ht
  have hL0 : L.headD 0 = byteAt s j := by rw [← hL]; rfl
  rw [hL] at hdr
  have HL := Lib.hid hLlen
  have HAT := Lib.hid hLat
  have HJ := Lib.hid hj
  have HDR := Lib.hid hdr
  clear hPO hL hLlen hLat hlen
  have hins : isIns (byteAt s k) = true := (isIns_iff _).2 (Or.inl hl)
  have HTK : Hid (tokR (s.data.toList.drop k) = if 16 < (L.takeWhile isIns).length + 1 then .bad 42 else .good 1 (byteAt s k :: L.takeWhile isIns) 0 ((L.takeWhile isIns).length + 1)) := Lib.hid (by
    rw [hdr, tokR_cons, if_pos hl, List.takeWhile_cons, if_pos hins]; rfl)
  have hlet := fun W => rlet_any W ((byteAt s k).toNat : Int)
  have e1 : letterB ((byteAt s k).toNat : Int) = true := hl
  rw [e1, hbk] at hlet
  clear hins hdr e1 hl hb1 hL0 hj hbk
  go_enter Tryd.func58, Tryd.ntmps58
  go_wp2_with fail
  refine (hlet _).mono ?_
  rintro e w2 ⟨rfl, rfl⟩
  go_wp2_with fail
  go_loopw [9] (fun x wr => ∃ t : Nat, j ≤ t ∧ t ≤ s.size ∧ x = .int .i64 t ∧ Hid ((L.take (t - j)).all isIns = true) ∧ wr = w.alloc (.cells #[.int .u8 0, .string ⟨#[]⟩, I 0, I 0] 50)) (fun x _ => s.size - (intOf x).toNat)
  case atStart => exact ⟨j, Nat.le_refl _, hjs, by rfl, Lib.hid (by rw [Nat.sub_self]; rfl), rfl⟩
  case round =>
    obtain ⟨t, ht1, ht2, rfl, HA, rfl⟩ := hrel
    by_cases ht3 : t < s.size
    · exact absurd ht3 (by omega)
    · have HSP : Hid ((L.takeWhile isIns).length = t - j) := Lib.hid (takeWhile_cut _ _ _ HA.out (fun b hb => by rw [List.getElem?_eq_none (by rw [HL.out]; omega)] at hb; cases hb) (by rw [HL.out]; omega))
      have htI : ¬ (t : Int) < (s.size : Int) := by omega
      have hkt : (k : Int) ≤ (t : Int) := by have := HJ.out; omega
      have hts : (t : Int) ≤ (s.size : Int) := by omega
      have hsub : IntKind.i64.wrap ((t : Int) - (k : Int)) = (t : Int) - (k : Int) := IntWalk.i64_in _ (by omega)
      by_cases h16 : 16 < t - k
      · have HB : Hid (tokR (s.data.toList.drop k) = .bad 42) := Lib.hid (by rw [HTK.out, HSP.out, if_pos (by have := HJ.out; omega)])
        have hd16 : decide (16 < (t : Int) - (k : Int)) = true := decide_eq_true (by omega)
        go_wp2_with fail
        refine bodyPost_ret (v := .tuple #[.agg #[.int .u8 0, .string ⟨#[]⟩, I 0, I 0], I 0, I 42]) (by simp [results, Tryd.results58, go_sem]) rfl ?_
        rw [HPO.out]
        exact rbad HB.out ((New.refl w).alloc _)
      · obtain ⟨Wd, hWd⟩ : ∃ Wd, s.extract k t = Wd := ⟨_, rfl⟩
        have HWL : Hid ((⟨(byteAt s k :: L.takeWhile isIns).toArray⟩ : ByteArray) = Wd) := Lib.hid (by
          apply ByteArray.ext
          apply Array.toList_inj.1
          rw [← hWd, extract_list, HDR.out, show t - k = (t - j) + 1 by have := HJ.out; omega, List.take_succ_cons, ← HSP.out, takeWhile_take])
        have HG : Hid (tokR (s.data.toList.drop k) = .good 1 (byteAt s k :: L.takeWhile isIns) 0 ((L.takeWhile isIns).length + 1)) := Lib.hid (by rw [HTK.out, if_neg (by rw [HSP.out]; have := HJ.out; omega)])
        have hd16 : decide (16 < (t : Int) - (k : Int)) = false := decide_eq_false (by omega)
        go_wp2_with fail
        refine bodyPost_ret (v := .tuple #[.agg #[.int .u8 1, .string Wd, I 0, I k], I t, I 0]) (by simp [results, Tryd.results58, go_sem, hWd]) rfl ?_
        rw [HPO.out]
        exact rgood HG.out HWL.out (by rw [HSP.out]; have := HJ.out; omega) ((New.refl w).alloc _)
theorem tok_stored {w : World} {R : Nat} {x0 x1 x2 x3 : Value} (h : w.heap[R]? = some (.cells #[x0, x1, x2, x3] 50 (0, 0))) (u0 u1 u2 u3 : Value) :
    ((((w.setCell ⟨R, 0, none⟩ u0).setCell ⟨R, 1, none⟩ u1).setCell ⟨R, 2, none⟩ u2).setCell ⟨R, 3, none⟩ u3).heap[R]? = some (.cells #[u0, u1, u2, u3] 50 (0, 0)) ∧ Keeps (fun k => k = R) w ((((w.setCell ⟨R, 0, none⟩ u0).setCell ⟨R, 1, none⟩ u1).setCell ⟨R, 2, none⟩ u2).setCell ⟨R, 3, none⟩ u3) := by
  have h1 := block_setCell (i := 0) h u0
  have h2 := block_setCell (i := 1) h1 u1
  have h3 := block_setCell (i := 2) h2 u2
  have h4 := block_setCell (i := 3) h3 u3
  refine ⟨by rw [h4]; simp, ?_⟩
  have k1 : Keeps (fun k => k = R) w (w.setCell ⟨R, 0, none⟩ u0) := Keeps.setCell w _ _ rfl
  have k2 : Keeps (fun k => k = R) (w.setCell ⟨R, 0, none⟩ u0) ((w.setCell ⟨R, 0, none⟩ u0).setCell ⟨R, 1, none⟩ u1) := Keeps.setCell _ _ _ rfl
  have k3 : Keeps (fun k => k = R) ((w.setCell ⟨R, 0, none⟩ u0).setCell ⟨R, 1, none⟩ u1) (((w.setCell ⟨R, 0, none⟩ u0).setCell ⟨R, 1, none⟩ u1).setCell ⟨R, 2, none⟩ u2) := Keeps.setCell _ _ _ rfl
  have k4 : Keeps (fun k => k = R) (((w.setCell ⟨R, 0, none⟩ u0).setCell ⟨R, 1, none⟩ u1).setCell ⟨R, 2, none⟩ u2) ((((w.setCell ⟨R, 0, none⟩ u0).setCell ⟨R, 1, none⟩ u1).setCell ⟨R, 2, none⟩ u2).setCell ⟨R, 3, none⟩ u3) := Keeps.setCell _ _ _ rfl
  exact ((k1.trans k2 (fun _ _ h => h)).trans k3 (fun _ _ h => h)).trans k4 (fun _ _ h => h)
theorem tokb_cells {w : World} {R : Nat} {x0 x1 x2 x3 : Value} (h : w.heap[R]? = some (.cells #[x0, x1, x2, x3] 50 (0, 0))) :
    w.cell? ⟨R, 0, none⟩ = some x0 ∧ w.cell? ⟨R, 1, none⟩ = some x1 ∧ w.cell? ⟨R, 2, none⟩ = some x2 ∧ w.cell? ⟨R, 3, none⟩ = some x3 ∧ w.frozen? ⟨R, 0, none⟩ = false ∧ w.frozen? ⟨R, 1, none⟩ = false ∧ w.frozen? ⟨R, 2, none⟩ = false ∧ w.frozen? ⟨R, 3, none⟩ = false ∧ R < w.heap.size := by
  refine ⟨?_, ?_, ?_, ?_, unfrozen_of_block h 0, unfrozen_of_block h 1, unfrozen_of_block h 2, unfrozen_of_block h 3, (Array.getElem?_eq_some_iff.1 h).1⟩
  · rw [cell_of_block h 0]; simp
  · rw [cell_of_block h 1]; simp
  · rw [cell_of_block h 2]; simp
  · rw [cell_of_block h 3]; simp
set_option maxRecDepth 100000 in
set_option maxHeartbeats 8000000 in
theorem rtok_digit_i (w : World) (s : ByteArray) (k j : Nat) (hj : k + 1 = j) (hk : k < s.size) (hs : s.size ≤ 1048576) (hin : j < s.size) (hl : isLet (byteAt s k) = false) (hd : isDig (byteAt s k) = true) :
    Calls Tryd.prog 58 #[.string s, I k] w (RTokAns w s k) := by
  obtain ⟨PO, hPO⟩ : ∃ PO, PO = RTokAns w s k := ⟨_, rfl⟩
  rw [← hPO]
  have HPO := Lib.hid hPO
  have hdr := dropAt' s k hk
  have hlen := toList_len s
  have h255 := (byteAt s k).toNat_lt
  have hkI : (k : Int) < (s.size : Int) := by omega
  have hw1 : IntKind.i64.wrap ((k : Int) + 1) = (j : Int) := by rw [IntWalk.i64_in _ (by omega)]; omega
  have hbk : byteAt s k = s[k] := byteAt_in s k hk
  have hjI : (j : Int) < (s.size : Int) := by omega
  have hjs : j ≤ s.size := by omega
  have hb1 : byteAt s j = s[j] := byteAt_in s j hin
  rw [hj] at hdr
  obtain ⟨L, hL⟩ : ∃ L, s.data.toList.drop j = L := ⟨_, rfl⟩
  have hLlen : L.length = s.size - j := by rw [← hL, List.length_drop, hlen]
  have hLat : ∀ t (ht : t < s.size), j ≤ t → L[t - j]? = some s[t] := fun t ht h0 => by
    rw [← hL, List.getElem?_drop, show j + (t - j) = t by omega, Array.getElem?_toList]
    exact Array.getElem?_eq_getElem ht
  have hL0 : L.headD 0 = byteAt s j := by rw [← hL]; rfl
  rw [hL] at hdr
  have HL := Lib.hid hLlen
  have HAT := Lib.hid hLat
  have HJ := Lib.hid hj
  have HDR := Lib.hid hdr
  clear hPO hL hLlen hLat hlen
  have hc : isDig (byteAt s k) = true ∨ ((byteAt s k).toNat = 45 ∧ isDig (L.headD 0) = true) := Or.inl hd
  have HC := Lib.hid hc
  have HT1 : Hid (∀ v, numB (byteAt s k :: L.takeWhile isDig) = some v → tokR (s.data.toList.drop k) = .good 2 [] v ((L.takeWhile isDig).length + 1)) := Lib.hid (by
    intro v hv
    rw [hdr, tokR_cons, if_neg (by rw [hl]; simp), if_pos hc, hv])
  have HT2 : Hid (numB (byteAt s k :: L.takeWhile isDig) = none → tokR (s.data.toList.drop k) = .bad 41) := Lib.hid (by
    intro hv
    rw [hdr, tokR_cons, if_neg (by rw [hl]; simp), if_pos hc, hv])
  have hlet := fun W => rlet_any W ((byteAt s k).toNat : Int)
  have hdig := fun W => rdig_any W ((byteAt s k).toNat : Int)
  have e1 : letterB ((byteAt s k).toNat : Int) = false := hl
  rw [e1, hbk] at hlet
  have e2 : digitB ((byteAt s k).toNat : Int) = true := hd
  rw [e2, hbk] at hdig
  clear hc hdr e1 e2 hl hd hb1 hL0 hj hbk
  go_enter Tryd.func58, Tryd.ntmps58
  go_wp2_with fail
  refine (hlet _).mono ?_
  rintro e w2 ⟨rfl, rfl⟩
  go_wp2_with fail
  refine (hdig _).mono ?_
  rintro e w2 ⟨rfl, rfl⟩
  go_wp2_with fail
  go_loopw [9] (fun x wr => ∃ t : Nat, j ≤ t ∧ t ≤ s.size ∧ x = .int .i64 t ∧ Hid ((L.take (t - j)).all isDig = true) ∧ wr = w.alloc (.cells #[.int .u8 0, .string ⟨#[]⟩, I 0, I 0] 50)) (fun x _ => s.size - (intOf x).toNat)
  case atStart => exact ⟨j, Nat.le_refl _, hjs, by rfl, Lib.hid (by rw [Nat.sub_self]; rfl), rfl⟩
  case round =>
    obtain ⟨t, ht1, ht2, rfl, HA, rfl⟩ := hrel
    by_cases ht3 : t < s.size
    · have hjj : True := trivial
      have hi := fun W => rdig_any W (s[t].toNat : Int)
      have hat := HAT.out t ht3 ht1
      have h256 : s[t].toNat < 256 := s[t].toNat_lt
      have htI : (t : Int) < (s.size : Int) := by omega
      have hwt : IntKind.i64.wrap ((t : Int) + 1) = (t : Int) + 1 := IntWalk.i64_in _ (by omega)
      have hfold : digitB (s[t].toNat : Int) = isDig s[t] := rfl
      rw [hfold] at hi
      clear hfold
      cases e2 : isDig s[t] with
      | true =>
        rw [e2] at hi
        have HA2 : Hid ((L.take (t + 1 - j)).all isDig = true) := Lib.hid (by
          rw [show t + 1 - j = (t - j) + 1 by omega, List.take_succ, hat, List.all_append, HA.out]
          simp [e2])
        clear e2 hat
        go_wp2_with fail
        refine (hi _).mono ?_
        rintro e w2 ⟨rfl, rfl⟩
        go_wp2_with fail
        go_roundw
        case rel => exact ⟨t + 1, by omega, by omega, by go_num, HA2, by first | rfl | trivial⟩
        case measure => simp [intOf]; omega
      | false =>
        rw [e2] at hi
        have HSP : Hid ((L.takeWhile isDig).length = t - j) := Lib.hid (takeWhile_cut _ _ _ HA.out (fun b hb => by rw [hat] at hb; cases hb; exact e2) (by rw [HL.out]; omega))
        clear e2 hat
        have hkt : (k : Int) ≤ (t : Int) := by have := HJ.out; omega
        have hts : (t : Int) ≤ (s.size : Int) := by omega
        obtain ⟨Wd, hWd⟩ : ∃ Wd, s.extract k t = Wd := ⟨_, rfl⟩
        have hWl : Wd.data.toList = byteAt s k :: L.takeWhile isDig := by
          rw [← hWd, extract_list, HDR.out, show t - k = (t - j) + 1 by have := HJ.out; omega, List.take_succ_cons, ← HSP.out, takeWhile_take]
        have hWs : Wd.size ≤ 1048577 := by rw [← toList_len, hWl, List.length_cons, HSP.out]; omega
        have hnum := fun W => rnum_any W Wd (byteAt s k) L hWl HC.out hWs
        have HZ : Hid (k + ((L.takeWhile isDig).length + 1) = t) := Lib.hid (by rw [HSP.out]; have := HJ.out; omega)
        clear hWl hWs
        go_wp2_with fail
        refine (hi _).mono ?_
        rintro e w2 ⟨rfl, rfl⟩
        go_wp2_with fail
        refine (hnum _).mono ?_
        rintro e w3 ⟨hm, n3⟩
        have hb3 := Keeps.heap n3 (heap_alloc_new w (.cells #[.int .u8 0, .string ⟨#[]⟩, I 0, I 0] 50)) (fun h => h)
        obtain ⟨r0, r1, r2, r3, f0, f1, f2, f3, hBB⟩ := tokb_cells hb3
        obtain ⟨nb, hnb⟩ : ∃ nb, numB (byteAt s k :: L.takeWhile isDig) = nb := ⟨_, rfl⟩
        rw [hnb] at hm
        cases nb with
        | some v =>
          simp only at hm
          subst hm
          obtain ⟨hst, kst⟩ := tok_stored hb3 (.int .u8 2) (.string ⟨#[]⟩) (I v) (I k)
          obtain ⟨x0, x1, x2, x3, y0, y1, y2, y3, hXX⟩ := tokb_cells hst
          have HF : Hid (PO (.returned (.tuple #[.agg #[.int .u8 2, .string ⟨#[]⟩, I v, I k], I t, I 0])) ((((w3.setCell ⟨w.heap.size, 0, none⟩ (.int .u8 2)).setCell ⟨w.heap.size, 1, none⟩ (.string ⟨#[]⟩)).setCell ⟨w.heap.size, 2, none⟩ (I v)).setCell ⟨w.heap.size, 3, none⟩ (I k))) := Lib.hid (by
            rw [HPO.out]
            exact rgood (HT1.out v hnb) rfl HZ.out (New.keeps (((New.refl w).alloc _).trans n3) kst (fun i hi hx => by omega)))
          clear hst kst hb3 n3 hnb
          go_wp2_with fail
          refine bodyPost_ret (v := .tuple #[.agg #[.int .u8 2, .string ⟨#[]⟩, I v, I k], I t, I 0]) (by simp [results, Tryd.results58, go_sem, x0, x1, x2, x3, y0, y1, y2, y3, hXX]) rfl ?_
          exact HF.out
        | none =>
          simp only at hm
          subst hm
          obtain ⟨hst, kst⟩ := tok_stored hb3 (.int .u8 0) (.string ⟨#[]⟩) (I 0) (I 0)
          obtain ⟨x0, x1, x2, x3, y0, y1, y2, y3, hXX⟩ := tokb_cells hst
          have HF : Hid (PO (.returned (.tuple #[.agg #[.int .u8 0, .string ⟨#[]⟩, I 0, I 0], I 0, I 41])) ((((w3.setCell ⟨w.heap.size, 0, none⟩ (.int .u8 0)).setCell ⟨w.heap.size, 1, none⟩ (.string ⟨#[]⟩)).setCell ⟨w.heap.size, 2, none⟩ (I 0)).setCell ⟨w.heap.size, 3, none⟩ (I 0))) := Lib.hid (by
            rw [HPO.out]
            exact rbad (HT2.out hnb) (New.keeps (((New.refl w).alloc _).trans n3) kst (fun i hi hx => by omega)))
          clear hst kst hb3 n3 hnb
          go_wp2_with fail
          refine bodyPost_ret (v := .tuple #[.agg #[.int .u8 0, .string ⟨#[]⟩, I 0, I 0], I 0, I 41]) (by simp [results, Tryd.results58, go_sem, x0, x1, x2, x3, y0, y1, y2, y3, hXX]) rfl ?_
          exact HF.out
    · have HSP : Hid ((L.takeWhile isDig).length = t - j) := Lib.hid (takeWhile_cut _ _ _ HA.out (fun b hb => by rw [List.getElem?_eq_none (by rw [HL.out]; omega)] at hb; cases hb) (by rw [HL.out]; omega))
      have htI : ¬ (t : Int) < (s.size : Int) := by omega
      have hkt : (k : Int) ≤ (t : Int) := by have := HJ.out; omega
      have hts : (t : Int) ≤ (s.size : Int) := by omega
      obtain ⟨Wd, hWd⟩ : ∃ Wd, s.extract k t = Wd := ⟨_, rfl⟩
      have hWl : Wd.data.toList = byteAt s k :: L.takeWhile isDig := by
        rw [← hWd, extract_list, HDR.out, show t - k = (t - j) + 1 by have := HJ.out; omega, List.take_succ_cons, ← HSP.out, takeWhile_take]
      have hWs : Wd.size ≤ 1048577 := by rw [← toList_len, hWl, List.length_cons, HSP.out]; omega
      have hnum := fun W => rnum_any W Wd (byteAt s k) L hWl HC.out hWs
      have HZ : Hid (k + ((L.takeWhile isDig).length + 1) = t) := Lib.hid (by rw [HSP.out]; have := HJ.out; omega)
      clear hWl hWs
      go_wp2_with fail
      refine (hnum _).mono ?_
      rintro e w3 ⟨hm, n3⟩
      have hb3 := Keeps.heap n3 (heap_alloc_new w (.cells #[.int .u8 0, .string ⟨#[]⟩, I 0, I 0] 50)) (fun h => h)
      obtain ⟨r0, r1, r2, r3, f0, f1, f2, f3, hBB⟩ := tokb_cells hb3
      obtain ⟨nb, hnb⟩ : ∃ nb, numB (byteAt s k :: L.takeWhile isDig) = nb := ⟨_, rfl⟩
      rw [hnb] at hm
      cases nb with
      | some v =>
        simp only at hm
        subst hm
        obtain ⟨hst, kst⟩ := tok_stored hb3 (.int .u8 2) (.string ⟨#[]⟩) (I v) (I k)
        obtain ⟨x0, x1, x2, x3, y0, y1, y2, y3, hXX⟩ := tokb_cells hst
        have HF : Hid (PO (.returned (.tuple #[.agg #[.int .u8 2, .string ⟨#[]⟩, I v, I k], I t, I 0])) ((((w3.setCell ⟨w.heap.size, 0, none⟩ (.int .u8 2)).setCell ⟨w.heap.size, 1, none⟩ (.string ⟨#[]⟩)).setCell ⟨w.heap.size, 2, none⟩ (I v)).setCell ⟨w.heap.size, 3, none⟩ (I k))) := Lib.hid (by
          rw [HPO.out]
          exact rgood (HT1.out v hnb) rfl HZ.out (New.keeps (((New.refl w).alloc _).trans n3) kst (fun i hi hx => by omega)))
        clear hst kst hb3 n3 hnb
        go_wp2_with fail
        refine bodyPost_ret (v := .tuple #[.agg #[.int .u8 2, .string ⟨#[]⟩, I v, I k], I t, I 0]) (by simp [results, Tryd.results58, go_sem, x0, x1, x2, x3, y0, y1, y2, y3, hXX]) rfl ?_
        exact HF.out
      | none =>
        simp only at hm
        subst hm
        obtain ⟨hst, kst⟩ := tok_stored hb3 (.int .u8 0) (.string ⟨#[]⟩) (I 0) (I 0)
        obtain ⟨x0, x1, x2, x3, y0, y1, y2, y3, hXX⟩ := tokb_cells hst
        have HF : Hid (PO (.returned (.tuple #[.agg #[.int .u8 0, .string ⟨#[]⟩, I 0, I 0], I 0, I 41])) ((((w3.setCell ⟨w.heap.size, 0, none⟩ (.int .u8 0)).setCell ⟨w.heap.size, 1, none⟩ (.string ⟨#[]⟩)).setCell ⟨w.heap.size, 2, none⟩ (I 0)).setCell ⟨w.heap.size, 3, none⟩ (I 0))) := Lib.hid (by
          rw [HPO.out]
          exact rbad (HT2.out hnb) (New.keeps (((New.refl w).alloc _).trans n3) kst (fun i hi hx => by omega)))
        clear hst kst hb3 n3 hnb
        go_wp2_with fail
        refine bodyPost_ret (v := .tuple #[.agg #[.int .u8 0, .string ⟨#[]⟩, I 0, I 0], I 0, I 41]) (by simp [results, Tryd.results58, go_sem, x0, x1, x2, x3, y0, y1, y2, y3, hXX]) rfl ?_
        exact HF.out
set_option maxRecDepth 100000 in
set_option maxHeartbeats 8000000 in
theorem rtok_digit_o (w : World) (s : ByteArray) (k j : Nat) (hj : k + 1 = j) (hk : k < s.size) (hs : s.size ≤ 1048576) (hin : ¬ j < s.size) (hl : isLet (byteAt s k) = false) (hd : isDig (byteAt s k) = true) :
    Calls Tryd.prog 58 #[.string s, I k] w (RTokAns w s k) := by
  obtain ⟨PO, hPO⟩ : ∃ PO, PO = RTokAns w s k := ⟨_, rfl⟩
  rw [← hPO]
  have HPO := Lib.hid hPO
  have hdr := dropAt' s k hk
  have hlen := toList_len s
  have h255 := (byteAt s k).toNat_lt
  have hkI : (k : Int) < (s.size : Int) := by omega
  have hw1 : IntKind.i64.wrap ((k : Int) + 1) = (j : Int) := by rw [IntWalk.i64_in _ (by omega)]; omega
  have hbk : byteAt s k = s[k] := byteAt_in s k hk
  have hjI : ¬ (j : Int) < (s.size : Int) := by omega
  have hjs : j ≤ s.size := by omega
  have hb1 : byteAt s j = 0 := byteAt_out s j hin
  rw [hj] at hdr
  obtain ⟨L, hL⟩ : ∃ L, s.data.toList.drop j = L := ⟨_, rfl⟩
  have hLlen : L.length = s.size - j := by rw [← hL, List.length_drop, hlen]
  have hLat : ∀ t (ht : t < s.size), j ≤ t → L[t - j]? = some s[t] := fun t ht h0 => by
    rw [← hL, List.getElem?_drop, show j + (t - j) = t by omega, Array.getElem?_toList]
    exact Array.getElem?_eq_getElem ht
  have hL0 : L.headD 0 = byteAt s j := by rw [← hL]; rfl
  rw [hL] at hdr
  have HL := Lib.hid hLlen
  have HAT := Lib.hid hLat
  have HJ := Lib.hid hj
  have HDR := Lib.hid hdr
  clear hPO hL hLlen hLat hlen
  have hc : isDig (byteAt s k) = true ∨ ((byteAt s k).toNat = 45 ∧ isDig (L.headD 0) = true) := Or.inl hd
  have HC := Lib.hid hc
  have HT1 : Hid (∀ v, numB (byteAt s k :: L.takeWhile isDig) = some v → tokR (s.data.toList.drop k) = .good 2 [] v ((L.takeWhile isDig).length + 1)) := Lib.hid (by
    intro v hv
    rw [hdr, tokR_cons, if_neg (by rw [hl]; simp), if_pos hc, hv])
  have HT2 : Hid (numB (byteAt s k :: L.takeWhile isDig) = none → tokR (s.data.toList.drop k) = .bad 41) := Lib.hid (by
    intro hv
    rw [hdr, tokR_cons, if_neg (by rw [hl]; simp), if_pos hc, hv])
  have hlet := fun W => rlet_any W ((byteAt s k).toNat : Int)
  have hdig := fun W => rdig_any W ((byteAt s k).toNat : Int)
  have e1 : letterB ((byteAt s k).toNat : Int) = false := hl
  rw [e1, hbk] at hlet
  have e2 : digitB ((byteAt s k).toNat : Int) = true := hd
  rw [e2, hbk] at hdig
  clear hc hdr e1 e2 hl hd hb1 hL0 hj hbk
  go_enter Tryd.func58, Tryd.ntmps58
  go_wp2_with fail
  refine (hlet _).mono ?_
  rintro e w2 ⟨rfl, rfl⟩
  go_wp2_with fail
  refine (hdig _).mono ?_
  rintro e w2 ⟨rfl, rfl⟩
  go_wp2_with fail
  go_loopw [9] (fun x wr => ∃ t : Nat, j ≤ t ∧ t ≤ s.size ∧ x = .int .i64 t ∧ Hid ((L.take (t - j)).all isDig = true) ∧ wr = w.alloc (.cells #[.int .u8 0, .string ⟨#[]⟩, I 0, I 0] 50)) (fun x _ => s.size - (intOf x).toNat)
  case atStart => exact ⟨j, Nat.le_refl _, hjs, by rfl, Lib.hid (by rw [Nat.sub_self]; rfl), rfl⟩
  case round =>
    obtain ⟨t, ht1, ht2, rfl, HA, rfl⟩ := hrel
    by_cases ht3 : t < s.size
    · exact absurd ht3 (by omega)
    · have HSP : Hid ((L.takeWhile isDig).length = t - j) := Lib.hid (takeWhile_cut _ _ _ HA.out (fun b hb => by rw [List.getElem?_eq_none (by rw [HL.out]; omega)] at hb; cases hb) (by rw [HL.out]; omega))
      have htI : ¬ (t : Int) < (s.size : Int) := by omega
      have hkt : (k : Int) ≤ (t : Int) := by have := HJ.out; omega
      have hts : (t : Int) ≤ (s.size : Int) := by omega
      obtain ⟨Wd, hWd⟩ : ∃ Wd, s.extract k t = Wd := ⟨_, rfl⟩
      have hWl : Wd.data.toList = byteAt s k :: L.takeWhile isDig := by
        rw [← hWd, extract_list, HDR.out, show t - k = (t - j) + 1 by have := HJ.out; omega, List.take_succ_cons, ← HSP.out, takeWhile_take]
      have hWs : Wd.size ≤ 1048577 := by rw [← toList_len, hWl, List.length_cons, HSP.out]; omega
      have hnum := fun W => rnum_any W Wd (byteAt s k) L hWl HC.out hWs
      have HZ : Hid (k + ((L.takeWhile isDig).length + 1) = t) := Lib.hid (by rw [HSP.out]; have := HJ.out; omega)
      clear hWl hWs
      go_wp2_with fail
      refine (hnum _).mono ?_
      rintro e w3 ⟨hm, n3⟩
      have hb3 := Keeps.heap n3 (heap_alloc_new w (.cells #[.int .u8 0, .string ⟨#[]⟩, I 0, I 0] 50)) (fun h => h)
      obtain ⟨r0, r1, r2, r3, f0, f1, f2, f3, hBB⟩ := tokb_cells hb3
      obtain ⟨nb, hnb⟩ : ∃ nb, numB (byteAt s k :: L.takeWhile isDig) = nb := ⟨_, rfl⟩
      rw [hnb] at hm
      cases nb with
      | some v =>
        simp only at hm
        subst hm
        obtain ⟨hst, kst⟩ := tok_stored hb3 (.int .u8 2) (.string ⟨#[]⟩) (I v) (I k)
        obtain ⟨x0, x1, x2, x3, y0, y1, y2, y3, hXX⟩ := tokb_cells hst
        have HF : Hid (PO (.returned (.tuple #[.agg #[.int .u8 2, .string ⟨#[]⟩, I v, I k], I t, I 0])) ((((w3.setCell ⟨w.heap.size, 0, none⟩ (.int .u8 2)).setCell ⟨w.heap.size, 1, none⟩ (.string ⟨#[]⟩)).setCell ⟨w.heap.size, 2, none⟩ (I v)).setCell ⟨w.heap.size, 3, none⟩ (I k))) := Lib.hid (by
          rw [HPO.out]
          exact rgood (HT1.out v hnb) rfl HZ.out (New.keeps (((New.refl w).alloc _).trans n3) kst (fun i hi hx => by omega)))
        clear hst kst hb3 n3 hnb
        go_wp2_with fail
        refine bodyPost_ret (v := .tuple #[.agg #[.int .u8 2, .string ⟨#[]⟩, I v, I k], I t, I 0]) (by simp [results, Tryd.results58, go_sem, x0, x1, x2, x3, y0, y1, y2, y3, hXX]) rfl ?_
        exact HF.out
      | none =>
        simp only at hm
        subst hm
        obtain ⟨hst, kst⟩ := tok_stored hb3 (.int .u8 0) (.string ⟨#[]⟩) (I 0) (I 0)
        obtain ⟨x0, x1, x2, x3, y0, y1, y2, y3, hXX⟩ := tokb_cells hst
        have HF : Hid (PO (.returned (.tuple #[.agg #[.int .u8 0, .string ⟨#[]⟩, I 0, I 0], I 0, I 41])) ((((w3.setCell ⟨w.heap.size, 0, none⟩ (.int .u8 0)).setCell ⟨w.heap.size, 1, none⟩ (.string ⟨#[]⟩)).setCell ⟨w.heap.size, 2, none⟩ (I 0)).setCell ⟨w.heap.size, 3, none⟩ (I 0))) := Lib.hid (by
          rw [HPO.out]
          exact rbad (HT2.out hnb) (New.keeps (((New.refl w).alloc _).trans n3) kst (fun i hi hx => by omega)))
        clear hst kst hb3 n3 hnb
        go_wp2_with fail
        refine bodyPost_ret (v := .tuple #[.agg #[.int .u8 0, .string ⟨#[]⟩, I 0, I 0], I 0, I 41]) (by simp [results, Tryd.results58, go_sem, x0, x1, x2, x3, y0, y1, y2, y3, hXX]) rfl ?_
        exact HF.out
set_option maxRecDepth 100000 in
set_option maxHeartbeats 8000000 in
theorem rtok_minus_i (w : World) (s : ByteArray) (k j : Nat) (hj : k + 1 = j) (hk : k < s.size) (hs : s.size ≤ 1048576) (hin : j < s.size) (h45 : (byteAt s k).toNat = 45) (hd1 : isDig (byteAt s j) = true) :
    Calls Tryd.prog 58 #[.string s, I k] w (RTokAns w s k) := by
  obtain ⟨PO, hPO⟩ : ∃ PO, PO = RTokAns w s k := ⟨_, rfl⟩
  rw [← hPO]
  have HPO := Lib.hid hPO
  have hdr := dropAt' s k hk
  have hlen := toList_len s
  have h255 := (byteAt s k).toNat_lt
  have hkI : (k : Int) < (s.size : Int) := by omega
  have hw1 : IntKind.i64.wrap ((k : Int) + 1) = (j : Int) := by rw [IntWalk.i64_in _ (by omega)]; omega
  have hbk : byteAt s k = s[k] := byteAt_in s k hk
  have hjI : (j : Int) < (s.size : Int) := by omega
  have hjs : j ≤ s.size := by omega
  have hb1 : byteAt s j = s[j] := byteAt_in s j hin
  rw [hj] at hdr
  obtain ⟨L, hL⟩ : ∃ L, s.data.toList.drop j = L := ⟨_, rfl⟩
  have hLlen : L.length = s.size - j := by rw [← hL, List.length_drop, hlen]
  have hLat : ∀ t (ht : t < s.size), j ≤ t → L[t - j]? = some s[t] := fun t ht h0 => by
    rw [← hL, List.getElem?_drop, show j + (t - j) = t by omega, Array.getElem?_toList]
    exact Array.getElem?_eq_getElem ht
  have hL0 : L.headD 0 = byteAt s j := by rw [← hL]; rfl
  rw [hL] at hdr
  have HL := Lib.hid hLlen
  have HAT := Lib.hid hLat
  have HJ := Lib.hid hj
  have HDR := Lib.hid hdr
  clear hPO hL hLlen hLat hlen
  have hl : isLet (byteAt s k) = false := by
    cases e : isLet (byteAt s k) with
    | false => rfl
    | true => have := (isLet_iff _).1 e; omega
  have hd : isDig (byteAt s k) = false := by
    cases e : isDig (byteAt s k) with
    | false => rfl
    | true => have := (isDig_iff _).1 e; omega
  have e45 : ((s[k].toNat : Int) == 45) = true := by rw [← hbk]; exact b_yes (k := 45) h45
  have hdg1 := fun W => rdig_any W ((byteAt s j).toNat : Int)
  have hc : isDig (byteAt s k) = true ∨ ((byteAt s k).toNat = 45 ∧ isDig (L.headD 0) = true) := Or.inr ⟨h45, by rw [hL0]; exact hd1⟩
  have HC := Lib.hid hc
  have HT1 : Hid (∀ v, numB (byteAt s k :: L.takeWhile isDig) = some v → tokR (s.data.toList.drop k) = .good 2 [] v ((L.takeWhile isDig).length + 1)) := Lib.hid (by
    intro v hv
    rw [hdr, tokR_cons, if_neg (by rw [hl]; simp), if_pos hc, hv])
  have HT2 : Hid (numB (byteAt s k :: L.takeWhile isDig) = none → tokR (s.data.toList.drop k) = .bad 41) := Lib.hid (by
    intro hv
    rw [hdr, tokR_cons, if_neg (by rw [hl]; simp), if_pos hc, hv])
  have hlet := fun W => rlet_any W ((byteAt s k).toNat : Int)
  have hdig := fun W => rdig_any W ((byteAt s k).toNat : Int)
  have e1 : letterB ((byteAt s k).toNat : Int) = false := hl
  rw [e1, hbk] at hlet
  have e2 : digitB ((byteAt s k).toNat : Int) = false := hd
  have e3 : digitB ((byteAt s j).toNat : Int) = true := hd1
  rw [e2, hbk] at hdig
  rw [e3, hb1] at hdg1
  clear hc hdr e1 e2 e3 hl hd hb1 hL0 hj hbk h45 hd1
  go_enter Tryd.func58, Tryd.ntmps58
  go_wp2_with fail
  refine (hlet _).mono ?_
  rintro e w2 ⟨rfl, rfl⟩
  go_wp2_with fail
  refine (hdig _).mono ?_
  rintro e w2 ⟨rfl, rfl⟩
  go_wp2_with fail
  refine (hdg1 _).mono ?_
  rintro e w2 ⟨rfl, rfl⟩
  go_wp2_with fail
  go_loopw [9] (fun x wr => ∃ t : Nat, j ≤ t ∧ t ≤ s.size ∧ x = .int .i64 t ∧ Hid ((L.take (t - j)).all isDig = true) ∧ wr = w.alloc (.cells #[.int .u8 0, .string ⟨#[]⟩, I 0, I 0] 50)) (fun x _ => s.size - (intOf x).toNat)
  case atStart => exact ⟨j, Nat.le_refl _, hjs, by rfl, Lib.hid (by rw [Nat.sub_self]; rfl), rfl⟩
  case round =>
    obtain ⟨t, ht1, ht2, rfl, HA, rfl⟩ := hrel
    by_cases ht3 : t < s.size
    · have hjj : True := trivial
      have hi := fun W => rdig_any W (s[t].toNat : Int)
      have hat := HAT.out t ht3 ht1
      have h256 : s[t].toNat < 256 := s[t].toNat_lt
      have htI : (t : Int) < (s.size : Int) := by omega
      have hwt : IntKind.i64.wrap ((t : Int) + 1) = (t : Int) + 1 := IntWalk.i64_in _ (by omega)
      have hfold : digitB (s[t].toNat : Int) = isDig s[t] := rfl
      rw [hfold] at hi
      clear hfold
      cases e2 : isDig s[t] with
      | true =>
        rw [e2] at hi
        have HA2 : Hid ((L.take (t + 1 - j)).all isDig = true) := Lib.hid (by
          rw [show t + 1 - j = (t - j) + 1 by omega, List.take_succ, hat, List.all_append, HA.out]
          simp [e2])
        clear e2 hat
        go_wp2_with fail
        refine (hi _).mono ?_
        rintro e w2 ⟨rfl, rfl⟩
        go_wp2_with fail
        go_roundw
        case rel => exact ⟨t + 1, by omega, by omega, by go_num, HA2, by first | rfl | trivial⟩
        case measure => simp [intOf]; omega
      | false =>
        rw [e2] at hi
        have HSP : Hid ((L.takeWhile isDig).length = t - j) := Lib.hid (takeWhile_cut _ _ _ HA.out (fun b hb => by rw [hat] at hb; cases hb; exact e2) (by rw [HL.out]; omega))
        clear e2 hat
        have hkt : (k : Int) ≤ (t : Int) := by have := HJ.out; omega
        have hts : (t : Int) ≤ (s.size : Int) := by omega
        obtain ⟨Wd, hWd⟩ : ∃ Wd, s.extract k t = Wd := ⟨_, rfl⟩
        have hWl : Wd.data.toList = byteAt s k :: L.takeWhile isDig := by
          rw [← hWd, extract_list, HDR.out, show t - k = (t - j) + 1 by have := HJ.out; omega, List.take_succ_cons, ← HSP.out, takeWhile_take]
        have hWs : Wd.size ≤ 1048577 := by rw [← toList_len, hWl, List.length_cons, HSP.out]; omega
        have hnum := fun W => rnum_any W Wd (byteAt s k) L hWl HC.out hWs
        have HZ : Hid (k + ((L.takeWhile isDig).length + 1) = t) := Lib.hid (by rw [HSP.out]; have := HJ.out; omega)
        clear hWl hWs
        go_wp2_with fail
        refine (hi _).mono ?_
        rintro e w2 ⟨rfl, rfl⟩
        go_wp2_with fail
        refine (hnum _).mono ?_
        rintro e w3 ⟨hm, n3⟩
        have hb3 := Keeps.heap n3 (heap_alloc_new w (.cells #[.int .u8 0, .string ⟨#[]⟩, I 0, I 0] 50)) (fun h => h)
        obtain ⟨r0, r1, r2, r3, f0, f1, f2, f3, hBB⟩ := tokb_cells hb3
        obtain ⟨nb, hnb⟩ : ∃ nb, numB (byteAt s k :: L.takeWhile isDig) = nb := ⟨_, rfl⟩
        rw [hnb] at hm
        cases nb with
        | some v =>
          simp only at hm
          subst hm
          obtain ⟨hst, kst⟩ := tok_stored hb3 (.int .u8 2) (.string ⟨#[]⟩) (I v) (I k)
          obtain ⟨x0, x1, x2, x3, y0, y1, y2, y3, hXX⟩ := tokb_cells hst
          have HF : Hid (PO (.returned (.tuple #[.agg #[.int .u8 2, .string ⟨#[]⟩, I v, I k], I t, I 0])) ((((w3.setCell ⟨w.heap.size, 0, none⟩ (.int .u8 2)).setCell ⟨w.heap.size, 1, none⟩ (.string ⟨#[]⟩)).setCell ⟨w.heap.size, 2, none⟩ (I v)).setCell ⟨w.heap.size, 3, none⟩ (I k))) := Lib.hid (by
            rw [HPO.out]
            exact rgood (HT1.out v hnb) rfl HZ.out (New.keeps (((New.refl w).alloc _).trans n3) kst (fun i hi hx => by omega)))
          clear hst kst hb3 n3 hnb
          go_wp2_with fail
          refine bodyPost_ret (v := .tuple #[.agg #[.int .u8 2, .string ⟨#[]⟩, I v, I k], I t, I 0]) (by simp [results, Tryd.results58, go_sem, x0, x1, x2, x3, y0, y1, y2, y3, hXX]) rfl ?_
          exact HF.out
        | none =>
          simp only at hm
          subst hm
          obtain ⟨hst, kst⟩ := tok_stored hb3 (.int .u8 0) (.string ⟨#[]⟩) (I 0) (I 0)
          obtain ⟨x0, x1, x2, x3, y0, y1, y2, y3, hXX⟩ := tokb_cells hst
          have HF : Hid (PO (.returned (.tuple #[.agg #[.int .u8 0, .string ⟨#[]⟩, I 0, I 0], I 0, I 41])) ((((w3.setCell ⟨w.heap.size, 0, none⟩ (.int .u8 0)).setCell ⟨w.heap.size, 1, none⟩ (.string ⟨#[]⟩)).setCell ⟨w.heap.size, 2, none⟩ (I 0)).setCell ⟨w.heap.size, 3, none⟩ (I 0))) := Lib.hid (by
            rw [HPO.out]
            exact rbad (HT2.out hnb) (New.keeps (((New.refl w).alloc _).trans n3) kst (fun i hi hx => by omega)))
          clear hst kst hb3 n3 hnb
          go_wp2_with fail
          refine bodyPost_ret (v := .tuple #[.agg #[.int .u8 0, .string ⟨#[]⟩, I 0, I 0], I 0, I 41]) (by simp [results, Tryd.results58, go_sem, x0, x1, x2, x3, y0, y1, y2, y3, hXX]) rfl ?_
          exact HF.out
    · have HSP : Hid ((L.takeWhile isDig).length = t - j) := Lib.hid (takeWhile_cut _ _ _ HA.out (fun b hb => by rw [List.getElem?_eq_none (by rw [HL.out]; omega)] at hb; cases hb) (by rw [HL.out]; omega))
      have htI : ¬ (t : Int) < (s.size : Int) := by omega
      have hkt : (k : Int) ≤ (t : Int) := by have := HJ.out; omega
      have hts : (t : Int) ≤ (s.size : Int) := by omega
      obtain ⟨Wd, hWd⟩ : ∃ Wd, s.extract k t = Wd := ⟨_, rfl⟩
      have hWl : Wd.data.toList = byteAt s k :: L.takeWhile isDig := by
        rw [← hWd, extract_list, HDR.out, show t - k = (t - j) + 1 by have := HJ.out; omega, List.take_succ_cons, ← HSP.out, takeWhile_take]
      have hWs : Wd.size ≤ 1048577 := by rw [← toList_len, hWl, List.length_cons, HSP.out]; omega
      have hnum := fun W => rnum_any W Wd (byteAt s k) L hWl HC.out hWs
      have HZ : Hid (k + ((L.takeWhile isDig).length + 1) = t) := Lib.hid (by rw [HSP.out]; have := HJ.out; omega)
      clear hWl hWs
      go_wp2_with fail
      refine (hnum _).mono ?_
      rintro e w3 ⟨hm, n3⟩
      have hb3 := Keeps.heap n3 (heap_alloc_new w (.cells #[.int .u8 0, .string ⟨#[]⟩, I 0, I 0] 50)) (fun h => h)
      obtain ⟨r0, r1, r2, r3, f0, f1, f2, f3, hBB⟩ := tokb_cells hb3
      obtain ⟨nb, hnb⟩ : ∃ nb, numB (byteAt s k :: L.takeWhile isDig) = nb := ⟨_, rfl⟩
      rw [hnb] at hm
      cases nb with
      | some v =>
        simp only at hm
        subst hm
        obtain ⟨hst, kst⟩ := tok_stored hb3 (.int .u8 2) (.string ⟨#[]⟩) (I v) (I k)
        obtain ⟨x0, x1, x2, x3, y0, y1, y2, y3, hXX⟩ := tokb_cells hst
        have HF : Hid (PO (.returned (.tuple #[.agg #[.int .u8 2, .string ⟨#[]⟩, I v, I k], I t, I 0])) ((((w3.setCell ⟨w.heap.size, 0, none⟩ (.int .u8 2)).setCell ⟨w.heap.size, 1, none⟩ (.string ⟨#[]⟩)).setCell ⟨w.heap.size, 2, none⟩ (I v)).setCell ⟨w.heap.size, 3, none⟩ (I k))) := Lib.hid (by
          rw [HPO.out]
          exact rgood (HT1.out v hnb) rfl HZ.out (New.keeps (((New.refl w).alloc _).trans n3) kst (fun i hi hx => by omega)))
        clear hst kst hb3 n3 hnb
        go_wp2_with fail
        refine bodyPost_ret (v := .tuple #[.agg #[.int .u8 2, .string ⟨#[]⟩, I v, I k], I t, I 0]) (by simp [results, Tryd.results58, go_sem, x0, x1, x2, x3, y0, y1, y2, y3, hXX]) rfl ?_
        exact HF.out
      | none =>
        simp only at hm
        subst hm
        obtain ⟨hst, kst⟩ := tok_stored hb3 (.int .u8 0) (.string ⟨#[]⟩) (I 0) (I 0)
        obtain ⟨x0, x1, x2, x3, y0, y1, y2, y3, hXX⟩ := tokb_cells hst
        have HF : Hid (PO (.returned (.tuple #[.agg #[.int .u8 0, .string ⟨#[]⟩, I 0, I 0], I 0, I 41])) ((((w3.setCell ⟨w.heap.size, 0, none⟩ (.int .u8 0)).setCell ⟨w.heap.size, 1, none⟩ (.string ⟨#[]⟩)).setCell ⟨w.heap.size, 2, none⟩ (I 0)).setCell ⟨w.heap.size, 3, none⟩ (I 0))) := Lib.hid (by
          rw [HPO.out]
          exact rbad (HT2.out hnb) (New.keeps (((New.refl w).alloc _).trans n3) kst (fun i hi hx => by omega)))
        clear hst kst hb3 n3 hnb
        go_wp2_with fail
        refine bodyPost_ret (v := .tuple #[.agg #[.int .u8 0, .string ⟨#[]⟩, I 0, I 0], I 0, I 41]) (by simp [results, Tryd.results58, go_sem, x0, x1, x2, x3, y0, y1, y2, y3, hXX]) rfl ?_
        exact HF.out
set_option maxRecDepth 100000 in
set_option maxHeartbeats 8000000 in
theorem rtok_arrow_i (w : World) (s : ByteArray) (k j : Nat) (hj : k + 1 = j) (hk : k < s.size) (hs : s.size ≤ 1048576) (hin : j < s.size) (h45 : (byteAt s k).toNat = 45) (hd1 : isDig (byteAt s j) = false) (h62 : (byteAt s j).toNat = 62) :
    Calls Tryd.prog 58 #[.string s, I k] w (RTokAns w s k) := by
  obtain ⟨PO, hPO⟩ : ∃ PO, PO = RTokAns w s k := ⟨_, rfl⟩
  rw [← hPO]
  have HPO := Lib.hid hPO
  have hdr := dropAt' s k hk
  have hlen := toList_len s
  have h255 := (byteAt s k).toNat_lt
  have hkI : (k : Int) < (s.size : Int) := by omega
  have hw1 : IntKind.i64.wrap ((k : Int) + 1) = (j : Int) := by rw [IntWalk.i64_in _ (by omega)]; omega
  have hbk : byteAt s k = s[k] := byteAt_in s k hk
  have hjI : (j : Int) < (s.size : Int) := by omega
  have hjs : j ≤ s.size := by omega
  have hb1 : byteAt s j = s[j] := byteAt_in s j hin
  rw [hj] at hdr
  obtain ⟨L, hL⟩ : ∃ L, s.data.toList.drop j = L := ⟨_, rfl⟩
  have hLlen : L.length = s.size - j := by rw [← hL, List.length_drop, hlen]
  have hLat : ∀ t (ht : t < s.size), j ≤ t → L[t - j]? = some s[t] := fun t ht h0 => by
    rw [← hL, List.getElem?_drop, show j + (t - j) = t by omega, Array.getElem?_toList]
    exact Array.getElem?_eq_getElem ht
  have hL0 : L.headD 0 = byteAt s j := by rw [← hL]; rfl
  rw [hL] at hdr
  have HL := Lib.hid hLlen
  have HAT := Lib.hid hLat
  have HJ := Lib.hid hj
  have HDR := Lib.hid hdr
  clear hPO hL hLlen hLat hlen
  have hl : isLet (byteAt s k) = false := by
    cases e : isLet (byteAt s k) with
    | false => rfl
    | true => have := (isLet_iff _).1 e; omega
  have hd : isDig (byteAt s k) = false := by
    cases e : isDig (byteAt s k) with
    | false => rfl
    | true => have := (isDig_iff _).1 e; omega
  have e45 : ((s[k].toNat : Int) == 45) = true := by rw [← hbk]; exact b_yes (k := 45) h45
  have hdg1 := fun W => rdig_any W ((byteAt s j).toNat : Int)
  have HT : Hid (tokR (s.data.toList.drop k) = .good 3 [45, 62] 0 2) := Lib.hid (by
    have hn1 : ¬ (isDig (byteAt s k) = true ∨ ((byteAt s k).toNat = 45 ∧ isDig (L.headD 0) = true)) := by
      rintro (x | ⟨_, x⟩)
      · rw [hd] at x; cases x
      · rw [hL0, hd1] at x; cases x
    rw [hdr, tokR_cons, if_neg (by rw [hl]; simp), if_neg hn1, hL0]
    rw [if_pos ⟨h45, h62⟩])
  have hlet := fun W => rlet_any W ((byteAt s k).toNat : Int)
  have hdig := fun W => rdig_any W ((byteAt s k).toNat : Int)
  have e1 : letterB ((byteAt s k).toNat : Int) = false := hl
  have e2 : digitB ((byteAt s k).toNat : Int) = false := hd
  have e3 : digitB ((byteAt s j).toNat : Int) = false := hd1
  rw [e1, hbk] at hlet
  rw [e2, hbk] at hdig

  have e62 : ((s[j].toNat : Int) == 62) = true := by rw [← hb1]; exact b_yes (k := 62) h62
  have hw2 : IntKind.i64.wrap ((k : Int) + 2) = ((k + 2 : Nat) : Int) := by rw [IntWalk.i64_in _ (by omega)]; omega

  rw [e3, hb1] at hdg1

  clear hdr e1 e2 e3 hl hd hb1 hL0 hj hbk h45 hd1 h62
  go_enter Tryd.func58, Tryd.ntmps58
  go_wp2_with fail
  refine (hlet _).mono ?_
  rintro e w2 ⟨rfl, rfl⟩
  go_wp2_with fail
  refine (hdig _).mono ?_
  rintro e w2 ⟨rfl, rfl⟩
  go_wp2_with fail
  refine (hdg1 _).mono ?_
  rintro e w2 ⟨rfl, rfl⟩
  go_wp2_with fail
  refine bodyPost_ret (v := .tuple #[.agg #[.int .u8 3, .string ⟨#[45, 62]⟩, I 0, I k], I ((k + 2 : Nat) : Int), I 0]) (by simp [results, Tryd.results58, go_sem]) rfl ?_
  rw [HPO.out]
  exact rgood HT.out rfl rfl ((New.refl w).alloc _)
set_option maxRecDepth 100000 in
set_option maxHeartbeats 8000000 in
theorem rtok_dash_i (w : World) (s : ByteArray) (k j : Nat) (hj : k + 1 = j) (hk : k < s.size) (hs : s.size ≤ 1048576) (hin : j < s.size) (h45 : (byteAt s k).toNat = 45) (hd1 : isDig (byteAt s j) = false) (h62 : (byteAt s j).toNat ≠ 62) :
    Calls Tryd.prog 58 #[.string s, I k] w (RTokAns w s k) := by
  obtain ⟨PO, hPO⟩ : ∃ PO, PO = RTokAns w s k := ⟨_, rfl⟩
  rw [← hPO]
  have HPO := Lib.hid hPO
  have hdr := dropAt' s k hk
  have hlen := toList_len s
  have h255 := (byteAt s k).toNat_lt
  have hkI : (k : Int) < (s.size : Int) := by omega
  have hw1 : IntKind.i64.wrap ((k : Int) + 1) = (j : Int) := by rw [IntWalk.i64_in _ (by omega)]; omega
  have hbk : byteAt s k = s[k] := byteAt_in s k hk
  have hjI : (j : Int) < (s.size : Int) := by omega
  have hjs : j ≤ s.size := by omega
  have hb1 : byteAt s j = s[j] := byteAt_in s j hin
  rw [hj] at hdr
  obtain ⟨L, hL⟩ : ∃ L, s.data.toList.drop j = L := ⟨_, rfl⟩
  have hLlen : L.length = s.size - j := by rw [← hL, List.length_drop, hlen]
  have hLat : ∀ t (ht : t < s.size), j ≤ t → L[t - j]? = some s[t] := fun t ht h0 => by
    rw [← hL, List.getElem?_drop, show j + (t - j) = t by omega, Array.getElem?_toList]
    exact Array.getElem?_eq_getElem ht
  have hL0 : L.headD 0 = byteAt s j := by rw [← hL]; rfl
  rw [hL] at hdr
  have HL := Lib.hid hLlen
  have HAT := Lib.hid hLat
  have HJ := Lib.hid hj
  have HDR := Lib.hid hdr
  clear hPO hL hLlen hLat hlen
  have hl : isLet (byteAt s k) = false := by
    cases e : isLet (byteAt s k) with
    | false => rfl
    | true => have := (isLet_iff _).1 e; omega
  have hd : isDig (byteAt s k) = false := by
    cases e : isDig (byteAt s k) with
    | false => rfl
    | true => have := (isDig_iff _).1 e; omega
  have e45 : ((s[k].toNat : Int) == 45) = true := by rw [← hbk]; exact b_yes (k := 45) h45
  have hdg1 := fun W => rdig_any W ((byteAt s j).toNat : Int)
  have HT : Hid (tokR (s.data.toList.drop k) = .bad 40) := Lib.hid (by
    have hn1 : ¬ (isDig (byteAt s k) = true ∨ ((byteAt s k).toNat = 45 ∧ isDig (L.headD 0) = true)) := by
      rintro (x | ⟨_, x⟩)
      · rw [hd] at x; cases x
      · rw [hL0, hd1] at x; cases x
    rw [hdr, tokR_cons, if_neg (by rw [hl]; simp), if_neg hn1, hL0]
    rw [if_neg (fun x => h62 x.2), if_neg (by unfold isMrk; rw [decide_eq_true_iff]; omega)])
  have hlet := fun W => rlet_any W ((byteAt s k).toNat : Int)
  have hdig := fun W => rdig_any W ((byteAt s k).toNat : Int)
  have e1 : letterB ((byteAt s k).toNat : Int) = false := hl
  have e2 : digitB ((byteAt s k).toNat : Int) = false := hd
  have e3 : digitB ((byteAt s j).toNat : Int) = false := hd1
  rw [e1, hbk] at hlet
  rw [e2, hbk] at hdig
  have m123 : ((s[k].toNat : Int) == 123) = false := by rw [← hbk]; exact b_no (k := 123) (by omega)
  have m125 : ((s[k].toNat : Int) == 125) = false := by rw [← hbk]; exact b_no (k := 125) (by omega)
  have m61 : ((s[k].toNat : Int) == 61) = false := by rw [← hbk]; exact b_no (k := 61) (by omega)
  have m59 : ((s[k].toNat : Int) == 59) = false := by rw [← hbk]; exact b_no (k := 59) (by omega)
  have m46 : ((s[k].toNat : Int) == 46) = false := by rw [← hbk]; exact b_no (k := 46) (by omega)
  have e62 : ((s[j].toNat : Int) == 62) = false := by rw [← hb1]; exact b_no (k := 62) h62


  rw [e3, hb1] at hdg1

  clear hdr e1 e2 e3 hl hd hb1 hL0 hj hbk h45 hd1 h62
  go_enter Tryd.func58, Tryd.ntmps58
  go_wp2_with fail
  refine (hlet _).mono ?_
  rintro e w2 ⟨rfl, rfl⟩
  go_wp2_with fail
  refine (hdig _).mono ?_
  rintro e w2 ⟨rfl, rfl⟩
  go_wp2_with fail
  refine (hdg1 _).mono ?_
  rintro e w2 ⟨rfl, rfl⟩
  go_wp2_with fail
  refine bodyPost_ret (v := .tuple #[.agg #[.int .u8 0, .string ⟨#[]⟩, I 0, I 0], I 0, I 40]) (by simp [results, Tryd.results58, go_sem]) rfl ?_
  rw [HPO.out]
  exact rbad HT.out ((New.refl w).alloc _)
set_option maxRecDepth 100000 in
set_option maxHeartbeats 8000000 in
theorem rtok_dash_o (w : World) (s : ByteArray) (k j : Nat) (hj : k + 1 = j) (hk : k < s.size) (hs : s.size ≤ 1048576) (hin : ¬ j < s.size) (h45 : (byteAt s k).toNat = 45) (hd1 : isDig (byteAt s j) = false) (h62 : (byteAt s j).toNat ≠ 62) :
    Calls Tryd.prog 58 #[.string s, I k] w (RTokAns w s k) := by
  obtain ⟨PO, hPO⟩ : ∃ PO, PO = RTokAns w s k := ⟨_, rfl⟩
  rw [← hPO]
  have HPO := Lib.hid hPO
  have hdr := dropAt' s k hk
  have hlen := toList_len s
  have h255 := (byteAt s k).toNat_lt
  have hkI : (k : Int) < (s.size : Int) := by omega
  have hw1 : IntKind.i64.wrap ((k : Int) + 1) = (j : Int) := by rw [IntWalk.i64_in _ (by omega)]; omega
  have hbk : byteAt s k = s[k] := byteAt_in s k hk
  have hjI : ¬ (j : Int) < (s.size : Int) := by omega
  have hjs : j ≤ s.size := by omega
  have hb1 : byteAt s j = 0 := byteAt_out s j hin
  rw [hj] at hdr
  obtain ⟨L, hL⟩ : ∃ L, s.data.toList.drop j = L := ⟨_, rfl⟩
  have hLlen : L.length = s.size - j := by rw [← hL, List.length_drop, hlen]
  have hLat : ∀ t (ht : t < s.size), j ≤ t → L[t - j]? = some s[t] := fun t ht h0 => by
    rw [← hL, List.getElem?_drop, show j + (t - j) = t by omega, Array.getElem?_toList]
    exact Array.getElem?_eq_getElem ht
  have hL0 : L.headD 0 = byteAt s j := by rw [← hL]; rfl
  rw [hL] at hdr
  have HL := Lib.hid hLlen
  have HAT := Lib.hid hLat
  have HJ := Lib.hid hj
  have HDR := Lib.hid hdr
  clear hPO hL hLlen hLat hlen
  have hl : isLet (byteAt s k) = false := by
    cases e : isLet (byteAt s k) with
    | false => rfl
    | true => have := (isLet_iff _).1 e; omega
  have hd : isDig (byteAt s k) = false := by
    cases e : isDig (byteAt s k) with
    | false => rfl
    | true => have := (isDig_iff _).1 e; omega
  have e45 : ((s[k].toNat : Int) == 45) = true := by rw [← hbk]; exact b_yes (k := 45) h45
  have hdg1 := fun W => rdig_any W ((byteAt s j).toNat : Int)
  have HT : Hid (tokR (s.data.toList.drop k) = .bad 40) := Lib.hid (by
    have hn1 : ¬ (isDig (byteAt s k) = true ∨ ((byteAt s k).toNat = 45 ∧ isDig (L.headD 0) = true)) := by
      rintro (x | ⟨_, x⟩)
      · rw [hd] at x; cases x
      · rw [hL0, hd1] at x; cases x
    rw [hdr, tokR_cons, if_neg (by rw [hl]; simp), if_neg hn1, hL0]
    rw [if_neg (fun x => h62 x.2), if_neg (by unfold isMrk; rw [decide_eq_true_iff]; omega)])
  have hlet := fun W => rlet_any W ((byteAt s k).toNat : Int)
  have hdig := fun W => rdig_any W ((byteAt s k).toNat : Int)
  have e1 : letterB ((byteAt s k).toNat : Int) = false := hl
  have e2 : digitB ((byteAt s k).toNat : Int) = false := hd
  have e3 : digitB ((byteAt s j).toNat : Int) = false := hd1
  rw [e1, hbk] at hlet
  rw [e2, hbk] at hdig
  have m123 : ((s[k].toNat : Int) == 123) = false := by rw [← hbk]; exact b_no (k := 123) (by omega)
  have m125 : ((s[k].toNat : Int) == 125) = false := by rw [← hbk]; exact b_no (k := 125) (by omega)
  have m61 : ((s[k].toNat : Int) == 61) = false := by rw [← hbk]; exact b_no (k := 61) (by omega)
  have m59 : ((s[k].toNat : Int) == 59) = false := by rw [← hbk]; exact b_no (k := 59) (by omega)
  have m46 : ((s[k].toNat : Int) == 46) = false := by rw [← hbk]; exact b_no (k := 46) (by omega)


  have hz0 : ((0 : UInt8).toNat : Int) = 0 := rfl
  rw [e3, hb1] at hdg1
  rw [hz0] at hdg1
  clear hdr e1 e2 e3 hl hd hb1 hL0 hj hbk h45 hd1 h62
  go_enter Tryd.func58, Tryd.ntmps58
  go_wp2_with fail
  refine (hlet _).mono ?_
  rintro e w2 ⟨rfl, rfl⟩
  go_wp2_with fail
  refine (hdig _).mono ?_
  rintro e w2 ⟨rfl, rfl⟩
  go_wp2_with fail
  refine (hdg1 _).mono ?_
  rintro e w2 ⟨rfl, rfl⟩
  go_wp2_with fail
  refine bodyPost_ret (v := .tuple #[.agg #[.int .u8 0, .string ⟨#[]⟩, I 0, I 0], I 0, I 40]) (by simp [results, Tryd.results58, go_sem]) rfl ?_
  rw [HPO.out]
  exact rbad HT.out ((New.refl w).alloc _)
set_option maxRecDepth 100000 in
set_option maxHeartbeats 8000000 in
theorem rtok_m123_i (w : World) (s : ByteArray) (k j : Nat) (hj : k + 1 = j) (hk : k < s.size) (hs : s.size ≤ 1048576) (hin : j < s.size) (hm : (byteAt s k).toNat = 123) :
    Calls Tryd.prog 58 #[.string s, I k] w (RTokAns w s k) := by
  obtain ⟨PO, hPO⟩ : ∃ PO, PO = RTokAns w s k := ⟨_, rfl⟩
  rw [← hPO]
  have HPO := Lib.hid hPO
  have hdr := dropAt' s k hk
  have hlen := toList_len s
  have h255 := (byteAt s k).toNat_lt
  have hkI : (k : Int) < (s.size : Int) := by omega
  have hw1 : IntKind.i64.wrap ((k : Int) + 1) = (j : Int) := by rw [IntWalk.i64_in _ (by omega)]; omega
  have hbk : byteAt s k = s[k] := byteAt_in s k hk
  have hjI : (j : Int) < (s.size : Int) := by omega
  have hjs : j ≤ s.size := by omega
  have hb1 : byteAt s j = s[j] := byteAt_in s j hin
  rw [hj] at hdr
  obtain ⟨L, hL⟩ : ∃ L, s.data.toList.drop j = L := ⟨_, rfl⟩
  have hLlen : L.length = s.size - j := by rw [← hL, List.length_drop, hlen]
  have hLat : ∀ t (ht : t < s.size), j ≤ t → L[t - j]? = some s[t] := fun t ht h0 => by
    rw [← hL, List.getElem?_drop, show j + (t - j) = t by omega, Array.getElem?_toList]
    exact Array.getElem?_eq_getElem ht
  have hL0 : L.headD 0 = byteAt s j := by rw [← hL]; rfl
  rw [hL] at hdr
  have HL := Lib.hid hLlen
  have HAT := Lib.hid hLat
  have HJ := Lib.hid hj
  have HDR := Lib.hid hdr
  clear hPO hL hLlen hLat hlen
  have h45 : (byteAt s k).toNat ≠ 45 := by omega
  have hl : isLet (byteAt s k) = false := by
    cases e : isLet (byteAt s k) with
    | false => rfl
    | true => have := (isLet_iff _).1 e; omega
  have hd : isDig (byteAt s k) = false := by
    cases e : isDig (byteAt s k) with
    | false => rfl
    | true => have := (isDig_iff _).1 e; omega
  have HT : Hid (tokR (s.data.toList.drop k) = .good 3 [byteAt s k] 0 1) := Lib.hid (by
    have hn1 : ¬ (isDig (byteAt s k) = true ∨ ((byteAt s k).toNat = 45 ∧ isDig (L.headD 0) = true)) := by
      rintro (x | ⟨x, _⟩)
      · rw [hd] at x; cases x
      · exact h45 x
    rw [hdr, tokR_cons, if_neg (by rw [hl]; simp), if_neg hn1, if_neg (fun x => h45 x.1)]
    rw [if_pos (by unfold isMrk; rw [decide_eq_true_iff]; omega)])
  have hlet := fun W => rlet_any W ((byteAt s k).toNat : Int)
  have hdig := fun W => rdig_any W ((byteAt s k).toNat : Int)
  have e1 : letterB ((byteAt s k).toNat : Int) = false := hl
  have e2 : digitB ((byteAt s k).toNat : Int) = false := hd
  rw [e1, hbk] at hlet
  rw [e2, hbk] at hdig
  have e45 : ((s[k].toNat : Int) == 45) = false := by rw [← hbk]; exact b_no (k := 45) h45
  have m123 : ((s[k].toNat : Int) == 123) = true := by rw [← hbk]; exact b_yes (k := 123) (by omega)
  obtain ⟨Wd, hWd⟩ : ∃ Wd, s.extract k j = Wd := ⟨_, rfl⟩
  have HWL : Hid ((⟨[byteAt s k].toArray⟩ : ByteArray) = Wd) := Lib.hid (by
    apply ByteArray.ext
    apply Array.toList_inj.1
    rw [← hWd, extract_list, hdr, show j - k = 1 by omega]
    rfl)
  have hkj : (k : Int) ≤ (j : Int) := by omega
  have hjS : (j : Int) ≤ (s.size : Int) := by omega
  clear hdr e1 e2 hl hd hb1 hL0 hj hbk h45 hm
  go_enter Tryd.func58, Tryd.ntmps58
  go_wp2_with fail
  refine (hlet _).mono ?_
  rintro e w2 ⟨rfl, rfl⟩
  go_wp2_with fail
  refine (hdig _).mono ?_
  rintro e w2 ⟨rfl, rfl⟩
  go_wp2_with fail
  refine bodyPost_ret (v := .tuple #[.agg #[.int .u8 3, .string Wd, I 0, I k], I j, I 0]) (by simp [results, Tryd.results58, go_sem, hWd]) rfl ?_
  rw [HPO.out]
  exact rgood HT.out HWL.out HJ.out ((New.refl w).alloc _)
set_option maxRecDepth 100000 in
set_option maxHeartbeats 8000000 in
theorem rtok_m125_i (w : World) (s : ByteArray) (k j : Nat) (hj : k + 1 = j) (hk : k < s.size) (hs : s.size ≤ 1048576) (hin : j < s.size) (hm : (byteAt s k).toNat = 125) :
    Calls Tryd.prog 58 #[.string s, I k] w (RTokAns w s k) := by
  obtain ⟨PO, hPO⟩ : ∃ PO, PO = RTokAns w s k := ⟨_, rfl⟩
  rw [← hPO]
  have HPO := Lib.hid hPO
  have hdr := dropAt' s k hk
  have hlen := toList_len s
  have h255 := (byteAt s k).toNat_lt
  have hkI : (k : Int) < (s.size : Int) := by omega
  have hw1 : IntKind.i64.wrap ((k : Int) + 1) = (j : Int) := by rw [IntWalk.i64_in _ (by omega)]; omega
  have hbk : byteAt s k = s[k] := byteAt_in s k hk
  have hjI : (j : Int) < (s.size : Int) := by omega
  have hjs : j ≤ s.size := by omega
  have hb1 : byteAt s j = s[j] := byteAt_in s j hin
  rw [hj] at hdr
  obtain ⟨L, hL⟩ : ∃ L, s.data.toList.drop j = L := ⟨_, rfl⟩
  have hLlen : L.length = s.size - j := by rw [← hL, List.length_drop, hlen]
  have hLat : ∀ t (ht : t < s.size), j ≤ t → L[t - j]? = some s[t] := fun t ht h0 => by
    rw [← hL, List.getElem?_drop, show j + (t - j) = t by omega, Array.getElem?_toList]
    exact Array.getElem?_eq_getElem ht
  have hL0 : L.headD 0 = byteAt s j := by rw [← hL]; rfl
  rw [hL] at hdr
  have HL := Lib.hid hLlen
  have HAT := Lib.hid hLat
  have HJ := Lib.hid hj
  have HDR := Lib.hid hdr
  clear hPO hL hLlen hLat hlen
  have h45 : (byteAt s k).toNat ≠ 45 := by omega
  have hl : isLet (byteAt s k) = false := by
    cases e : isLet (byteAt s k) with
    | false => rfl
    | true => have := (isLet_iff _).1 e; omega
  have hd : isDig (byteAt s k) = false := by
    cases e : isDig (byteAt s k) with
    | false => rfl
    | true => have := (isDig_iff _).1 e; omega
  have HT : Hid (tokR (s.data.toList.drop k) = .good 3 [byteAt s k] 0 1) := Lib.hid (by
    have hn1 : ¬ (isDig (byteAt s k) = true ∨ ((byteAt s k).toNat = 45 ∧ isDig (L.headD 0) = true)) := by
      rintro (x | ⟨x, _⟩)
      · rw [hd] at x; cases x
      · exact h45 x
    rw [hdr, tokR_cons, if_neg (by rw [hl]; simp), if_neg hn1, if_neg (fun x => h45 x.1)]
    rw [if_pos (by unfold isMrk; rw [decide_eq_true_iff]; omega)])
  have hlet := fun W => rlet_any W ((byteAt s k).toNat : Int)
  have hdig := fun W => rdig_any W ((byteAt s k).toNat : Int)
  have e1 : letterB ((byteAt s k).toNat : Int) = false := hl
  have e2 : digitB ((byteAt s k).toNat : Int) = false := hd
  rw [e1, hbk] at hlet
  rw [e2, hbk] at hdig
  have e45 : ((s[k].toNat : Int) == 45) = false := by rw [← hbk]; exact b_no (k := 45) h45
  have m123 : ((s[k].toNat : Int) == 123) = false := by rw [← hbk]; exact b_no (k := 123) (by omega)
  have m125 : ((s[k].toNat : Int) == 125) = true := by rw [← hbk]; exact b_yes (k := 125) (by omega)
  obtain ⟨Wd, hWd⟩ : ∃ Wd, s.extract k j = Wd := ⟨_, rfl⟩
  have HWL : Hid ((⟨[byteAt s k].toArray⟩ : ByteArray) = Wd) := Lib.hid (by
    apply ByteArray.ext
    apply Array.toList_inj.1
    rw [← hWd, extract_list, hdr, show j - k = 1 by omega]
    rfl)
  have hkj : (k : Int) ≤ (j : Int) := by omega
  have hjS : (j : Int) ≤ (s.size : Int) := by omega
  clear hdr e1 e2 hl hd hb1 hL0 hj hbk h45 hm
  go_enter Tryd.func58, Tryd.ntmps58
  go_wp2_with fail
  refine (hlet _).mono ?_
  rintro e w2 ⟨rfl, rfl⟩
  go_wp2_with fail
  refine (hdig _).mono ?_
  rintro e w2 ⟨rfl, rfl⟩
  go_wp2_with fail
  refine bodyPost_ret (v := .tuple #[.agg #[.int .u8 3, .string Wd, I 0, I k], I j, I 0]) (by simp [results, Tryd.results58, go_sem, hWd]) rfl ?_
  rw [HPO.out]
  exact rgood HT.out HWL.out HJ.out ((New.refl w).alloc _)
set_option maxRecDepth 100000 in
set_option maxHeartbeats 8000000 in
theorem rtok_m61_i (w : World) (s : ByteArray) (k j : Nat) (hj : k + 1 = j) (hk : k < s.size) (hs : s.size ≤ 1048576) (hin : j < s.size) (hm : (byteAt s k).toNat = 61) :
    Calls Tryd.prog 58 #[.string s, I k] w (RTokAns w s k) := by
  obtain ⟨PO, hPO⟩ : ∃ PO, PO = RTokAns w s k := ⟨_, rfl⟩
  rw [← hPO]
  have HPO := Lib.hid hPO
  have hdr := dropAt' s k hk
  have hlen := toList_len s
  have h255 := (byteAt s k).toNat_lt
  have hkI : (k : Int) < (s.size : Int) := by omega
  have hw1 : IntKind.i64.wrap ((k : Int) + 1) = (j : Int) := by rw [IntWalk.i64_in _ (by omega)]; omega
  have hbk : byteAt s k = s[k] := byteAt_in s k hk
  have hjI : (j : Int) < (s.size : Int) := by omega
  have hjs : j ≤ s.size := by omega
  have hb1 : byteAt s j = s[j] := byteAt_in s j hin
  rw [hj] at hdr
  obtain ⟨L, hL⟩ : ∃ L, s.data.toList.drop j = L := ⟨_, rfl⟩
  have hLlen : L.length = s.size - j := by rw [← hL, List.length_drop, hlen]
  have hLat : ∀ t (ht : t < s.size), j ≤ t → L[t - j]? = some s[t] := fun t ht h0 => by
    rw [← hL, List.getElem?_drop, show j + (t - j) = t by omega, Array.getElem?_toList]
    exact Array.getElem?_eq_getElem ht
  have hL0 : L.headD 0 = byteAt s j := by rw [← hL]; rfl
  rw [hL] at hdr
  have HL := Lib.hid hLlen
  have HAT := Lib.hid hLat
  have HJ := Lib.hid hj
  have HDR := Lib.hid hdr
  clear hPO hL hLlen hLat hlen
  have h45 : (byteAt s k).toNat ≠ 45 := by omega
  have hl : isLet (byteAt s k) = false := by
    cases e : isLet (byteAt s k) with
    | false => rfl
    | true => have := (isLet_iff _).1 e; omega
  have hd : isDig (byteAt s k) = false := by
    cases e : isDig (byteAt s k) with
    | false => rfl
    | true => have := (isDig_iff _).1 e; omega
  have HT : Hid (tokR (s.data.toList.drop k) = .good 3 [byteAt s k] 0 1) := Lib.hid (by
    have hn1 : ¬ (isDig (byteAt s k) = true ∨ ((byteAt s k).toNat = 45 ∧ isDig (L.headD 0) = true)) := by
      rintro (x | ⟨x, _⟩)
      · rw [hd] at x; cases x
      · exact h45 x
    rw [hdr, tokR_cons, if_neg (by rw [hl]; simp), if_neg hn1, if_neg (fun x => h45 x.1)]
    rw [if_pos (by unfold isMrk; rw [decide_eq_true_iff]; omega)])
  have hlet := fun W => rlet_any W ((byteAt s k).toNat : Int)
  have hdig := fun W => rdig_any W ((byteAt s k).toNat : Int)
  have e1 : letterB ((byteAt s k).toNat : Int) = false := hl
  have e2 : digitB ((byteAt s k).toNat : Int) = false := hd
  rw [e1, hbk] at hlet
  rw [e2, hbk] at hdig
  have e45 : ((s[k].toNat : Int) == 45) = false := by rw [← hbk]; exact b_no (k := 45) h45
  have m123 : ((s[k].toNat : Int) == 123) = false := by rw [← hbk]; exact b_no (k := 123) (by omega)
  have m125 : ((s[k].toNat : Int) == 125) = false := by rw [← hbk]; exact b_no (k := 125) (by omega)
  have m61 : ((s[k].toNat : Int) == 61) = true := by rw [← hbk]; exact b_yes (k := 61) (by omega)
  obtain ⟨Wd, hWd⟩ : ∃ Wd, s.extract k j = Wd := ⟨_, rfl⟩
  have HWL : Hid ((⟨[byteAt s k].toArray⟩ : ByteArray) = Wd) := Lib.hid (by
    apply ByteArray.ext
    apply Array.toList_inj.1
    rw [← hWd, extract_list, hdr, show j - k = 1 by omega]
    rfl)
  have hkj : (k : Int) ≤ (j : Int) := by omega
  have hjS : (j : Int) ≤ (s.size : Int) := by omega
  clear hdr e1 e2 hl hd hb1 hL0 hj hbk h45 hm
  go_enter Tryd.func58, Tryd.ntmps58
  go_wp2_with fail
  refine (hlet _).mono ?_
  rintro e w2 ⟨rfl, rfl⟩
  go_wp2_with fail
  refine (hdig _).mono ?_
  rintro e w2 ⟨rfl, rfl⟩
  go_wp2_with fail
  refine bodyPost_ret (v := .tuple #[.agg #[.int .u8 3, .string Wd, I 0, I k], I j, I 0]) (by simp [results, Tryd.results58, go_sem, hWd]) rfl ?_
  rw [HPO.out]
  exact rgood HT.out HWL.out HJ.out ((New.refl w).alloc _)
set_option maxRecDepth 100000 in
set_option maxHeartbeats 8000000 in
theorem rtok_m59_i (w : World) (s : ByteArray) (k j : Nat) (hj : k + 1 = j) (hk : k < s.size) (hs : s.size ≤ 1048576) (hin : j < s.size) (hm : (byteAt s k).toNat = 59) :
    Calls Tryd.prog 58 #[.string s, I k] w (RTokAns w s k) := by
  obtain ⟨PO, hPO⟩ : ∃ PO, PO = RTokAns w s k := ⟨_, rfl⟩
  rw [← hPO]
  have HPO := Lib.hid hPO
  have hdr := dropAt' s k hk
  have hlen := toList_len s
  have h255 := (byteAt s k).toNat_lt
  have hkI : (k : Int) < (s.size : Int) := by omega
  have hw1 : IntKind.i64.wrap ((k : Int) + 1) = (j : Int) := by rw [IntWalk.i64_in _ (by omega)]; omega
  have hbk : byteAt s k = s[k] := byteAt_in s k hk
  have hjI : (j : Int) < (s.size : Int) := by omega
  have hjs : j ≤ s.size := by omega
  have hb1 : byteAt s j = s[j] := byteAt_in s j hin
  rw [hj] at hdr
  obtain ⟨L, hL⟩ : ∃ L, s.data.toList.drop j = L := ⟨_, rfl⟩
  have hLlen : L.length = s.size - j := by rw [← hL, List.length_drop, hlen]
  have hLat : ∀ t (ht : t < s.size), j ≤ t → L[t - j]? = some s[t] := fun t ht h0 => by
    rw [← hL, List.getElem?_drop, show j + (t - j) = t by omega, Array.getElem?_toList]
    exact Array.getElem?_eq_getElem ht
  have hL0 : L.headD 0 = byteAt s j := by rw [← hL]; rfl
  rw [hL] at hdr
  have HL := Lib.hid hLlen
  have HAT := Lib.hid hLat
  have HJ := Lib.hid hj
  have HDR := Lib.hid hdr
  clear hPO hL hLlen hLat hlen
  have h45 : (byteAt s k).toNat ≠ 45 := by omega
  have hl : isLet (byteAt s k) = false := by
    cases e : isLet (byteAt s k) with
    | false => rfl
    | true => have := (isLet_iff _).1 e; omega
  have hd : isDig (byteAt s k) = false := by
    cases e : isDig (byteAt s k) with
    | false => rfl
    | true => have := (isDig_iff _).1 e; omega
  have HT : Hid (tokR (s.data.toList.drop k) = .good 3 [byteAt s k] 0 1) := Lib.hid (by
    have hn1 : ¬ (isDig (byteAt s k) = true ∨ ((byteAt s k).toNat = 45 ∧ isDig (L.headD 0) = true)) := by
      rintro (x | ⟨x, _⟩)
      · rw [hd] at x; cases x
      · exact h45 x
    rw [hdr, tokR_cons, if_neg (by rw [hl]; simp), if_neg hn1, if_neg (fun x => h45 x.1)]
    rw [if_pos (by unfold isMrk; rw [decide_eq_true_iff]; omega)])
  have hlet := fun W => rlet_any W ((byteAt s k).toNat : Int)
  have hdig := fun W => rdig_any W ((byteAt s k).toNat : Int)
  have e1 : letterB ((byteAt s k).toNat : Int) = false := hl
  have e2 : digitB ((byteAt s k).toNat : Int) = false := hd
  rw [e1, hbk] at hlet
  rw [e2, hbk] at hdig
  have e45 : ((s[k].toNat : Int) == 45) = false := by rw [← hbk]; exact b_no (k := 45) h45
  have m123 : ((s[k].toNat : Int) == 123) = false := by rw [← hbk]; exact b_no (k := 123) (by omega)
  have m125 : ((s[k].toNat : Int) == 125) = false := by rw [← hbk]; exact b_no (k := 125) (by omega)
  have m61 : ((s[k].toNat : Int) == 61) = false := by rw [← hbk]; exact b_no (k := 61) (by omega)
  have m59 : ((s[k].toNat : Int) == 59) = true := by rw [← hbk]; exact b_yes (k := 59) (by omega)
  obtain ⟨Wd, hWd⟩ : ∃ Wd, s.extract k j = Wd := ⟨_, rfl⟩
  have HWL : Hid ((⟨[byteAt s k].toArray⟩ : ByteArray) = Wd) := Lib.hid (by
    apply ByteArray.ext
    apply Array.toList_inj.1
    rw [← hWd, extract_list, hdr, show j - k = 1 by omega]
    rfl)
  have hkj : (k : Int) ≤ (j : Int) := by omega
  have hjS : (j : Int) ≤ (s.size : Int) := by omega
  clear hdr e1 e2 hl hd hb1 hL0 hj hbk h45 hm
  go_enter Tryd.func58, Tryd.ntmps58
  go_wp2_with fail
  refine (hlet _).mono ?_
  rintro e w2 ⟨rfl, rfl⟩
  go_wp2_with fail
  refine (hdig _).mono ?_
  rintro e w2 ⟨rfl, rfl⟩
  go_wp2_with fail
  refine bodyPost_ret (v := .tuple #[.agg #[.int .u8 3, .string Wd, I 0, I k], I j, I 0]) (by simp [results, Tryd.results58, go_sem, hWd]) rfl ?_
  rw [HPO.out]
  exact rgood HT.out HWL.out HJ.out ((New.refl w).alloc _)
set_option maxRecDepth 100000 in
set_option maxHeartbeats 8000000 in
theorem rtok_m46_i (w : World) (s : ByteArray) (k j : Nat) (hj : k + 1 = j) (hk : k < s.size) (hs : s.size ≤ 1048576) (hin : j < s.size) (hm : (byteAt s k).toNat = 46) :
    Calls Tryd.prog 58 #[.string s, I k] w (RTokAns w s k) := by
  obtain ⟨PO, hPO⟩ : ∃ PO, PO = RTokAns w s k := ⟨_, rfl⟩
  rw [← hPO]
  have HPO := Lib.hid hPO
  have hdr := dropAt' s k hk
  have hlen := toList_len s
  have h255 := (byteAt s k).toNat_lt
  have hkI : (k : Int) < (s.size : Int) := by omega
  have hw1 : IntKind.i64.wrap ((k : Int) + 1) = (j : Int) := by rw [IntWalk.i64_in _ (by omega)]; omega
  have hbk : byteAt s k = s[k] := byteAt_in s k hk
  have hjI : (j : Int) < (s.size : Int) := by omega
  have hjs : j ≤ s.size := by omega
  have hb1 : byteAt s j = s[j] := byteAt_in s j hin
  rw [hj] at hdr
  obtain ⟨L, hL⟩ : ∃ L, s.data.toList.drop j = L := ⟨_, rfl⟩
  have hLlen : L.length = s.size - j := by rw [← hL, List.length_drop, hlen]
  have hLat : ∀ t (ht : t < s.size), j ≤ t → L[t - j]? = some s[t] := fun t ht h0 => by
    rw [← hL, List.getElem?_drop, show j + (t - j) = t by omega, Array.getElem?_toList]
    exact Array.getElem?_eq_getElem ht
  have hL0 : L.headD 0 = byteAt s j := by rw [← hL]; rfl
  rw [hL] at hdr
  have HL := Lib.hid hLlen
  have HAT := Lib.hid hLat
  have HJ := Lib.hid hj
  have HDR := Lib.hid hdr
  clear hPO hL hLlen hLat hlen
  have h45 : (byteAt s k).toNat ≠ 45 := by omega
  have hl : isLet (byteAt s k) = false := by
    cases e : isLet (byteAt s k) with
    | false => rfl
    | true => have := (isLet_iff _).1 e; omega
  have hd : isDig (byteAt s k) = false := by
    cases e : isDig (byteAt s k) with
    | false => rfl
    | true => have := (isDig_iff _).1 e; omega
  have HT : Hid (tokR (s.data.toList.drop k) = .good 3 [byteAt s k] 0 1) := Lib.hid (by
    have hn1 : ¬ (isDig (byteAt s k) = true ∨ ((byteAt s k).toNat = 45 ∧ isDig (L.headD 0) = true)) := by
      rintro (x | ⟨x, _⟩)
      · rw [hd] at x; cases x
      · exact h45 x
    rw [hdr, tokR_cons, if_neg (by rw [hl]; simp), if_neg hn1, if_neg (fun x => h45 x.1)]
    rw [if_pos (by unfold isMrk; rw [decide_eq_true_iff]; omega)])
  have hlet := fun W => rlet_any W ((byteAt s k).toNat : Int)
  have hdig := fun W => rdig_any W ((byteAt s k).toNat : Int)
  have e1 : letterB ((byteAt s k).toNat : Int) = false := hl
  have e2 : digitB ((byteAt s k).toNat : Int) = false := hd
  rw [e1, hbk] at hlet
  rw [e2, hbk] at hdig
  have e45 : ((s[k].toNat : Int) == 45) = false := by rw [← hbk]; exact b_no (k := 45) h45
  have m123 : ((s[k].toNat : Int) == 123) = false := by rw [← hbk]; exact b_no (k := 123) (by omega)
  have m125 : ((s[k].toNat : Int) == 125) = false := by rw [← hbk]; exact b_no (k := 125) (by omega)
  have m61 : ((s[k].toNat : Int) == 61) = false := by rw [← hbk]; exact b_no (k := 61) (by omega)
  have m59 : ((s[k].toNat : Int) == 59) = false := by rw [← hbk]; exact b_no (k := 59) (by omega)
  have m46 : ((s[k].toNat : Int) == 46) = true := by rw [← hbk]; exact b_yes (k := 46) (by omega)
  obtain ⟨Wd, hWd⟩ : ∃ Wd, s.extract k j = Wd := ⟨_, rfl⟩
  have HWL : Hid ((⟨[byteAt s k].toArray⟩ : ByteArray) = Wd) := Lib.hid (by
    apply ByteArray.ext
    apply Array.toList_inj.1
    rw [← hWd, extract_list, hdr, show j - k = 1 by omega]
    rfl)
  have hkj : (k : Int) ≤ (j : Int) := by omega
  have hjS : (j : Int) ≤ (s.size : Int) := by omega
  clear hdr e1 e2 hl hd hb1 hL0 hj hbk h45 hm
  go_enter Tryd.func58, Tryd.ntmps58
  go_wp2_with fail
  refine (hlet _).mono ?_
  rintro e w2 ⟨rfl, rfl⟩
  go_wp2_with fail
  refine (hdig _).mono ?_
  rintro e w2 ⟨rfl, rfl⟩
  go_wp2_with fail
  refine bodyPost_ret (v := .tuple #[.agg #[.int .u8 3, .string Wd, I 0, I k], I j, I 0]) (by simp [results, Tryd.results58, go_sem, hWd]) rfl ?_
  rw [HPO.out]
  exact rgood HT.out HWL.out HJ.out ((New.refl w).alloc _)
set_option maxRecDepth 100000 in
set_option maxHeartbeats 8000000 in
theorem rtok_byte_i (w : World) (s : ByteArray) (k j : Nat) (hj : k + 1 = j) (hk : k < s.size) (hs : s.size ≤ 1048576) (hin : j < s.size) (hl : isLet (byteAt s k) = false) (hd : isDig (byteAt s k) = false) (h45 : (byteAt s k).toNat ≠ 45) (hm : isMrk (byteAt s k) = false) :
    Calls Tryd.prog 58 #[.string s, I k] w (RTokAns w s k) := by
  obtain ⟨PO, hPO⟩ : ∃ PO, PO = RTokAns w s k := ⟨_, rfl⟩
  rw [← hPO]
  have HPO := Lib.hid hPO
  have hdr := dropAt' s k hk
  have hlen := toList_len s
  have h255 := (byteAt s k).toNat_lt
  have hkI : (k : Int) < (s.size : Int) := by omega
  have hw1 : IntKind.i64.wrap ((k : Int) + 1) = (j : Int) := by rw [IntWalk.i64_in _ (by omega)]; omega
  have hbk : byteAt s k = s[k] := byteAt_in s k hk
  have hjI : (j : Int) < (s.size : Int) := by omega
  have hjs : j ≤ s.size := by omega
  have hb1 : byteAt s j = s[j] := byteAt_in s j hin
  rw [hj] at hdr
  obtain ⟨L, hL⟩ : ∃ L, s.data.toList.drop j = L := ⟨_, rfl⟩
  have hLlen : L.length = s.size - j := by rw [← hL, List.length_drop, hlen]
  have hLat : ∀ t (ht : t < s.size), j ≤ t → L[t - j]? = some s[t] := fun t ht h0 => by
    rw [← hL, List.getElem?_drop, show j + (t - j) = t by omega, Array.getElem?_toList]
    exact Array.getElem?_eq_getElem ht
  have hL0 : L.headD 0 = byteAt s j := by rw [← hL]; rfl
  rw [hL] at hdr
  have HL := Lib.hid hLlen
  have HAT := Lib.hid hLat
  have HJ := Lib.hid hj
  have HDR := Lib.hid hdr
  clear hPO hL hLlen hLat hlen
  have HT : Hid (tokR (s.data.toList.drop k) = .bad 40) := Lib.hid (by
    have hn1 : ¬ (isDig (byteAt s k) = true ∨ ((byteAt s k).toNat = 45 ∧ isDig (L.headD 0) = true)) := by
      rintro (x | ⟨x, _⟩)
      · rw [hd] at x; cases x
      · exact h45 x
    rw [hdr, tokR_cons, if_neg (by rw [hl]; simp), if_neg hn1, if_neg (fun x => h45 x.1)]
    rw [if_neg (by rw [hm]; simp)])
  have hlet := fun W => rlet_any W ((byteAt s k).toNat : Int)
  have hdig := fun W => rdig_any W ((byteAt s k).toNat : Int)
  have e1 : letterB ((byteAt s k).toNat : Int) = false := hl
  have e2 : digitB ((byteAt s k).toNat : Int) = false := hd
  rw [e1, hbk] at hlet
  rw [e2, hbk] at hdig
  have e45 : ((s[k].toNat : Int) == 45) = false := by rw [← hbk]; exact b_no (k := 45) h45
  unfold isMrk at hm
  rw [decide_eq_false_iff_not] at hm
  have m123 : ((s[k].toNat : Int) == 123) = false := by rw [← hbk]; exact b_no (k := 123) (by omega)
  have m125 : ((s[k].toNat : Int) == 125) = false := by rw [← hbk]; exact b_no (k := 125) (by omega)
  have m61 : ((s[k].toNat : Int) == 61) = false := by rw [← hbk]; exact b_no (k := 61) (by omega)
  have m59 : ((s[k].toNat : Int) == 59) = false := by rw [← hbk]; exact b_no (k := 59) (by omega)
  have m46 : ((s[k].toNat : Int) == 46) = false := by rw [← hbk]; exact b_no (k := 46) (by omega)
  clear hdr e1 e2 hl hd hb1 hL0 hj hbk h45 hm
  go_enter Tryd.func58, Tryd.ntmps58
  go_wp2_with fail
  refine (hlet _).mono ?_
  rintro e w2 ⟨rfl, rfl⟩
  go_wp2_with fail
  refine (hdig _).mono ?_
  rintro e w2 ⟨rfl, rfl⟩
  go_wp2_with fail
  refine bodyPost_ret (v := .tuple #[.agg #[.int .u8 0, .string ⟨#[]⟩, I 0, I 0], I 0, I 40]) (by simp [results, Tryd.results58, go_sem]) rfl ?_
  rw [HPO.out]
  exact rbad HT.out ((New.refl w).alloc _)
set_option maxRecDepth 100000 in
set_option maxHeartbeats 8000000 in
theorem rtok_m123_o (w : World) (s : ByteArray) (k j : Nat) (hj : k + 1 = j) (hk : k < s.size) (hs : s.size ≤ 1048576) (hin : ¬ j < s.size) (hm : (byteAt s k).toNat = 123) :
    Calls Tryd.prog 58 #[.string s, I k] w (RTokAns w s k) := by
  obtain ⟨PO, hPO⟩ : ∃ PO, PO = RTokAns w s k := ⟨_, rfl⟩
  rw [← hPO]
  have HPO := Lib.hid hPO
  have hdr := dropAt' s k hk
  have hlen := toList_len s
  have h255 := (byteAt s k).toNat_lt
  have hkI : (k : Int) < (s.size : Int) := by omega
  have hw1 : IntKind.i64.wrap ((k : Int) + 1) = (j : Int) := by rw [IntWalk.i64_in _ (by omega)]; omega
  have hbk : byteAt s k = s[k] := byteAt_in s k hk
  have hjI : ¬ (j : Int) < (s.size : Int) := by omega
  have hjs : j ≤ s.size := by omega
  have hb1 : byteAt s j = 0 := byteAt_out s j hin
  rw [hj] at hdr
  obtain ⟨L, hL⟩ : ∃ L, s.data.toList.drop j = L := ⟨_, rfl⟩
  have hLlen : L.length = s.size - j := by rw [← hL, List.length_drop, hlen]
  have hLat : ∀ t (ht : t < s.size), j ≤ t → L[t - j]? = some s[t] := fun t ht h0 => by
    rw [← hL, List.getElem?_drop, show j + (t - j) = t by omega, Array.getElem?_toList]
    exact Array.getElem?_eq_getElem ht
  have hL0 : L.headD 0 = byteAt s j := by rw [← hL]; rfl
  rw [hL] at hdr
  have HL := Lib.hid hLlen
  have HAT := Lib.hid hLat
  have HJ := Lib.hid hj
  have HDR := Lib.hid hdr
  clear hPO hL hLlen hLat hlen
  have h45 : (byteAt s k).toNat ≠ 45 := by omega
  have hl : isLet (byteAt s k) = false := by
    cases e : isLet (byteAt s k) with
    | false => rfl
    | true => have := (isLet_iff _).1 e; omega
  have hd : isDig (byteAt s k) = false := by
    cases e : isDig (byteAt s k) with
    | false => rfl
    | true => have := (isDig_iff _).1 e; omega
  have HT : Hid (tokR (s.data.toList.drop k) = .good 3 [byteAt s k] 0 1) := Lib.hid (by
    have hn1 : ¬ (isDig (byteAt s k) = true ∨ ((byteAt s k).toNat = 45 ∧ isDig (L.headD 0) = true)) := by
      rintro (x | ⟨x, _⟩)
      · rw [hd] at x; cases x
      · exact h45 x
    rw [hdr, tokR_cons, if_neg (by rw [hl]; simp), if_neg hn1, if_neg (fun x => h45 x.1)]
    rw [if_pos (by unfold isMrk; rw [decide_eq_true_iff]; omega)])
  have hlet := fun W => rlet_any W ((byteAt s k).toNat : Int)
  have hdig := fun W => rdig_any W ((byteAt s k).toNat : Int)
  have e1 : letterB ((byteAt s k).toNat : Int) = false := hl
  have e2 : digitB ((byteAt s k).toNat : Int) = false := hd
  rw [e1, hbk] at hlet
  rw [e2, hbk] at hdig
  have e45 : ((s[k].toNat : Int) == 45) = false := by rw [← hbk]; exact b_no (k := 45) h45
  have m123 : ((s[k].toNat : Int) == 123) = true := by rw [← hbk]; exact b_yes (k := 123) (by omega)
  obtain ⟨Wd, hWd⟩ : ∃ Wd, s.extract k j = Wd := ⟨_, rfl⟩
  have HWL : Hid ((⟨[byteAt s k].toArray⟩ : ByteArray) = Wd) := Lib.hid (by
    apply ByteArray.ext
    apply Array.toList_inj.1
    rw [← hWd, extract_list, hdr, show j - k = 1 by omega]
    rfl)
  have hkj : (k : Int) ≤ (j : Int) := by omega
  have hjS : (j : Int) ≤ (s.size : Int) := by omega
  clear hdr e1 e2 hl hd hb1 hL0 hj hbk h45 hm
  go_enter Tryd.func58, Tryd.ntmps58
  go_wp2_with fail
  refine (hlet _).mono ?_
  rintro e w2 ⟨rfl, rfl⟩
  go_wp2_with fail
  refine (hdig _).mono ?_
  rintro e w2 ⟨rfl, rfl⟩
  go_wp2_with fail
  refine bodyPost_ret (v := .tuple #[.agg #[.int .u8 3, .string Wd, I 0, I k], I j, I 0]) (by simp [results, Tryd.results58, go_sem, hWd]) rfl ?_
  rw [HPO.out]
  exact rgood HT.out HWL.out HJ.out ((New.refl w).alloc _)
set_option maxRecDepth 100000 in
set_option maxHeartbeats 8000000 in
theorem rtok_m125_o (w : World) (s : ByteArray) (k j : Nat) (hj : k + 1 = j) (hk : k < s.size) (hs : s.size ≤ 1048576) (hin : ¬ j < s.size) (hm : (byteAt s k).toNat = 125) :
    Calls Tryd.prog 58 #[.string s, I k] w (RTokAns w s k) := by
  obtain ⟨PO, hPO⟩ : ∃ PO, PO = RTokAns w s k := ⟨_, rfl⟩
  rw [← hPO]
  have HPO := Lib.hid hPO
  have hdr := dropAt' s k hk
  have hlen := toList_len s
  have h255 := (byteAt s k).toNat_lt
  have hkI : (k : Int) < (s.size : Int) := by omega
  have hw1 : IntKind.i64.wrap ((k : Int) + 1) = (j : Int) := by rw [IntWalk.i64_in _ (by omega)]; omega
  have hbk : byteAt s k = s[k] := byteAt_in s k hk
  have hjI : ¬ (j : Int) < (s.size : Int) := by omega
  have hjs : j ≤ s.size := by omega
  have hb1 : byteAt s j = 0 := byteAt_out s j hin
  rw [hj] at hdr
  obtain ⟨L, hL⟩ : ∃ L, s.data.toList.drop j = L := ⟨_, rfl⟩
  have hLlen : L.length = s.size - j := by rw [← hL, List.length_drop, hlen]
  have hLat : ∀ t (ht : t < s.size), j ≤ t → L[t - j]? = some s[t] := fun t ht h0 => by
    rw [← hL, List.getElem?_drop, show j + (t - j) = t by omega, Array.getElem?_toList]
    exact Array.getElem?_eq_getElem ht
  have hL0 : L.headD 0 = byteAt s j := by rw [← hL]; rfl
  rw [hL] at hdr
  have HL := Lib.hid hLlen
  have HAT := Lib.hid hLat
  have HJ := Lib.hid hj
  have HDR := Lib.hid hdr
  clear hPO hL hLlen hLat hlen
  have h45 : (byteAt s k).toNat ≠ 45 := by omega
  have hl : isLet (byteAt s k) = false := by
    cases e : isLet (byteAt s k) with
    | false => rfl
    | true => have := (isLet_iff _).1 e; omega
  have hd : isDig (byteAt s k) = false := by
    cases e : isDig (byteAt s k) with
    | false => rfl
    | true => have := (isDig_iff _).1 e; omega
  have HT : Hid (tokR (s.data.toList.drop k) = .good 3 [byteAt s k] 0 1) := Lib.hid (by
    have hn1 : ¬ (isDig (byteAt s k) = true ∨ ((byteAt s k).toNat = 45 ∧ isDig (L.headD 0) = true)) := by
      rintro (x | ⟨x, _⟩)
      · rw [hd] at x; cases x
      · exact h45 x
    rw [hdr, tokR_cons, if_neg (by rw [hl]; simp), if_neg hn1, if_neg (fun x => h45 x.1)]
    rw [if_pos (by unfold isMrk; rw [decide_eq_true_iff]; omega)])
  have hlet := fun W => rlet_any W ((byteAt s k).toNat : Int)
  have hdig := fun W => rdig_any W ((byteAt s k).toNat : Int)
  have e1 : letterB ((byteAt s k).toNat : Int) = false := hl
  have e2 : digitB ((byteAt s k).toNat : Int) = false := hd
  rw [e1, hbk] at hlet
  rw [e2, hbk] at hdig
  have e45 : ((s[k].toNat : Int) == 45) = false := by rw [← hbk]; exact b_no (k := 45) h45
  have m123 : ((s[k].toNat : Int) == 123) = false := by rw [← hbk]; exact b_no (k := 123) (by omega)
  have m125 : ((s[k].toNat : Int) == 125) = true := by rw [← hbk]; exact b_yes (k := 125) (by omega)
  obtain ⟨Wd, hWd⟩ : ∃ Wd, s.extract k j = Wd := ⟨_, rfl⟩
  have HWL : Hid ((⟨[byteAt s k].toArray⟩ : ByteArray) = Wd) := Lib.hid (by
    apply ByteArray.ext
    apply Array.toList_inj.1
    rw [← hWd, extract_list, hdr, show j - k = 1 by omega]
    rfl)
  have hkj : (k : Int) ≤ (j : Int) := by omega
  have hjS : (j : Int) ≤ (s.size : Int) := by omega
  clear hdr e1 e2 hl hd hb1 hL0 hj hbk h45 hm
  go_enter Tryd.func58, Tryd.ntmps58
  go_wp2_with fail
  refine (hlet _).mono ?_
  rintro e w2 ⟨rfl, rfl⟩
  go_wp2_with fail
  refine (hdig _).mono ?_
  rintro e w2 ⟨rfl, rfl⟩
  go_wp2_with fail
  refine bodyPost_ret (v := .tuple #[.agg #[.int .u8 3, .string Wd, I 0, I k], I j, I 0]) (by simp [results, Tryd.results58, go_sem, hWd]) rfl ?_
  rw [HPO.out]
  exact rgood HT.out HWL.out HJ.out ((New.refl w).alloc _)
set_option maxRecDepth 100000 in
set_option maxHeartbeats 8000000 in
theorem rtok_m61_o (w : World) (s : ByteArray) (k j : Nat) (hj : k + 1 = j) (hk : k < s.size) (hs : s.size ≤ 1048576) (hin : ¬ j < s.size) (hm : (byteAt s k).toNat = 61) :
    Calls Tryd.prog 58 #[.string s, I k] w (RTokAns w s k) := by
  obtain ⟨PO, hPO⟩ : ∃ PO, PO = RTokAns w s k := ⟨_, rfl⟩
  rw [← hPO]
  have HPO := Lib.hid hPO
  have hdr := dropAt' s k hk
  have hlen := toList_len s
  have h255 := (byteAt s k).toNat_lt
  have hkI : (k : Int) < (s.size : Int) := by omega
  have hw1 : IntKind.i64.wrap ((k : Int) + 1) = (j : Int) := by rw [IntWalk.i64_in _ (by omega)]; omega
  have hbk : byteAt s k = s[k] := byteAt_in s k hk
  have hjI : ¬ (j : Int) < (s.size : Int) := by omega
  have hjs : j ≤ s.size := by omega
  have hb1 : byteAt s j = 0 := byteAt_out s j hin
  rw [hj] at hdr
  obtain ⟨L, hL⟩ : ∃ L, s.data.toList.drop j = L := ⟨_, rfl⟩
  have hLlen : L.length = s.size - j := by rw [← hL, List.length_drop, hlen]
  have hLat : ∀ t (ht : t < s.size), j ≤ t → L[t - j]? = some s[t] := fun t ht h0 => by
    rw [← hL, List.getElem?_drop, show j + (t - j) = t by omega, Array.getElem?_toList]
    exact Array.getElem?_eq_getElem ht
  have hL0 : L.headD 0 = byteAt s j := by rw [← hL]; rfl
  rw [hL] at hdr
  have HL := Lib.hid hLlen
  have HAT := Lib.hid hLat
  have HJ := Lib.hid hj
  have HDR := Lib.hid hdr
  clear hPO hL hLlen hLat hlen
  have h45 : (byteAt s k).toNat ≠ 45 := by omega
  have hl : isLet (byteAt s k) = false := by
    cases e : isLet (byteAt s k) with
    | false => rfl
    | true => have := (isLet_iff _).1 e; omega
  have hd : isDig (byteAt s k) = false := by
    cases e : isDig (byteAt s k) with
    | false => rfl
    | true => have := (isDig_iff _).1 e; omega
  have HT : Hid (tokR (s.data.toList.drop k) = .good 3 [byteAt s k] 0 1) := Lib.hid (by
    have hn1 : ¬ (isDig (byteAt s k) = true ∨ ((byteAt s k).toNat = 45 ∧ isDig (L.headD 0) = true)) := by
      rintro (x | ⟨x, _⟩)
      · rw [hd] at x; cases x
      · exact h45 x
    rw [hdr, tokR_cons, if_neg (by rw [hl]; simp), if_neg hn1, if_neg (fun x => h45 x.1)]
    rw [if_pos (by unfold isMrk; rw [decide_eq_true_iff]; omega)])
  have hlet := fun W => rlet_any W ((byteAt s k).toNat : Int)
  have hdig := fun W => rdig_any W ((byteAt s k).toNat : Int)
  have e1 : letterB ((byteAt s k).toNat : Int) = false := hl
  have e2 : digitB ((byteAt s k).toNat : Int) = false := hd
  rw [e1, hbk] at hlet
  rw [e2, hbk] at hdig
  have e45 : ((s[k].toNat : Int) == 45) = false := by rw [← hbk]; exact b_no (k := 45) h45
  have m123 : ((s[k].toNat : Int) == 123) = false := by rw [← hbk]; exact b_no (k := 123) (by omega)
  have m125 : ((s[k].toNat : Int) == 125) = false := by rw [← hbk]; exact b_no (k := 125) (by omega)
  have m61 : ((s[k].toNat : Int) == 61) = true := by rw [← hbk]; exact b_yes (k := 61) (by omega)
  obtain ⟨Wd, hWd⟩ : ∃ Wd, s.extract k j = Wd := ⟨_, rfl⟩
  have HWL : Hid ((⟨[byteAt s k].toArray⟩ : ByteArray) = Wd) := Lib.hid (by
    apply ByteArray.ext
    apply Array.toList_inj.1
    rw [← hWd, extract_list, hdr, show j - k = 1 by omega]
    rfl)
  have hkj : (k : Int) ≤ (j : Int) := by omega
  have hjS : (j : Int) ≤ (s.size : Int) := by omega
  clear hdr e1 e2 hl hd hb1 hL0 hj hbk h45 hm
  go_enter Tryd.func58, Tryd.ntmps58
  go_wp2_with fail
  refine (hlet _).mono ?_
  rintro e w2 ⟨rfl, rfl⟩
  go_wp2_with fail
  refine (hdig _).mono ?_
  rintro e w2 ⟨rfl, rfl⟩
  go_wp2_with fail
  refine bodyPost_ret (v := .tuple #[.agg #[.int .u8 3, .string Wd, I 0, I k], I j, I 0]) (by simp [results, Tryd.results58, go_sem, hWd]) rfl ?_
  rw [HPO.out]
  exact rgood HT.out HWL.out HJ.out ((New.refl w).alloc _)
set_option maxRecDepth 100000 in
set_option maxHeartbeats 8000000 in
theorem rtok_m59_o (w : World) (s : ByteArray) (k j : Nat) (hj : k + 1 = j) (hk : k < s.size) (hs : s.size ≤ 1048576) (hin : ¬ j < s.size) (hm : (byteAt s k).toNat = 59) :
    Calls Tryd.prog 58 #[.string s, I k] w (RTokAns w s k) := by
  obtain ⟨PO, hPO⟩ : ∃ PO, PO = RTokAns w s k := ⟨_, rfl⟩
  rw [← hPO]
  have HPO := Lib.hid hPO
  have hdr := dropAt' s k hk
  have hlen := toList_len s
  have h255 := (byteAt s k).toNat_lt
  have hkI : (k : Int) < (s.size : Int) := by omega
  have hw1 : IntKind.i64.wrap ((k : Int) + 1) = (j : Int) := by rw [IntWalk.i64_in _ (by omega)]; omega
  have hbk : byteAt s k = s[k] := byteAt_in s k hk
  have hjI : ¬ (j : Int) < (s.size : Int) := by omega
  have hjs : j ≤ s.size := by omega
  have hb1 : byteAt s j = 0 := byteAt_out s j hin
  rw [hj] at hdr
  obtain ⟨L, hL⟩ : ∃ L, s.data.toList.drop j = L := ⟨_, rfl⟩
  have hLlen : L.length = s.size - j := by rw [← hL, List.length_drop, hlen]
  have hLat : ∀ t (ht : t < s.size), j ≤ t → L[t - j]? = some s[t] := fun t ht h0 => by
    rw [← hL, List.getElem?_drop, show j + (t - j) = t by omega, Array.getElem?_toList]
    exact Array.getElem?_eq_getElem ht
  have hL0 : L.headD 0 = byteAt s j := by rw [← hL]; rfl
  rw [hL] at hdr
  have HL := Lib.hid hLlen
  have HAT := Lib.hid hLat
  have HJ := Lib.hid hj
  have HDR := Lib.hid hdr
  clear hPO hL hLlen hLat hlen
  have h45 : (byteAt s k).toNat ≠ 45 := by omega
  have hl : isLet (byteAt s k) = false := by
    cases e : isLet (byteAt s k) with
    | false => rfl
    | true => have := (isLet_iff _).1 e; omega
  have hd : isDig (byteAt s k) = false := by
    cases e : isDig (byteAt s k) with
    | false => rfl
    | true => have := (isDig_iff _).1 e; omega
  have HT : Hid (tokR (s.data.toList.drop k) = .good 3 [byteAt s k] 0 1) := Lib.hid (by
    have hn1 : ¬ (isDig (byteAt s k) = true ∨ ((byteAt s k).toNat = 45 ∧ isDig (L.headD 0) = true)) := by
      rintro (x | ⟨x, _⟩)
      · rw [hd] at x; cases x
      · exact h45 x
    rw [hdr, tokR_cons, if_neg (by rw [hl]; simp), if_neg hn1, if_neg (fun x => h45 x.1)]
    rw [if_pos (by unfold isMrk; rw [decide_eq_true_iff]; omega)])
  have hlet := fun W => rlet_any W ((byteAt s k).toNat : Int)
  have hdig := fun W => rdig_any W ((byteAt s k).toNat : Int)
  have e1 : letterB ((byteAt s k).toNat : Int) = false := hl
  have e2 : digitB ((byteAt s k).toNat : Int) = false := hd
  rw [e1, hbk] at hlet
  rw [e2, hbk] at hdig
  have e45 : ((s[k].toNat : Int) == 45) = false := by rw [← hbk]; exact b_no (k := 45) h45
  have m123 : ((s[k].toNat : Int) == 123) = false := by rw [← hbk]; exact b_no (k := 123) (by omega)
  have m125 : ((s[k].toNat : Int) == 125) = false := by rw [← hbk]; exact b_no (k := 125) (by omega)
  have m61 : ((s[k].toNat : Int) == 61) = false := by rw [← hbk]; exact b_no (k := 61) (by omega)
  have m59 : ((s[k].toNat : Int) == 59) = true := by rw [← hbk]; exact b_yes (k := 59) (by omega)
  obtain ⟨Wd, hWd⟩ : ∃ Wd, s.extract k j = Wd := ⟨_, rfl⟩
  have HWL : Hid ((⟨[byteAt s k].toArray⟩ : ByteArray) = Wd) := Lib.hid (by
    apply ByteArray.ext
    apply Array.toList_inj.1
    rw [← hWd, extract_list, hdr, show j - k = 1 by omega]
    rfl)
  have hkj : (k : Int) ≤ (j : Int) := by omega
  have hjS : (j : Int) ≤ (s.size : Int) := by omega
  clear hdr e1 e2 hl hd hb1 hL0 hj hbk h45 hm
  go_enter Tryd.func58, Tryd.ntmps58
  go_wp2_with fail
  refine (hlet _).mono ?_
  rintro e w2 ⟨rfl, rfl⟩
  go_wp2_with fail
  refine (hdig _).mono ?_
  rintro e w2 ⟨rfl, rfl⟩
  go_wp2_with fail
  refine bodyPost_ret (v := .tuple #[.agg #[.int .u8 3, .string Wd, I 0, I k], I j, I 0]) (by simp [results, Tryd.results58, go_sem, hWd]) rfl ?_
  rw [HPO.out]
  exact rgood HT.out HWL.out HJ.out ((New.refl w).alloc _)
set_option maxRecDepth 100000 in
set_option maxHeartbeats 8000000 in
theorem rtok_m46_o (w : World) (s : ByteArray) (k j : Nat) (hj : k + 1 = j) (hk : k < s.size) (hs : s.size ≤ 1048576) (hin : ¬ j < s.size) (hm : (byteAt s k).toNat = 46) :
    Calls Tryd.prog 58 #[.string s, I k] w (RTokAns w s k) := by
  obtain ⟨PO, hPO⟩ : ∃ PO, PO = RTokAns w s k := ⟨_, rfl⟩
  rw [← hPO]
  have HPO := Lib.hid hPO
  have hdr := dropAt' s k hk
  have hlen := toList_len s
  have h255 := (byteAt s k).toNat_lt
  have hkI : (k : Int) < (s.size : Int) := by omega
  have hw1 : IntKind.i64.wrap ((k : Int) + 1) = (j : Int) := by rw [IntWalk.i64_in _ (by omega)]; omega
  have hbk : byteAt s k = s[k] := byteAt_in s k hk
  have hjI : ¬ (j : Int) < (s.size : Int) := by omega
  have hjs : j ≤ s.size := by omega
  have hb1 : byteAt s j = 0 := byteAt_out s j hin
  rw [hj] at hdr
  obtain ⟨L, hL⟩ : ∃ L, s.data.toList.drop j = L := ⟨_, rfl⟩
  have hLlen : L.length = s.size - j := by rw [← hL, List.length_drop, hlen]
  have hLat : ∀ t (ht : t < s.size), j ≤ t → L[t - j]? = some s[t] := fun t ht h0 => by
    rw [← hL, List.getElem?_drop, show j + (t - j) = t by omega, Array.getElem?_toList]
    exact Array.getElem?_eq_getElem ht
  have hL0 : L.headD 0 = byteAt s j := by rw [← hL]; rfl
  rw [hL] at hdr
  have HL := Lib.hid hLlen
  have HAT := Lib.hid hLat
  have HJ := Lib.hid hj
  have HDR := Lib.hid hdr
  clear hPO hL hLlen hLat hlen
  have h45 : (byteAt s k).toNat ≠ 45 := by omega
  have hl : isLet (byteAt s k) = false := by
    cases e : isLet (byteAt s k) with
    | false => rfl
    | true => have := (isLet_iff _).1 e; omega
  have hd : isDig (byteAt s k) = false := by
    cases e : isDig (byteAt s k) with
    | false => rfl
    | true => have := (isDig_iff _).1 e; omega
  have HT : Hid (tokR (s.data.toList.drop k) = .good 3 [byteAt s k] 0 1) := Lib.hid (by
    have hn1 : ¬ (isDig (byteAt s k) = true ∨ ((byteAt s k).toNat = 45 ∧ isDig (L.headD 0) = true)) := by
      rintro (x | ⟨x, _⟩)
      · rw [hd] at x; cases x
      · exact h45 x
    rw [hdr, tokR_cons, if_neg (by rw [hl]; simp), if_neg hn1, if_neg (fun x => h45 x.1)]
    rw [if_pos (by unfold isMrk; rw [decide_eq_true_iff]; omega)])
  have hlet := fun W => rlet_any W ((byteAt s k).toNat : Int)
  have hdig := fun W => rdig_any W ((byteAt s k).toNat : Int)
  have e1 : letterB ((byteAt s k).toNat : Int) = false := hl
  have e2 : digitB ((byteAt s k).toNat : Int) = false := hd
  rw [e1, hbk] at hlet
  rw [e2, hbk] at hdig
  have e45 : ((s[k].toNat : Int) == 45) = false := by rw [← hbk]; exact b_no (k := 45) h45
  have m123 : ((s[k].toNat : Int) == 123) = false := by rw [← hbk]; exact b_no (k := 123) (by omega)
  have m125 : ((s[k].toNat : Int) == 125) = false := by rw [← hbk]; exact b_no (k := 125) (by omega)
  have m61 : ((s[k].toNat : Int) == 61) = false := by rw [← hbk]; exact b_no (k := 61) (by omega)
  have m59 : ((s[k].toNat : Int) == 59) = false := by rw [← hbk]; exact b_no (k := 59) (by omega)
  have m46 : ((s[k].toNat : Int) == 46) = true := by rw [← hbk]; exact b_yes (k := 46) (by omega)
  obtain ⟨Wd, hWd⟩ : ∃ Wd, s.extract k j = Wd := ⟨_, rfl⟩
  have HWL : Hid ((⟨[byteAt s k].toArray⟩ : ByteArray) = Wd) := Lib.hid (by
    apply ByteArray.ext
    apply Array.toList_inj.1
    rw [← hWd, extract_list, hdr, show j - k = 1 by omega]
    rfl)
  have hkj : (k : Int) ≤ (j : Int) := by omega
  have hjS : (j : Int) ≤ (s.size : Int) := by omega
  clear hdr e1 e2 hl hd hb1 hL0 hj hbk h45 hm
  go_enter Tryd.func58, Tryd.ntmps58
  go_wp2_with fail
  refine (hlet _).mono ?_
  rintro e w2 ⟨rfl, rfl⟩
  go_wp2_with fail
  refine (hdig _).mono ?_
  rintro e w2 ⟨rfl, rfl⟩
  go_wp2_with fail
  refine bodyPost_ret (v := .tuple #[.agg #[.int .u8 3, .string Wd, I 0, I k], I j, I 0]) (by simp [results, Tryd.results58, go_sem, hWd]) rfl ?_
  rw [HPO.out]
  exact rgood HT.out HWL.out HJ.out ((New.refl w).alloc _)
set_option maxRecDepth 100000 in
set_option maxHeartbeats 8000000 in
theorem rtok_byte_o (w : World) (s : ByteArray) (k j : Nat) (hj : k + 1 = j) (hk : k < s.size) (hs : s.size ≤ 1048576) (hin : ¬ j < s.size) (hl : isLet (byteAt s k) = false) (hd : isDig (byteAt s k) = false) (h45 : (byteAt s k).toNat ≠ 45) (hm : isMrk (byteAt s k) = false) :
    Calls Tryd.prog 58 #[.string s, I k] w (RTokAns w s k) := by
  obtain ⟨PO, hPO⟩ : ∃ PO, PO = RTokAns w s k := ⟨_, rfl⟩
  rw [← hPO]
  have HPO := Lib.hid hPO
  have hdr := dropAt' s k hk
  have hlen := toList_len s
  have h255 := (byteAt s k).toNat_lt
  have hkI : (k : Int) < (s.size : Int) := by omega
  have hw1 : IntKind.i64.wrap ((k : Int) + 1) = (j : Int) := by rw [IntWalk.i64_in _ (by omega)]; omega
  have hbk : byteAt s k = s[k] := byteAt_in s k hk
  have hjI : ¬ (j : Int) < (s.size : Int) := by omega
  have hjs : j ≤ s.size := by omega
  have hb1 : byteAt s j = 0 := byteAt_out s j hin
  rw [hj] at hdr
  obtain ⟨L, hL⟩ : ∃ L, s.data.toList.drop j = L := ⟨_, rfl⟩
  have hLlen : L.length = s.size - j := by rw [← hL, List.length_drop, hlen]
  have hLat : ∀ t (ht : t < s.size), j ≤ t → L[t - j]? = some s[t] := fun t ht h0 => by
    rw [← hL, List.getElem?_drop, show j + (t - j) = t by omega, Array.getElem?_toList]
    exact Array.getElem?_eq_getElem ht
  have hL0 : L.headD 0 = byteAt s j := by rw [← hL]; rfl
  rw [hL] at hdr
  have HL := Lib.hid hLlen
  have HAT := Lib.hid hLat
  have HJ := Lib.hid hj
  have HDR := Lib.hid hdr
  clear hPO hL hLlen hLat hlen
  have HT : Hid (tokR (s.data.toList.drop k) = .bad 40) := Lib.hid (by
    have hn1 : ¬ (isDig (byteAt s k) = true ∨ ((byteAt s k).toNat = 45 ∧ isDig (L.headD 0) = true)) := by
      rintro (x | ⟨x, _⟩)
      · rw [hd] at x; cases x
      · exact h45 x
    rw [hdr, tokR_cons, if_neg (by rw [hl]; simp), if_neg hn1, if_neg (fun x => h45 x.1)]
    rw [if_neg (by rw [hm]; simp)])
  have hlet := fun W => rlet_any W ((byteAt s k).toNat : Int)
  have hdig := fun W => rdig_any W ((byteAt s k).toNat : Int)
  have e1 : letterB ((byteAt s k).toNat : Int) = false := hl
  have e2 : digitB ((byteAt s k).toNat : Int) = false := hd
  rw [e1, hbk] at hlet
  rw [e2, hbk] at hdig
  have e45 : ((s[k].toNat : Int) == 45) = false := by rw [← hbk]; exact b_no (k := 45) h45
  unfold isMrk at hm
  rw [decide_eq_false_iff_not] at hm
  have m123 : ((s[k].toNat : Int) == 123) = false := by rw [← hbk]; exact b_no (k := 123) (by omega)
  have m125 : ((s[k].toNat : Int) == 125) = false := by rw [← hbk]; exact b_no (k := 125) (by omega)
  have m61 : ((s[k].toNat : Int) == 61) = false := by rw [← hbk]; exact b_no (k := 61) (by omega)
  have m59 : ((s[k].toNat : Int) == 59) = false := by rw [← hbk]; exact b_no (k := 59) (by omega)
  have m46 : ((s[k].toNat : Int) == 46) = false := by rw [← hbk]; exact b_no (k := 46) (by omega)
  clear hdr e1 e2 hl hd hb1 hL0 hj hbk h45 hm
  go_enter Tryd.func58, Tryd.ntmps58
  go_wp2_with fail
  refine (hlet _).mono ?_
  rintro e w2 ⟨rfl, rfl⟩
  go_wp2_with fail
  refine (hdig _).mono ?_
  rintro e w2 ⟨rfl, rfl⟩
  go_wp2_with fail
  refine bodyPost_ret (v := .tuple #[.agg #[.int .u8 0, .string ⟨#[]⟩, I 0, I 0], I 0, I 40]) (by simp [results, Tryd.results58, go_sem]) rfl ?_
  rw [HPO.out]
  exact rbad HT.out ((New.refl w).alloc _)
/-- The document's token. -/
theorem rtok_any (w : World) (s : ByteArray) (k : Nat) (hk : k < s.size) (hs : s.size ≤ 1048576) : Calls Tryd.prog 58 #[.string s, I k] w (RTokAns w s k) := by
  cases hl : isLet (byteAt s k) with
  | true => exact (if hin : k + 1 < s.size then rtok_word_i w s k _ rfl hk hs hin hl else rtok_word_o w s k _ rfl hk hs hin hl)
  | false =>
    cases hd : isDig (byteAt s k) with
    | true => exact (if hin : k + 1 < s.size then rtok_digit_i w s k _ rfl hk hs hin hl hd else rtok_digit_o w s k _ rfl hk hs hin hl hd)
    | false =>
      by_cases h45 : (byteAt s k).toNat = 45
      · cases hd1 : isDig (byteAt s (k + 1)) with
        | true =>
          have hin : k + 1 < s.size := by
            by_cases h : k + 1 < s.size
            · exact h
            · rw [byteAt_out s _ h] at hd1; exact absurd hd1 (by decide)
          exact rtok_minus_i w s k _ rfl hk hs hin h45 hd1
        | false =>
          by_cases h62 : (byteAt s (k + 1)).toNat = 62
          · have hin : k + 1 < s.size := by
              by_cases h : k + 1 < s.size
              · exact h
              · rw [byteAt_out s _ h] at h62; exact absurd h62 (by decide)
            exact rtok_arrow_i w s k _ rfl hk hs hin h45 hd1 h62
          · exact (if hin : k + 1 < s.size then rtok_dash_i w s k _ rfl hk hs hin h45 hd1 h62 else rtok_dash_o w s k _ rfl hk hs hin h45 hd1 h62)
      · cases hm : isMrk (byteAt s k) with
        | false => exact (if hin : k + 1 < s.size then rtok_byte_i w s k _ rfl hk hs hin hl hd h45 hm else rtok_byte_o w s k _ rfl hk hs hin hl hd h45 hm)
        | true =>
          unfold isMrk at hm
          rw [decide_eq_true_iff] at hm
          rcases hm with hm | hm | hm | hm | hm
          · exact (if hin : k + 1 < s.size then rtok_m123_i w s k _ rfl hk hs hin hm else rtok_m123_o w s k _ rfl hk hs hin hm)
          · exact (if hin : k + 1 < s.size then rtok_m125_i w s k _ rfl hk hs hin hm else rtok_m125_o w s k _ rfl hk hs hin hm)
          · exact (if hin : k + 1 < s.size then rtok_m61_i w s k _ rfl hk hs hin hm else rtok_m61_o w s k _ rfl hk hs hin hm)
          · exact (if hin : k + 1 < s.size then rtok_m59_i w s k _ rfl hk hs hin hm else rtok_m59_o w s k _ rfl hk hs hin hm)
          · exact (if hin : k + 1 < s.size then rtok_m46_i w s k _ rfl hk hs hin hm else rtok_m46_o w s k _ rfl hk hs hin hm)
end Go.Proofs.YtohalcbhckahmaaDoor
namespace Go.Proofs.YtohalcbhckahmaaDoor
open Go Go.RowKit Go.Joins
set_option linter.all false

set_option maxRecDepth 100000 in
set_option maxHeartbeats 8000000 in
theorem rall_any (w : World) (s : ByteArray) (hs : s.size ≤ 9223372036854775807) :
    Calls Tryd.prog 31 #[.string s] w (AllAns w s) := by
  have hz : (w.alloc FltZ).heap[w.heap.size]? = some (.cells #[I 0, I 0] 27 (0, 0)) := heap_alloc_new w _
  by_cases hbig : 1048576 < s.size
  · have HA := Lib.hid (lexA_long hbig)
    have hbI : (1048576 : Int) < (s.size : Int) := by omega
    clear hz
    go_enter Tryd.func31, Tryd.ntmps31
    go_wp2_with fail
    refine bodyPost_ret (v := .tuple #[.slice none 0 0, .agg #[I 2, I 1048576]]) (by simp [results, Tryd.results31, go_sem]) rfl ?_
    exact ans_none _ _ _ _ _ HA.out ((New.refl w).alloc _)
  · obtain ⟨i0, hi0, hz0, hz1, hz2⟩ := info_parts infoTok
    have HBG := Lib.hid hbig
    have hs2 : s.size ≤ 1048576 := by omega
    have hbI : ¬ (1048576 : Int) < (s.size : Int) := by omega
    have HZ := Lib.hid hz
    have hnil : (w.alloc FltZ).ownsRow w.heap.size 50 4 (.slice none 0 0) 0 [] := World.ownsRow_nil _ _ _ _
    have hlen := toList_len s
    clear hbig hz
    obtain ⟨PO, hPO⟩ : ∃ PO, PO = AllAns w s := ⟨_, rfl⟩
    rw [← hPO]
    have HPO := Lib.hid hPO
    have HLEN := Lib.hid hlen
    clear hPO hlen
    go_enter Tryd.func31, Tryd.ntmps31
    go_wp2_with fail
    go_loopw [4, 5] (fun x y wr => ∃ (k : Nat) (ts : List LTok) (a : Option Addr) (c nn : Nat), k ≤ s.size ∧ y = .int .i64 k ∧ x = .slice a nn c ∧ nn ≤ k ∧ Hid (ts.length = nn) ∧ Hid (lexL 0 s.data.toList = (ts ++ (lexL k (s.data.toList.drop k)).1, (lexL k (s.data.toList.drop k)).2)) ∧ New w wr ∧
  Hid (wr.heap[w.heap.size]? = some (.cells #[I 0, I 0] 27 (0, 0))) ∧ Hid (wr.ownsRow w.heap.size 50 4 (.slice a nn c) nn (ts.flatMap tokCells))) (fun _ y _ => s.size - (intOf y).toNat)
    case atStart =>
      refine ⟨0, [], none, 0, 0, by omega, rfl, rfl, by omega, Lib.hid rfl, Lib.hid ?_, (New.refl w).alloc _, HZ, Lib.hid hnil⟩
      rw [List.drop_zero]; rfl
    case round =>
      clear hnil HZ
      obtain ⟨k, ts, a, c, nn, hk, rfl, rfl, hnn, HTS, HL, hN, HZ, HO⟩ := hrel
      by_cases hk2 : k < s.size
      · have hkI : (k : Int) < (s.size : Int) := by omega
        have hdr := dropAt s k hk2
        obtain ⟨b, hb⟩ : ∃ b, s[k] = b := ⟨_, rfl⟩
        rw [hb] at hdr
        have h256 : b.toNat < 256 := b.toNat_lt
        have hw1 : IntKind.i64.wrap ((k : Int) + 1) = (k : Int) + 1 := IntWalk.i64_in _ (by omega)
        cases hbl : isBlk b with
        | true =>
          have HL2 : Hid (lexL 0 s.data.toList = (ts ++ (lexL (k + 1) (s.data.toList.drop (k + 1))).1, (lexL (k + 1) (s.data.toList.drop (k + 1))).2)) := Lib.hid (by rw [HL.out, hdr, lexL_blank _ _ _ hbl])
          unfold isBlk at hbl
          rw [decide_eq_true_iff] at hbl
          rcases hbl with h | h | h | h
          · have e32 : ((b.toNat : Int) == 32) = true := b_yes (k := 32) (by omega)
            obtain ⟨bI, hbI2⟩ : ∃ x : Int, (b.toNat : Int) = x := ⟨_, rfl⟩
            rw [hbI2] at e32
            clear h hdr h256
            go_wp2_with fail
            go_roundw
            case rel => exact ⟨k + 1, ts, a, c, nn, by omega, by go_num, rfl, by omega, HTS, HL2, hN, HZ, HO⟩
            case measure => simp [intOf]; omega
          · have e32 : ((b.toNat : Int) == 32) = false := b_no (k := 32) (by omega)
            have e9 : ((b.toNat : Int) == 9) = true := b_yes (k := 9) (by omega)
            obtain ⟨bI, hbI2⟩ : ∃ x : Int, (b.toNat : Int) = x := ⟨_, rfl⟩
            rw [hbI2] at e32 e9
            clear h hdr h256
            go_wp2_with fail
            go_roundw
            case rel => exact ⟨k + 1, ts, a, c, nn, by omega, by go_num, rfl, by omega, HTS, HL2, hN, HZ, HO⟩
            case measure => simp [intOf]; omega
          · have e32 : ((b.toNat : Int) == 32) = false := b_no (k := 32) (by omega)
            have e9 : ((b.toNat : Int) == 9) = false := b_no (k := 9) (by omega)
            have e13 : ((b.toNat : Int) == 13) = true := b_yes (k := 13) (by omega)
            obtain ⟨bI, hbI2⟩ : ∃ x : Int, (b.toNat : Int) = x := ⟨_, rfl⟩
            rw [hbI2] at e32 e9 e13
            clear h hdr h256
            go_wp2_with fail
            go_roundw
            case rel => exact ⟨k + 1, ts, a, c, nn, by omega, by go_num, rfl, by omega, HTS, HL2, hN, HZ, HO⟩
            case measure => simp [intOf]; omega
          · have e32 : ((b.toNat : Int) == 32) = false := b_no (k := 32) (by omega)
            have e9 : ((b.toNat : Int) == 9) = false := b_no (k := 9) (by omega)
            have e13 : ((b.toNat : Int) == 13) = false := b_no (k := 13) (by omega)
            have e10 : ((b.toNat : Int) == 10) = true := b_yes (k := 10) (by omega)
            obtain ⟨bI, hbI2⟩ : ∃ x : Int, (b.toNat : Int) = x := ⟨_, rfl⟩
            rw [hbI2] at e32 e9 e13 e10
            clear h hdr h256
            go_wp2_with fail
            go_roundw
            case rel => exact ⟨k + 1, ts, a, c, nn, by omega, by go_num, rfl, by omega, HTS, HL2, hN, HZ, HO⟩
            case measure => simp [intOf]; omega
        | false =>
          have hbn : ¬ (b.toNat = 32 ∨ b.toNat = 9 ∨ b.toNat = 13 ∨ b.toNat = 10) := by
            have h := hbl
            unfold isBlk at h
            rwa [decide_eq_false_iff_not] at h
          have e32 : ((b.toNat : Int) == 32) = false := b_no (k := 32) (by omega)
          have e9 : ((b.toNat : Int) == 9) = false := b_no (k := 9) (by omega)
          have e13 : ((b.toNat : Int) == 13) = false := b_no (k := 13) (by omega)
          have e10 : ((b.toNat : Int) == 10) = false := b_no (k := 10) (by omega)
          by_cases h35 : b.toNat = 35
          · have e35 : ((b.toNat : Int) == 35) = true := b_yes (k := 35) h35
            have hne : notEol b = true := by unfold notEol; rw [decide_eq_true_iff]; omega
            obtain ⟨L, hL⟩ : ∃ L, s.data.toList.drop k = L := ⟨_, rfl⟩
            have hLlen : L.length = s.size - k := by rw [← hL, List.length_drop, HLEN.out]
            have hLat : ∀ t (ht : t < s.size), k ≤ t → L[t - k]? = some s[t] := fun t ht h0 => by
              rw [← hL, List.getElem?_drop, show k + (t - k) = t by omega, Array.getElem?_toList]
              exact Array.getElem?_eq_getElem ht
            have HLL := Lib.hid hLlen
            have HAT := Lib.hid hLat
            have HEND : Hid (∀ t, (L.takeWhile notEol).length = t - k → t ≤ s.size → k < t ∧ lexL 0 s.data.toList = (ts ++ (lexL t (s.data.toList.drop t)).1, (lexL t (s.data.toList.drop t)).2)) := Lib.hid (by
              intro t ht hts
              have hL2 : L = b :: s.data.toList.drop (k + 1) := by rw [← hL, hdr]
              rw [hL2, List.takeWhile_cons, if_pos hne, List.length_cons] at ht
              refine ⟨by omega, ?_⟩
              rw [HL.out, hdr, lexL_hash _ _ _ h35, List.drop_drop, show k + 1 + ((s.data.toList.drop (k + 1)).takeWhile notEol).length = t by omega])
            have hbe : (s[k].toNat : Int) = (b.toNat : Int) := by rw [hb]
            clear hL hLlen hLat hdr hne hbn hbl HL hb
            obtain ⟨bI, hbI2⟩ : ∃ x : Int, (b.toNat : Int) = x := ⟨_, rfl⟩
            rw [hbI2] at e32 e9 e13 e10 e35 hbe
            clear hbI2 h35 h256
            go_wp2_with fail
            obtain ⟨wo, rfl⟩ : ∃ wo : World, wo = wr := ⟨_, rfl⟩
            go_loopw [5] (fun y wr => ∃ t : Nat, k ≤ t ∧ t ≤ s.size ∧ y = .int .i64 t ∧ Hid ((L.take (t - k)).all notEol = true) ∧ wr = wo) (fun y _ => s.size - (intOf y).toNat)
            case atStart => exact ⟨k, Nat.le_refl _, hk, rfl, Lib.hid (by rw [Nat.sub_self]; rfl), rfl⟩
            case round =>
              obtain ⟨t, ht1, ht2, rfl, HA, rfl⟩ := hrel
              by_cases ht3 : t < s.size
              · have hat := HAT.out t ht3 ht1
                have htI : (t : Int) < (s.size : Int) := by omega
                have hwt : IntKind.i64.wrap ((t : Int) + 1) = (t : Int) + 1 := IntWalk.i64_in _ (by omega)
                have h257 : s[t].toNat < 256 := s[t].toNat_lt
                by_cases h10 : s[t].toNat = 10
                · have e2 : notEol s[t] = false := by unfold notEol; rw [decide_eq_false_iff_not]; omega
                  have f10 : ((s[t].toNat : Int) == 10) = true := b_yes (k := 10) h10
                  obtain ⟨hlt, hle⟩ := HEND.out t (takeWhile_cut _ _ _ HA.out (fun b hb => by rw [hat] at hb; cases hb; exact e2) (by rw [HLL.out]; omega)) ht2
                  have HLE := Lib.hid hle
                  clear e2 hat h10 hle
                  go_wp2_with fail
                  go_roundw
                  case rel => exact ⟨t, ts, a, c, nn, by omega, by first | rfl | go_num, rfl, by omega, HTS, HLE, hN, HZ, HO⟩
                  case measure => simp [intOf]; omega
                · have e2 : notEol s[t] = true := by unfold notEol; rw [decide_eq_true_iff]; omega
                  have f10 : ((s[t].toNat : Int) == 10) = false := b_no (k := 10) h10
                  have HA2 : Hid ((L.take (t + 1 - k)).all notEol = true) := Lib.hid (by
                    rw [show t + 1 - k = (t - k) + 1 by omega, List.take_succ, hat, List.all_append, HA.out]
                    simp [e2])
                  clear e2 hat h10
                  go_wp2_with fail
                  go_roundw
                  case rel => exact ⟨t + 1, by omega, by omega, by go_num, HA2, by first | rfl | trivial⟩
                  case measure => simp [intOf]; omega
              · obtain ⟨hlt, hle⟩ := HEND.out t (takeWhile_cut _ _ _ HA.out (fun b hb => by rw [List.getElem?_eq_none (by rw [HLL.out]; omega)] at hb; cases hb) (by rw [HLL.out]; omega)) ht2
                have HLE := Lib.hid hle
                have htI : ¬ (t : Int) < (s.size : Int) := by omega
                clear hle
                go_wp2_with fail
                go_roundw
                case rel => exact ⟨t, ts, a, c, nn, by omega, by first | rfl | go_num, rfl, by omega, HTS, HLE, hN, HZ, HO⟩
                case measure => simp [intOf]; omega
          · have e35 : ((b.toNat : Int) == 35) = false := b_no (k := 35) h35
            have htk := rtok_any wr s k hk2 hs2
            unfold RTokAns at htk
            have hbe : (s[k].toNat : Int) = (b.toNat : Int) := by rw [hb]
            have hsz := hN.size
            cases ht : tokR (s.data.toList.drop k) with
            | bad cc =>
              have HLB : Hid (lexA s.data.toList = ([], cc, k)) := Lib.hid (lexA_bad HBG.out (show lexL 0 s.data.toList = (ts, some (cc, k)) by
                have ht2 := ht
                rw [hdr] at ht2
                rw [HL.out, hdr, lexL_bad _ _ _ hbl h35 ht2, List.append_nil]))
              have hcd : (cc == 0) = false := by rcases tokR_bad ht with rfl | rfl | rfl <;> rfl
              rw [ht] at htk
              clear ht hdr hbn hbl HL hb
              obtain ⟨bI, hbI2⟩ : ∃ x : Int, (b.toNat : Int) = x := ⟨_, rfl⟩
              rw [hbI2] at e32 e9 e13 e10 e35 hbe
              clear hbI2 h35 h256
              go_wp2_with fail
              refine htk.mono ?_
              rintro e w4 ⟨rfl, n4⟩
              have hz4 := Keeps.heap n4 HZ.out (fun h => h)
              obtain ⟨u0, u1, v0, v1, hlt4⟩ := flt_cells hz4
              obtain ⟨hst, kst⟩ := flt_stored hz4 (I cc) (I k)
              obtain ⟨W5, hW5⟩ : ∃ W5, (w4.setCell ⟨w.heap.size, 0, none⟩ (I cc)).setCell ⟨w.heap.size, 1, none⟩ (I k) = W5 := ⟨_, rfl⟩
              rw [hW5] at hst kst
              have ka : New W5 (W5.alloc (.cells #[.int .u8 0, .string ⟨#[]⟩, I 0, I 0] 50)) := (New.refl _).alloc _
              obtain ⟨x0, x1, y0, y1, hBB⟩ := flt_cells (Keeps.heap ka hst (fun h => h))
              have HF : Hid (PO (.returned (.tuple #[.slice none 0 0, .agg #[I cc, I k]])) (W5.alloc (.cells #[.int .u8 0, .string ⟨#[]⟩, I 0, I 0] 50))) := Lib.hid (by
                rw [HPO.out]
                exact ans_none _ _ _ _ _ HLB.out ((New.keeps (hN.trans n4) kst (fun i hi hx => by omega)).trans ka))
              have HW5 := Lib.hid hW5
              clear hst kst hz4 n4 ka htk hN hW5
              go_wp2_with fail
              have hxx : (w4.setCell ⟨w.heap.size, 0, none⟩ (.int .i64 cc)).setCell ⟨w.heap.size, 1, none⟩ (.int .i64 (k : Int)) = W5 := HW5.out
              rw [hxx]
              refine bodyPost_ret (v := .tuple #[.slice none 0 0, .agg #[I cc, I k]]) (by simp [results, Tryd.results31, go_sem, x0, x1, y0, y1, hBB]) rfl ?_
              exact HF.out
            | good so tx nu len =>
              have hl2 := tokR_len ht
              rw [List.length_drop, HLEN.out] at hl2
              obtain ⟨Tx, hTx⟩ : ∃ T : ByteArray, (⟨tx.toArray⟩ : ByteArray) = T := ⟨_, rfl⟩
              obtain ⟨z, hzz⟩ : ∃ z, k + len = z := ⟨_, rfl⟩
              have HL2 : Hid (lexL 0 s.data.toList = ((ts ++ [⟨so, tx, nu, k⟩]) ++ (lexL z (s.data.toList.drop z)).1, (lexL z (s.data.toList.drop z)).2)) := Lib.hid (by
                have ht2 := ht
                rw [hdr] at ht2
                rw [HL.out, hdr, lexL_good _ _ _ hbl h35 ht2, ← hdr, List.drop_drop, hzz]
                simp)
              rw [ht] at htk
              simp only [hTx, hzz] at htk
              have HFL : Hid ((ts ++ [(⟨so, tx, nu, k⟩ : LTok)]).flatMap tokCells = ts.flatMap tokCells ++ [.int .u8 so, .string Tx, I nu, I (k : Int)] ∧ (ts ++ [(⟨so, tx, nu, k⟩ : LTok)]).length = nn + 1) := Lib.hid (by
                refine ⟨?_, by rw [List.length_append, HTS.out]; rfl⟩
                rw [List.flatMap_append, ← hTx]; rfl)
              have hzk : k + 1 ≤ z ∧ z ≤ s.size := by omega
              clear ht hdr hbn hbl HL hb hTx hl2 hzz
              obtain ⟨bI, hbI2⟩ : ∃ x : Int, (b.toNat : Int) = x := ⟨_, rfl⟩
              rw [hbI2] at e32 e9 e13 e10 e35 hbe
              clear hbI2 h35 h256
              go_wp2_with fail
              refine htk.mono ?_
              rintro e w4 ⟨rfl, n4⟩
              have ka : New w4 ((w4.alloc (.cells #[.int .u8 so, .string Tx, I nu, I (k : Int)] 50)).alloc (.cells #[.int .u8 so, .string Tx, I nu, I (k : Int)] 50)) := ((New.refl _).alloc _).alloc _
              have HO4 := Lib.hid ((n4.trans ka).owns HO.out)
              have HN4 := Lib.hid (hN.trans (n4.trans ka))
              have HZ4 := Lib.hid (Keeps.heap (n4.trans ka) HZ.out (fun h => h))
              have hb4 : w.heap.size ≤ ((w4.alloc (.cells #[.int .u8 so, .string Tx, I nu, I (k : Int)] 50)).alloc (.cells #[.int .u8 so, .string Tx, I nu, I (k : Int)] 50)).heap.size := Nat.le_trans hsz (n4.trans ka).size
              clear hN n4 ka htk
              go_wp2_with (at_builtin; refine wpList_app rfl _ _ 44 rfl w.heap.size 50 i0 _ 4 40 Tryd.underlying44 hi0 hz0 hz1 hz2 rfl (by decide) a nn c (ts.flatMap tokCells) rfl ?own _ 1 1 [.int .u8 so, .string Tx, I nu, I (k : Int)] rfl rfl ?lit ?one ?c1 ?c2 ?c3 ?_)
              case own => exact HO4.out
              case lit =>
                have h := SlAt.lit (w4.alloc (.cells #[.int .u8 so, .string Tx, I nu, I (k : Int)] 50)) #[.int .u8 so, .string Tx, I nu, I (k : Int)] 50
                have e : (w4.alloc (.cells #[.int .u8 so, .string Tx, I nu, I (k : Int)] 50)).heap.size = w4.heap.size + 1 := by simp
                rw [e] at h
                exact h
              case one => intro u hu; simp only [List.mem_cons, List.not_mem_nil, or_false] at hu; rcases hu with rfl | rfl | rfl | rfl <;> rfl
              case c1 => unfold maxLen; omega
              case c2 => omega
              case c3 => exact hb4
              intro a2 c2 w5 hown5 hk5 _ _
              have HN5 := Lib.hid (New.keeps HN4.out hk5 (fun i hi hx => by have := (own_of_blk HO4.out hx).1; omega))
              have HO5 : Hid (w5.ownsRow w.heap.size 50 4 (.slice a2 (nn + 1) c2) (nn + 1) ((ts ++ [(⟨so, tx, nu, k⟩ : LTok)]).flatMap tokCells)) := Lib.hid (by rw [HFL.out.1]; exact hown5)
              have HZ5 : Hid (w5.heap[w.heap.size]? = some (.cells #[I 0, I 0] 27 (0, 0))) := Lib.hid (hk5.heap HZ4.out (fun hx => by
                obtain ⟨cur, hc⟩ := lx_tag HO4.out (lx_own hx)
                rw [HZ4.out] at hc; simp at hc))
              clear hown5 hk5
              go_wp2_with fail
              go_roundw
              case rel => exact ⟨z, _, a2, c2, nn + 1, hzk.2, by first | rfl | go_num, by rfl, by omega, Lib.hid HFL.out.2, HL2, HN5.out, HZ5, HO5⟩
              case measure => simp [intOf]; omega
      · have hkI : ¬ (k : Int) < (s.size : Int) := by omega
        have hke : k = s.size := by omega
        have hLE : lexL 0 s.data.toList = (ts, none) := by rw [HL.out, hke, drop_end, lexL_nil, List.append_nil]
        have HLA := Lib.hid (lexA_good HBG.out hLE)
        have hsz := hN.size
        have ka : New wr (wr.alloc (.cells #[.int .u8 0, .string ⟨#[]⟩, I 0, I (s.size : Int)] 50)) := (New.refl _).alloc _
        have hone : ∀ u ∈ [Value.int .u8 0, .string ⟨#[]⟩, I 0, I (s.size : Int)], u.oneCell' = true := by intro u hu; simp only [List.mem_cons, List.not_mem_nil, or_false] at hu; rcases hu with rfl | rfl | rfl | rfl <;> rfl
        clear hLE hke
        go_wp2_with (at_builtin; refine wpList_app rfl _ _ 44 rfl w.heap.size 50 i0 _ 4 40 Tryd.underlying44 hi0 hz0 hz1 hz2 rfl (by decide) a nn c (ts.flatMap tokCells) rfl (ka.owns HO.out) _ 1 1 [.int .u8 0, .string ⟨#[]⟩, I 0, I (s.size : Int)] rfl rfl (SlAt.lit _ _ _) hone (by unfold maxLen; omega) (by omega) (Nat.le_trans hsz ka.size) ?_)
        intro a2 c2 w5 hown5 hk5 _ _
        have hz5 : w5.heap[w.heap.size]? = some (.cells #[I 0, I 0] 27 (0, 0)) := hk5.heap (Keeps.heap ka HZ.out (fun h => h)) (fun hx => by
          obtain ⟨cur, hc⟩ := lx_tag (ka.owns HO.out) (lx_own hx)
          rw [Keeps.heap ka HZ.out (fun h => h)] at hc; simp at hc)
        have hN5 : New w w5 := New.keeps (hN.trans ka) hk5 (fun i hi hx => by have := (own_of_blk HO.out hx).1; omega)
        obtain ⟨u0, u1, v0, v1, hu⟩ := flt_cells hz5
        obtain ⟨hst, kst⟩ := flt_stored hz5 (I 0) (I 0)
        obtain ⟨x0, x1, y0, y1, hBB⟩ := flt_cells hst
        have HF : Hid (PO (.returned (.tuple #[.slice a2 (nn + 1) c2, .agg #[I 0, I 0]])) ((w5.setCell ⟨w.heap.size, 0, none⟩ (I 0)).setCell ⟨w.heap.size, 1, none⟩ (I 0))) := Lib.hid (by
          rw [HPO.out]
          unfold AllAns
          rw [HLA.out]
          have hll : (ts ++ [(⟨0, [], 0, s.size⟩ : LTok)]).length = nn + 1 := by rw [List.length_append, HTS.out]; rfl
          simp only [hll]
          refine ⟨a2, c2, rfl, New.keeps hN5 kst (fun i hi hx => by omega), ?_⟩
          have ho5 := lx_oth hown5 kst (fun g hg => ⟨_, _, _, hg ▸ hz5, by decide⟩)
          rw [List.flatMap_append]
          exact ho5)
        clear hst kst hz5 hown5 hk5 hN5 ka hN
        go_wp2_with fail
        refine bodyPost_ret (v := .tuple #[.slice a2 (nn + 1) c2, .agg #[I 0, I 0]]) (by simp [results, Tryd.results31, go_sem, x0, x1, y0, y1, hBB]) rfl ?_
        exact HF.out
end Go.Proofs.YtohalcbhckahmaaDoor
