/-
  Layer 4, the document's side: a number is read.
-/
import Derived.Test.YtmmoocbnmjmfeaaDoorWhE
namespace Go.Proofs.YtmmoocbnmjmfeaaDoor
open Go Go.RowKit Go.Joins
set_option linter.all false

theorem valA_take (l : List UInt8) (i : Nat) (h : i < l.length) : valA 0 (l.take (i + 1)) = valA 0 (l.take i) * 10 + (l[i].toNat - 48) := by
  rw [List.take_succ, List.getElem?_eq_getElem h]
  exact valA_snoc 0 _ _
theorem valA_bound (l : List UInt8) (h : l.all isDig = true) (hl : l.length ≤ 19) : valA 0 l < 10000000000000000000 := by
  have h1 := valA_lt l 0 h
  have h2 : (10 : Nat) ^ l.length ≤ 10 ^ 19 := Nat.pow_le_pow_right (by omega) hl
  have h3 : (10 : Nat) ^ 19 = 10000000000000000000 := by decide
  omega
theorem all_take {l : List UInt8} (h : l.all isDig = true) (i : Nat) : (l.take i).all isDig = true := by
  rw [List.all_eq_true] at h ⊢
  exact fun x hx => h x (List.mem_of_mem_take hx)
/-- Digits stay when a number's own cells are stored. -/
theorem sl_wh {w w' : World} {a x : Option Addr} {v B y z : Nat} {b : Bool} {T : TypeId} {fr : Nat × Nat} (h : SlAt w a (Is (dgs v))) (hB : w.heap[B]? = some (.cells #[.bool b, .slice x y z] T fr)) (k : Keeps (fun k => k = B) w w') : SlAt w' a (Is (dgs v)) := by
  by_cases h0 : nd v = 0
  · have e : dgs v = [] := by unfold dgs; rw [h0]; rfl
    rw [e]; exact SlAt.nil _ _
  · refine h.keeps k (fun ad had hb => ?_)
    subst had
    unfold dgs at h
    obtain ⟨bb, oo, ee, qq⟩ := is_at h (j := 0) (by omega)
    cases ee
    simp only at hb
    subst hb
    rw [cell_of_block hB] at qq
    match oo, qq with
    | 0, qq => simp at qq
    | 1, qq => simp at qq
    | oo + 2, qq => simp at qq
/-- What number answers. -/
def NumAns (w : World) (D : List UInt8) (e : Ending) (w' : World) : Prop :=
  (match numB D with
    | some n => e = .returned (.tuple #[I n, .bool true])
    | none => e = .returned (.tuple #[I 0, .bool false])) ∧ New w w'
theorem one_w (w : World) : (w.alloc (.cells #[.bool false, .slice none 0 0] 64)).heap[w.heap.size]? = some (.cells #[.bool false, .slice none 0 0] 64 (0, 0)) := wh_new w _ _
set_option maxRecDepth 100000 in
set_option maxHeartbeats 4000000 in
theorem rnum_lead_m (w : World) (s : ByteArray) (dl : List UInt8) (hs : s.data.toList = 45 :: dl) (hne : dl ≠ []) (hd : dl.all isDig = true) (hsz : s.size ≤ 1048577) (h2 : 2 ≤ dl.length) (h0 : dl.head? = some 48) :
    Calls Tryd.prog 39 #[.string s] w fun e w' => e = .returned (.tuple #[I 0, .bool false]) ∧ New w w' := by
  have hlen := toList_len s
  have hpos : 0 < s.size := by rw [← hlen, hs]; simp
  have hb0 : s[0] = 45 := by
    have := byteAt_in s 0 hpos
    rw [← this]; unfold byteAt; rw [hs]; rfl
  have hsI : (0 : Int) < (s.size : Int) := by omega
  have hsI1 : (1 : Int) ≤ (s.size : Int) := by omega
  have hdE : decide (s = ByteArray.empty) = false := decide_eq_false (by rintro rfl; simp at hpos)
  have e45 : ((s[0].toNat : Int) == 45) = true := by rw [hb0]; rfl
  obtain ⟨d, hdd⟩ : ∃ d, s.extract 1 s.size = d := ⟨_, rfl⟩
  have hdl : d.data.toList = dl := by
    rw [← hdd, extract_list, hs]
    show dl.take _ = dl
    exact List.take_of_length_le (by rw [← hlen, hs]; simp)
  have HDD := Lib.hid hdd
  have hds : d.size = dl.length := by rw [← toList_len, hdl]
  have hdp : 0 < d.size := by rw [hds]; exact List.length_pos_iff.2 hne
  have hd0 : d[0] = dl.head hne := by
    have := byteAt_in d 0 hdp
    rw [← this]; unfold byteAt; rw [hdl]
    cases dl with
    | nil => exact absurd rfl hne
    | cons c r => rfl
  have hdEE : decide (d = ByteArray.empty) = false := decide_eq_false (by rintro rfl; simp at hdp)
  have hdI : (0 : Int) < (d.size : Int) := by omega
  have c1 : (1 : Int) < (d.size : Int) := by omega
  have c2 : ((d[0].toNat : Int) == 48) = true := by
    rw [hd0]
    cases dl with
    | nil => exact absurd rfl hne
    | cons c r => simp only [List.head?_cons, Option.some.injEq] at h0; simp only [List.head_cons]; rw [h0]; rfl
  clear hdl hds hd0 hb0 hs hlen hd hne

  go_enter Tryd.func39, Tryd.ntmps39
  go_wp2_with fail
  go_ret2
  exact ⟨rfl, New.refl _⟩
set_option maxRecDepth 100000 in
set_option maxHeartbeats 4000000 in
theorem rnum_lead_p (w : World) (s : ByteArray) (dl : List UInt8) (hs : s.data.toList = dl) (hne : dl ≠ []) (hd : dl.all isDig = true) (hsz : s.size ≤ 1048577) (h2 : 2 ≤ dl.length) (h0 : dl.head? = some 48) :
    Calls Tryd.prog 39 #[.string s] w fun e w' => e = .returned (.tuple #[I 0, .bool false]) ∧ New w w' := by
  have hlen := toList_len s
  have hpos : 0 < s.size := by rw [← hlen, hs]; exact List.length_pos_iff.2 hne
  have hb0 : s[0] = dl.head hne := by
    have := byteAt_in s 0 hpos
    rw [← this]; unfold byteAt; rw [hs]; cases dl with | nil => exact absurd rfl hne | cons c r => rfl
  have hsI : (0 : Int) < (s.size : Int) := by omega
  have hsI1 : (1 : Int) ≤ (s.size : Int) := by omega
  have hdE : decide (s = ByteArray.empty) = false := decide_eq_false (by rintro rfl; simp at hpos)
  have hdg : isDig (dl.head hne) = true := (List.all_eq_true.1 hd) _ (List.head_mem hne)
  have hdr := (isDig_iff _).1 hdg
  have e45 : ((s[0].toNat : Int) == 45) = false := by
    rw [hb0]
    simpa using fun h : ((dl.head hne).toNat : Int) = 45 => by omega
  obtain ⟨d, hdd⟩ : ∃ d, s = d := ⟨_, rfl⟩
  have hdl : d.data.toList = dl := by rw [← hdd]; exact hs
  have hds : d.size = dl.length := by rw [← toList_len, hdl]
  have hdp : 0 < d.size := by rw [hds]; exact List.length_pos_iff.2 hne
  have hd0 : d[0] = dl.head hne := by
    have := byteAt_in d 0 hdp
    rw [← this]; unfold byteAt; rw [hdl]
    cases dl with
    | nil => exact absurd rfl hne
    | cons c r => rfl
  have hdEE : decide (d = ByteArray.empty) = false := decide_eq_false (by rintro rfl; simp at hdp)
  have hdI : (0 : Int) < (d.size : Int) := by omega
  have c1 : (1 : Int) < (d.size : Int) := by omega
  have c2 : ((d[0].toNat : Int) == 48) = true := by
    rw [hd0]
    cases dl with
    | nil => exact absurd rfl hne
    | cons c r => simp only [List.head?_cons, Option.some.injEq] at h0; simp only [List.head_cons]; rw [h0]; rfl
  clear hdl hds hd0 hb0 hs hlen hd hne hdr hdg
  subst hdd
  go_enter Tryd.func39, Tryd.ntmps39
  go_wp2_with fail
  go_ret2
  exact ⟨rfl, New.refl _⟩
set_option maxRecDepth 100000 in
set_option maxHeartbeats 4000000 in
theorem rnum_zero_m (w : World) (s : ByteArray) (dl : List UInt8) (hs : s.data.toList = 45 :: dl) (hne : dl ≠ []) (hd : dl.all isDig = true) (hsz : s.size ≤ 1048577) (hz : dl = [48]) :
    Calls Tryd.prog 39 #[.string s] w fun e w' => e = .returned (.tuple #[I 0, .bool false]) ∧ New w w' := by
  have hlen := toList_len s
  have hpos : 0 < s.size := by rw [← hlen, hs]; simp
  have hb0 : s[0] = 45 := by
    have := byteAt_in s 0 hpos
    rw [← this]; unfold byteAt; rw [hs]; rfl
  have hsI : (0 : Int) < (s.size : Int) := by omega
  have hsI1 : (1 : Int) ≤ (s.size : Int) := by omega
  have hdE : decide (s = ByteArray.empty) = false := decide_eq_false (by rintro rfl; simp at hpos)
  have e45 : ((s[0].toNat : Int) == 45) = true := by rw [hb0]; rfl
  obtain ⟨d, hdd⟩ : ∃ d, s.extract 1 s.size = d := ⟨_, rfl⟩
  have hdl : d.data.toList = dl := by
    rw [← hdd, extract_list, hs]
    show dl.take _ = dl
    exact List.take_of_length_le (by rw [← hlen, hs]; simp)
  have HDD := Lib.hid hdd
  have hds : d.size = dl.length := by rw [← toList_len, hdl]
  have hdp : 0 < d.size := by rw [hds]; exact List.length_pos_iff.2 hne
  have hd0 : d[0] = dl.head hne := by
    have := byteAt_in d 0 hdp
    rw [← this]; unfold byteAt; rw [hdl]
    cases dl with
    | nil => exact absurd rfl hne
    | cons c r => rfl
  have hdEE : decide (d = ByteArray.empty) = false := decide_eq_false (by rintro rfl; simp at hdp)
  have hdI : (0 : Int) < (d.size : Int) := by omega
  have c1 : ¬ (1 : Int) < (d.size : Int) := by rw [hds, hz]; decide
  have c3 : (d.toList == [48]) = true := by rw [beq_iff_eq, ByteArray.toList_eq, hdl, hz]
  clear hdl hds hd0 hb0 hs hlen hd hne

  go_enter Tryd.func39, Tryd.ntmps39
  go_wp2_with fail
  go_ret2
  exact ⟨rfl, New.refl _⟩
set_option maxRecDepth 100000 in
set_option maxHeartbeats 4000000 in
theorem rnum_long_m (w : World) (s : ByteArray) (dl : List UInt8) (hs : s.data.toList = 45 :: dl) (hne : dl ≠ []) (hd : dl.all isDig = true) (hsz : s.size ≤ 1048577) (hl : 19 < dl.length) (h0 : dl.head? ≠ some 48) :
    Calls Tryd.prog 39 #[.string s] w fun e w' => e = .returned (.tuple #[I 0, .bool false]) ∧ New w w' := by
  have hlen := toList_len s
  have hpos : 0 < s.size := by rw [← hlen, hs]; simp
  have hb0 : s[0] = 45 := by
    have := byteAt_in s 0 hpos
    rw [← this]; unfold byteAt; rw [hs]; rfl
  have hsI : (0 : Int) < (s.size : Int) := by omega
  have hsI1 : (1 : Int) ≤ (s.size : Int) := by omega
  have hdE : decide (s = ByteArray.empty) = false := decide_eq_false (by rintro rfl; simp at hpos)
  have e45 : ((s[0].toNat : Int) == 45) = true := by rw [hb0]; rfl
  obtain ⟨d, hdd⟩ : ∃ d, s.extract 1 s.size = d := ⟨_, rfl⟩
  have hdl : d.data.toList = dl := by
    rw [← hdd, extract_list, hs]
    show dl.take _ = dl
    exact List.take_of_length_le (by rw [← hlen, hs]; simp)
  have HDD := Lib.hid hdd
  have hds : d.size = dl.length := by rw [← toList_len, hdl]
  have hdp : 0 < d.size := by rw [hds]; exact List.length_pos_iff.2 hne
  have hd0 : d[0] = dl.head hne := by
    have := byteAt_in d 0 hdp
    rw [← this]; unfold byteAt; rw [hdl]
    cases dl with
    | nil => exact absurd rfl hne
    | cons c r => rfl
  have hdEE : decide (d = ByteArray.empty) = false := decide_eq_false (by rintro rfl; simp at hdp)
  have hdI : (0 : Int) < (d.size : Int) := by omega
  have c1 : (1 : Int) < (d.size : Int) := by omega
  have c4 : (19 : Int) < (d.size : Int) := by omega
  have c2 : ((d[0].toNat : Int) == 48) = false := by
    rw [hd0]
    cases dl with
    | nil => exact absurd rfl hne
    | cons c r =>
      simp only [List.head?_cons, ne_eq, Option.some.injEq] at h0
      simp only [List.head_cons]
      simpa using fun h : (c.toNat : Int) = 48 => h0 (UInt8.toNat_inj.1 (by show c.toNat = 48; omega))
  have c3 : (d.toList == [48]) = false := by
    rw [beq_eq_false_iff_ne, ByteArray.toList_eq, hdl]
    intro h; rw [h] at hl; simp at hl
  clear hdl hds hd0 hb0 hs hlen hd hne

  go_enter Tryd.func39, Tryd.ntmps39
  go_wp2_with fail
  go_ret2
  exact ⟨rfl, New.refl _⟩
set_option maxRecDepth 100000 in
set_option maxHeartbeats 4000000 in
theorem rnum_long_p (w : World) (s : ByteArray) (dl : List UInt8) (hs : s.data.toList = dl) (hne : dl ≠ []) (hd : dl.all isDig = true) (hsz : s.size ≤ 1048577) (hl : 19 < dl.length) (h0 : dl.head? ≠ some 48) :
    Calls Tryd.prog 39 #[.string s] w fun e w' => e = .returned (.tuple #[I 0, .bool false]) ∧ New w w' := by
  have hlen := toList_len s
  have hpos : 0 < s.size := by rw [← hlen, hs]; exact List.length_pos_iff.2 hne
  have hb0 : s[0] = dl.head hne := by
    have := byteAt_in s 0 hpos
    rw [← this]; unfold byteAt; rw [hs]; cases dl with | nil => exact absurd rfl hne | cons c r => rfl
  have hsI : (0 : Int) < (s.size : Int) := by omega
  have hsI1 : (1 : Int) ≤ (s.size : Int) := by omega
  have hdE : decide (s = ByteArray.empty) = false := decide_eq_false (by rintro rfl; simp at hpos)
  have hdg : isDig (dl.head hne) = true := (List.all_eq_true.1 hd) _ (List.head_mem hne)
  have hdr := (isDig_iff _).1 hdg
  have e45 : ((s[0].toNat : Int) == 45) = false := by
    rw [hb0]
    simpa using fun h : ((dl.head hne).toNat : Int) = 45 => by omega
  obtain ⟨d, hdd⟩ : ∃ d, s = d := ⟨_, rfl⟩
  have hdl : d.data.toList = dl := by rw [← hdd]; exact hs
  have hds : d.size = dl.length := by rw [← toList_len, hdl]
  have hdp : 0 < d.size := by rw [hds]; exact List.length_pos_iff.2 hne
  have hd0 : d[0] = dl.head hne := by
    have := byteAt_in d 0 hdp
    rw [← this]; unfold byteAt; rw [hdl]
    cases dl with
    | nil => exact absurd rfl hne
    | cons c r => rfl
  have hdEE : decide (d = ByteArray.empty) = false := decide_eq_false (by rintro rfl; simp at hdp)
  have hdI : (0 : Int) < (d.size : Int) := by omega
  have c1 : (1 : Int) < (d.size : Int) := by omega
  have c4 : (19 : Int) < (d.size : Int) := by omega
  have c2 : ((d[0].toNat : Int) == 48) = false := by
    rw [hd0]
    cases dl with
    | nil => exact absurd rfl hne
    | cons c r =>
      simp only [List.head?_cons, ne_eq, Option.some.injEq] at h0
      simp only [List.head_cons]
      simpa using fun h : (c.toNat : Int) = 48 => h0 (UInt8.toNat_inj.1 (by show c.toNat = 48; omega))
  have c3 : (d.toList == [48]) = false := by
    rw [beq_eq_false_iff_ne, ByteArray.toList_eq, hdl]
    intro h; rw [h] at hl; simp at hl
  clear hdl hds hd0 hb0 hs hlen hd hne hdr hdg
  subst hdd
  go_enter Tryd.func39, Tryd.ntmps39
  go_wp2_with fail
  go_ret2
  exact ⟨rfl, New.refl _⟩
set_option maxRecDepth 100000 in
set_option maxHeartbeats 8000000 in
theorem rnum_good_m (w : World) (s : ByteArray) (dl : List UInt8) (hs : s.data.toList = 45 :: dl) (hne : dl ≠ []) (hd : dl.all isDig = true) (hl19 : dl.length ≤ 19) (hform : dl.length = 1 ∨ dl.head? ≠ some 48) (hz : dl ≠ [48]) :
    Calls Tryd.prog 39 #[.string s] w fun e w' => (match intW true (valA 0 dl) with
      | some n => e = .returned (.tuple #[I n, .bool true])
      | none => e = .returned (.tuple #[I 0, .bool false])) ∧ New w w' := by
  have hlen := toList_len s
  have hpos : 0 < s.size := by rw [← hlen, hs]; simp
  have hss : s.size ≤ 20 := by rw [← hlen, hs]; simp; omega
  have hb0 : s[0] = 45 := by
    have := byteAt_in s 0 hpos
    rw [← this]; unfold byteAt; rw [hs]; rfl
  have hsI : (0 : Int) < (s.size : Int) := by omega
  have hsI1 : (1 : Int) ≤ (s.size : Int) := by omega
  have hdE : decide (s = ByteArray.empty) = false := decide_eq_false (by rintro rfl; simp at hpos)
  have hvb := valA_bound dl hd hl19
  have e45 : ((s[0].toNat : Int) == 45) = true := by rw [hb0]; rfl
  obtain ⟨d, hdd⟩ : ∃ d, s.extract 1 s.size = d := ⟨_, rfl⟩
  have hdl : d.data.toList = dl := by
    rw [← hdd, extract_list, hs]
    show dl.take _ = dl
    exact List.take_of_length_le (by rw [← hlen, hs]; simp)
  have hv1 : 0 < nd (valA 0 dl) := by
    have h0 : valA 0 dl ≠ 0 := by
      cases dl with
      | nil => exact absurd rfl hne
      | cons c r =>
        simp only [List.all_cons, Bool.and_eq_true] at hd
        have hc := (isDig_iff c).1 hd.1
        have h48 : c.toNat ≠ 48 := by
          intro h
          rcases hform with h1 | h1
          · cases r with
            | nil => exact hz (by rw [UInt8.toNat_inj.1 (show c.toNat = (48 : UInt8).toNat from h)])
            | cons => simp at h1
          · exact h1 (by simp only [List.head?_cons, Option.some.injEq]; exact UInt8.toNat_inj.1 h)
        have := valA_le r (0 * 10 + (c.toNat - 48))
        rw [valA_cons]; omega
    unfold nd
    rw [if_neg h0]
    split
    · omega
    · split <;> omega
  have hds : d.size = dl.length := by rw [← toList_len, hdl]
  have hdp : 0 < d.size := by rw [hds]; exact List.length_pos_iff.2 hne
  have hd0 : d[0] = dl.head hne := by
    have := byteAt_in d 0 hdp
    rw [← this]; unfold byteAt; rw [hdl]
    cases dl with
    | nil => exact absurd rfl hne
    | cons c r => rfl
  have hdEE : decide (d = ByteArray.empty) = false := decide_eq_false (by rintro rfl; simp at hdp)
  have hdI : (0 : Int) < (d.size : Int) := by omega
  have hdI19 : ¬ (19 : Int) < (d.size : Int) := by omega
  have hd19 : d.size ≤ 19 := by omega
  have HDG : Hid (∀ (i : Nat) (h : i < d.size), 48 ≤ d[i].toNat ∧ d[i].toNat ≤ 57 ∧ valA 0 (dl.take (i + 1)) = valA 0 (dl.take i) * 10 + (d[i].toNat - 48) ∧ valA 0 (dl.take i) * 10 + 9 < whTop) := Lib.hid (fun i h => by
    have hi : i < dl.length := by omega
    have e : d[i] = dl[i] := by
      have h1 : d.data.toList[i]? = some d[i] := by rw [Array.getElem?_toList]; exact Array.getElem?_eq_getElem h
      rw [hdl, List.getElem?_eq_getElem hi] at h1
      simpa using h1.symm
    have hdi := (isDig_iff dl[i]).1 ((List.all_eq_true.1 hd) _ (List.getElem_mem hi))
    rw [e]
    refine ⟨hdi.1, hdi.2, valA_take dl i hi, ?_⟩
    have := valA_bound (dl.take i) (all_take hd i) (by rw [List.length_take]; omega)
    unfold whTop; omega)
  have HDN : Hid (dl.take d.size = dl) := Lib.hid (List.take_of_length_le (by omega))
  have c1 : decide ((1 : Int) < (d.size : Int)) = false ∨ ((decide ((1 : Int) < (d.size : Int)) = true) ∧ ((d[0].toNat : Int) == 48) = false) := by
    by_cases h1 : dl.length = 1
    · exact Or.inl (decide_eq_false (by omega))
    · refine Or.inr ⟨decide_eq_true (by have := List.length_pos_iff.2 hne; omega), ?_⟩
      have h2 := hform.resolve_left h1
      rw [hd0]
      cases dl with
      | nil => exact absurd rfl hne
      | cons c r =>
        simp only [List.head?_cons, ne_eq, Option.some.injEq] at h2
        simp only [List.head_cons]
        simpa using fun h : (c.toNat : Int) = 48 => h2 (UInt8.toNat_inj.1 (by show c.toNat = 48; omega))
  have c3 : (d.toList == [48]) = false := by rw [beq_eq_false_iff_ne, ByteArray.toList_eq, hdl]; exact hz
  have hvt : valA 0 dl < whTop := by unfold whTop; omega
  have HVT := Lib.hid hvt
  have HV1 := Lib.hid hv1
  obtain ⟨PO, hPO⟩ : ∃ PO, PO = (fun (e : Ending) (w' : World) => (match intW true (valA 0 dl) with
        | some n => e = .returned (.tuple #[I n, .bool true])
        | none => e = .returned (.tuple #[I 0, .bool false])) ∧ New w w') := ⟨_, rfl⟩
  rw [← hPO]
  have HPO := Lib.hid hPO
  have hof10 : ∀ W, Calls Tryd.prog 44 #[I 10] W (WhRes W false 10) := fun W => of_any W 10 (by omega) (by omega)
  have hnd10 : nd 10 = 1 := by decide
  clear hdl hds hd0 hb0 hs hlen hd hne hform hl19 hvb hvt hPO hz hv1

  rcases c1 with c1 | ⟨c1, c2⟩
  all_goals
    (go_enter Tryd.func39, Tryd.ntmps39
     go_wp2_with fail
     go_loopw [7] (fun x wr => ∃ (i : Nat) (a : Option Addr) (c n : Nat), i ≤ d.size ∧ x = .int .i64 i ∧ Hid (nd (valA 0 (dl.take i)) = n) ∧ Hid (SlAt wr a (Is (dgs (valA 0 (dl.take i)))) ∧ Rm n c) ∧ New w wr ∧ Hid (wr.heap[w.heap.size]? = some (.cells #[.bool false, .slice a n c] 64 (0, 0)))) (fun x _ => d.size - (intOf x).toNat)
     case atStart => exact ⟨0, none, 0, 0, by omega, rfl, Lib.hid rfl, Lib.hid ⟨SlAt.nil _ _, by show 0 ≤ 0; omega, by show (0 : Int) ≤ _; omega⟩, (New.refl w).alloc _, Lib.hid (one_w w)⟩
     case round =>
       obtain ⟨i, a, c, n, hi, rfl, HND, HSL, hN, HB⟩ := hrel
       obtain ⟨p0, p1, z0, z1, pB⟩ := wh_cells HB.out
       by_cases hi1 : i < d.size
       · obtain ⟨g1, g2, g3, g4⟩ := HDG.out i hi1
         have hiI : (i : Int) < (d.size : Int) := by omega
         obtain ⟨v, hv⟩ : ∃ v, valA 0 (dl.take i) = v := ⟨_, rfl⟩
         rw [hv] at g3 g4 HND HSL
         obtain ⟨b, hb⟩ : ∃ b : Nat, d[i].toNat - 48 = b := ⟨_, rfl⟩
         have hb9 : b ≤ 9 := by omega
         have q1 : IntKind.u8.wrap ((d[i].toNat : Int) - 48) = (b : Int) := by rw [IntWalk.u8_in _ (by omega)]; omega
         have q2 : IntKind.i64.wrap (b : Int) = (b : Int) := IntWalk.i64_in _ (by omega)
         have hofd : ∀ W, Calls Tryd.prog 44 #[I (b : Int)] W (WhRes W false b) := fun W => by
           have := of_any W (b : Int) (by omega) (by omega)
           rwa [decide_eq_false (by omega : ¬ (b : Int) < 0), Int.natAbs_natCast] at this
         rw [hb] at g3
         have HG3 := Lib.hid g3
         clear g1 g2 g3 hv hb
         go_wp2_with fail
         have hS0 : (fun w' : World => w'.cell? ⟨w.heap.size, 0, none⟩ = some (.bool false) ∧ w'.cell? ⟨w.heap.size, 1, none⟩ = some (.slice a n c)) wr.drew := ⟨New.cell ((New.refl wr).drew) p0, New.cell ((New.refl wr).drew) p1⟩
         refine wp_region_X (fun w' : World => w'.cell? ⟨w.heap.size, 0, none⟩ = some (.bool false) ∧ w'.cell? ⟨w.heap.size, 1, none⟩ = some (.slice a n c)) [10] (by kernel_rfl) hS0 ?_
         refine anyX_take 0 (by kernel_rfl) (by kernel_rfl) (by kernel_rfl) (by kernel_rfl) (by kernel_rfl) hS0 ?_
         intro oi ho; simp only [List.getElem?_toArray, List.getElem?_cons_succ, List.getElem?_cons_zero, Option.some.injEq] at ho; subst ho
         refine ⟨?_, fun _ _ _ h => h, Or.inl ⟨by rfl, ?_⟩, ?_⟩; rotate_left 1
         · (intro wS hSw; (try dsimp only at hSw); go_simp; try with_reducible rfl)
         simp only [Act.put, List.setIfInBounds_toArray, List.set_cons_zero, List.set_cons_succ]
         refine anyX_take 3 (by kernel_rfl) (by kernel_rfl) (by kernel_rfl) (by kernel_rfl) (by kernel_rfl) hS0 ?_
         intro oi ho; simp only [List.getElem?_toArray, List.getElem?_cons_succ, List.getElem?_cons_zero, Option.some.injEq] at ho; subst ho
         refine ⟨?_, fun _ _ _ h => h, Or.inl ⟨by rfl, ?_⟩, ?_⟩; rotate_left 1
         · (intro wS hSw; (try dsimp only at hSw); go_simp; try with_reducible rfl)
         simp only [Act.put, List.setIfInBounds_toArray, List.set_cons_zero, List.set_cons_succ]
         refine anyX_take 4 (by kernel_rfl) (by kernel_rfl) (by kernel_rfl) (by kernel_rfl) (by kernel_rfl) hS0 ?_
         intro oi ho; simp only [List.getElem?_toArray, List.getElem?_cons_succ, List.getElem?_cons_zero, Option.some.injEq] at ho; subst ho
         refine ⟨?_, fun _ _ _ h => h, Or.inl ⟨by rfl, ?_⟩, ?_⟩; rotate_left 1
         · (intro wS hSw; (try dsimp only at hSw); go_simp; try with_reducible rfl)
         simp only [Act.put, List.setIfInBounds_toArray, List.set_cons_zero, List.set_cons_succ]
         refine anyX_take 5 (by kernel_rfl) (by kernel_rfl) (by kernel_rfl) (by kernel_rfl) (by kernel_rfl) hS0 ?_
         intro oi ho; simp only [List.getElem?_toArray, List.getElem?_cons_succ, List.getElem?_cons_zero, Option.some.injEq] at ho; subst ho
         refine ⟨?_, fun _ _ _ h => h, Or.inl ⟨by rfl, ?_⟩, ?_⟩; rotate_left 1
         · (intro wS hSw; (try dsimp only at hSw); go_simp; try with_reducible rfl)
         simp only [Act.put, List.setIfInBounds_toArray, List.set_cons_zero, List.set_cons_succ]
         refine anyX_take 6 (by kernel_rfl) (by kernel_rfl) (by kernel_rfl) (by kernel_rfl) (by kernel_rfl) hS0 ?_
         intro oi ho; simp only [List.getElem?_toArray, List.getElem?_cons_succ, List.getElem?_cons_zero, Option.some.injEq] at ho; subst ho
         refine ⟨?_, fun _ _ _ h => h, Or.inl ⟨by rfl, ?_⟩, ?_⟩; rotate_left 1
         · (intro wS hSw; (try dsimp only at hSw); go_simp; try with_reducible rfl)
         simp only [Act.put, List.setIfInBounds_toArray, List.set_cons_zero, List.set_cons_succ]
         refine anyX_take 7 (by kernel_rfl) (by kernel_rfl) (by kernel_rfl) (by kernel_rfl) (by kernel_rfl) hS0 ?_
         intro oi ho; simp only [List.getElem?_toArray, List.getElem?_cons_succ, List.getElem?_cons_zero, Option.some.injEq] at ho; subst ho
         refine ⟨?_, fun _ _ _ h => h, Or.inl ⟨by rfl, ?_⟩, ?_⟩; rotate_left 1
         · (intro wS hSw; (try dsimp only at hSw); go_simp; try with_reducible rfl)
         simp only [Act.put, List.setIfInBounds_toArray, List.set_cons_zero, List.set_cons_succ]
         refine anyX_one 1 (by kernel_rfl) ?_
         intro oi ho; simp only [List.getElem?_toArray, List.getElem?_cons_succ, List.getElem?_cons_zero, Option.some.injEq] at ho; subst ho; intro K hK
         (try simp only [Act.put, List.setIfInBounds_toArray, List.set_cons_zero, List.set_cons_succ])
         go_simp
         refine (hof10 _).mono ?_
         rintro e w2 ⟨a2, c2, rfl, n2, s2, -⟩
         rw [hnd10]
         have m2 : New wr w2 := ((New.refl wr).drew).trans n2
         have hS2 : (fun w' : World => w'.cell? ⟨w.heap.size, 0, none⟩ = some (.bool false) ∧ w'.cell? ⟨w.heap.size, 1, none⟩ = some (.slice a n c)) w2 := ⟨New.cell m2 p0, New.cell m2 p1⟩
         refine hK _ _ (fun _ => hS2) ?_
         clear hK K hS0 n2
         refine anyX_one 2 (by kernel_rfl) ?_
         intro oi ho; simp only [List.getElem?_toArray, List.getElem?_cons_succ, List.getElem?_cons_zero, Option.some.injEq] at ho; subst ho; intro K hK
         (try simp only [Act.put, List.setIfInBounds_toArray, List.set_cons_zero, List.set_cons_succ])
         go_simp
         have hten := ten_any w2 a a2 c c2 v (HSL.out.1.new m2) s2 (by unfold whTop at g4 ⊢; omega)
         rw [HND.out] at hten
         refine hten.mono ?_
         rintro e w3 ⟨a3, c3, rfl, n3, s3, -⟩
         have m3 := m2.trans n3
         have hS3 : (fun w' : World => w'.cell? ⟨w.heap.size, 0, none⟩ = some (.bool false) ∧ w'.cell? ⟨w.heap.size, 1, none⟩ = some (.slice a n c)) w3 := ⟨New.cell m3 p0, New.cell m3 p1⟩
         refine hK _ _ (fun _ => hS3) ?_
         clear hK K hS2 n3 s2 m2 hten
         refine anyX_one 8 (by kernel_rfl) ?_
         intro oi ho; simp only [List.getElem?_toArray, List.getElem?_cons_succ, List.getElem?_cons_zero, Option.some.injEq] at ho; subst ho; intro K hK
         (try simp only [Act.put, List.setIfInBounds_toArray, List.set_cons_zero, List.set_cons_succ])
         go_simp
         refine (hofd _).mono ?_
         rintro e w4 ⟨a4, c4, rfl, n4, s4, -⟩
         have m4 := m3.trans n4
         have hS4 : (fun w' : World => w'.cell? ⟨w.heap.size, 0, none⟩ = some (.bool false) ∧ w'.cell? ⟨w.heap.size, 1, none⟩ = some (.slice a n c)) w4 := ⟨New.cell m4 p0, New.cell m4 p1⟩
         refine hK _ _ (fun _ => hS4) ?_
         replace s3 := s3.new n4
         clear hK K hS3 n4 m3
         refine anyX_one 9 (by kernel_rfl) ?_
         intro oi ho; simp only [List.getElem?_toArray, List.getElem?_cons_succ, List.getElem?_cons_zero, Option.some.injEq] at ho; subst ho; intro K hK
         (try simp only [Act.put, List.setIfInBounds_toArray, List.set_cons_zero, List.set_cons_succ])
         go_simp
         have hplus := plus_any w4 a3 a4 c3 c4 (v * 10) b s3 s4 (by unfold whTop at g4 ⊢; omega)
         refine hplus.mono ?_
         rintro e w5 ⟨a5, c5, rfl, n5, s5, r5⟩
         have m5 := m4.trans n5
         have hS5 : (fun w' : World => w'.cell? ⟨w.heap.size, 0, none⟩ = some (.bool false) ∧ w'.cell? ⟨w.heap.size, 1, none⟩ = some (.slice a n c)) w5 := ⟨New.cell m5 p0, New.cell m5 p1⟩
         refine hK _ _ (fun _ => hS5) ?_
         clear hK K hS4 n5 s3 s4 m4 hplus
         have hB5 := Keeps.heap m5 HB.out (fun h => h)
         obtain ⟨r0, r1, f0, f1, hBB⟩ := wh_cells hB5
         obtain ⟨n6, hn6⟩ : ∃ n6, nd (v * 10 + b) = n6 := ⟨_, rfl⟩
         obtain ⟨hst, kst⟩ := wh_stored hB5 (.bool false) (.slice a5 n6 c5)
         have HN6 := Lib.hid hn6
         rw [hn6]
         have HSL2 : Hid (SlAt ((w5.setCell ⟨w.heap.size, 0, none⟩ (.bool false)).setCell ⟨w.heap.size, 1, none⟩ (.slice a5 n6 c5)) a5 (Is (dgs (valA 0 (dl.take (i + 1))))) ∧ Rm n6 c5) := Lib.hid ⟨by rw [HG3.out]; exact sl_wh s5 hB5 kst, by rw [← hn6]; exact r5⟩
         have HND2 : Hid (nd (valA 0 (dl.take (i + 1))) = n6) := Lib.hid (by rw [HG3.out]; exact hn6)
         have HB2 := Lib.hid hst
         have HNN := Lib.hid (New.keeps (hN.trans m5) kst (fun i hi hx => by omega))
         clear hst kst s5 r5 hn6 m5 hB5
         refine anyX_one 10 (by kernel_rfl) ?_
         intro oi ho; simp only [List.getElem?_toArray, List.getElem?_cons_succ, List.getElem?_cons_zero, Option.some.injEq] at ho; subst ho; intro K hK
         (try simp only [Act.put, List.setIfInBounds_toArray, List.set_cons_zero, List.set_cons_succ])
         go_simp
         refine hK _ _ (fun h => by cases h) ?_
         clear hK K hS5 p0 p1 z0 z1 pB
         refine anyX_done (by kernel_rfl) ?_
         (try simp only [Act.put, List.setIfInBounds_toArray, List.set_cons_zero, List.set_cons_succ])
         (try simp only [Exit.then])
         go_wp2_with fail
         go_roundw
         case rel => exact ⟨i + 1, a5, c5, n6, by omega, by go_num, HND2, HSL2, HNN.out, HB2⟩
         case measure => simp [intOf]; omega
       · have hie : i = d.size := by omega
         have hdi : ¬ (i : Int) < (d.size : Int) := by omega
         have HND' : Hid (nd (valA 0 dl) = n) := Lib.hid (by rw [← HDN.out, ← hie]; exact HND.out)
         have HSL' : Hid (SlAt wr a (Is (dgs (valA 0 dl))) ∧ Rm n c) := Lib.hid (by rw [← HDN.out, ← hie]; exact HSL.out)
         obtain ⟨v, hv⟩ : ∃ v, valA 0 dl = v := ⟨_, rfl⟩
         rw [hv] at HND' HSL' HPO HVT HV1
         clear hv hie HND HSL HDG HDN
         have hneg := negw_any wr v a c HSL'.out.1 (by rw [HND'.out]; exact HSL'.out.2) HV1.out
         rw [HND'.out] at hneg
         go_wp2_with fail
         refine hneg.mono ?_
         rintro e w2 ⟨a2, c2, rfl, n2, s2, -⟩
         rw [HND'.out]
         have hB2 := Keeps.heap n2 HB.out (fun h => h)
         obtain ⟨r0, r1, f0, f1, hBB⟩ := wh_cells hB2
         obtain ⟨hst, kst⟩ := wh_stored hB2 (.bool true) (.slice a2 n c2)
         have hsl2 := sl_wh s2 hB2 kst
         have hN2 := New.keeps (hN.trans n2) kst (fun i hi hx => by omega)
         obtain ⟨q0, q1, _, _, hq⟩ := wh_cells hst
         have hin := int_any _ true a2 c2 v hsl2 HVT.out
         rw [HND'.out] at hin
         have HN2 := Lib.hid hN2
         clear hst kst hsl2 hN2 s2 hB2 n2 hN hneg p0 p1 z0 z1 pB
         go_wp2_with fail
         refine hin.mono ?_
         rintro e w3 ⟨he, n3⟩
         obtain ⟨o, ho⟩ : ∃ o, intW true v = o := ⟨_, rfl⟩
         rw [ho] at he HPO
         cases o with
         | some r =>
           simp only at he
           subst he
           have HF : Hid (PO (.returned (.tuple #[I r, .bool true])) w3) := Lib.hid (by rw [HPO.out]; exact ⟨rfl, HN2.out.trans n3⟩)
           clear n3 ho
           go_wp2_with fail
           first | exact HF.out | (refine bodyPost_ret (results_tmp2 (by kernel_rfl) _ _ _) rfl ?_; exact HF.out)
         | none =>
           simp only at he
           subst he
           have HF : Hid (PO (.returned (.tuple #[I 0, .bool false])) w3) := Lib.hid (by rw [HPO.out]; exact ⟨rfl, HN2.out.trans n3⟩)
           clear n3 ho
           go_wp2_with fail
           first | exact HF.out | (refine bodyPost_ret (results_tmp2 (by kernel_rfl) _ _ _) rfl ?_; exact HF.out))
set_option maxRecDepth 100000 in
set_option maxHeartbeats 8000000 in
theorem rnum_good_p (w : World) (s : ByteArray) (dl : List UInt8) (hs : s.data.toList = dl) (hne : dl ≠ []) (hd : dl.all isDig = true) (hl19 : dl.length ≤ 19) (hform : dl.length = 1 ∨ dl.head? ≠ some 48) :
    Calls Tryd.prog 39 #[.string s] w fun e w' => (match intW false (valA 0 dl) with
      | some n => e = .returned (.tuple #[I n, .bool true])
      | none => e = .returned (.tuple #[I 0, .bool false])) ∧ New w w' := by
  have hlen := toList_len s
  have hpos : 0 < s.size := by rw [← hlen, hs]; exact List.length_pos_iff.2 hne
  have hss : s.size ≤ 20 := by rw [← hlen, hs]; omega
  have hb0 : s[0] = dl.head hne := by
    have := byteAt_in s 0 hpos
    rw [← this]; unfold byteAt; rw [hs]; cases dl with | nil => exact absurd rfl hne | cons c r => rfl
  have hsI : (0 : Int) < (s.size : Int) := by omega
  have hsI1 : (1 : Int) ≤ (s.size : Int) := by omega
  have hdE : decide (s = ByteArray.empty) = false := decide_eq_false (by rintro rfl; simp at hpos)
  have hvb := valA_bound dl hd hl19
  have hdg : isDig (dl.head hne) = true := (List.all_eq_true.1 hd) _ (List.head_mem hne)
  have hdr := (isDig_iff _).1 hdg
  have e45 : ((s[0].toNat : Int) == 45) = false := by
    rw [hb0]
    simpa using fun h : ((dl.head hne).toNat : Int) = 45 => by omega
  obtain ⟨d, hdd⟩ : ∃ d, d = s := ⟨_, rfl⟩
  have hdl : d.data.toList = dl := by rw [hdd]; exact hs
  have hds : d.size = dl.length := by rw [← toList_len, hdl]
  have hdp : 0 < d.size := by rw [hds]; exact List.length_pos_iff.2 hne
  have hd0 : d[0] = dl.head hne := by
    have := byteAt_in d 0 hdp
    rw [← this]; unfold byteAt; rw [hdl]
    cases dl with
    | nil => exact absurd rfl hne
    | cons c r => rfl
  have hdEE : decide (d = ByteArray.empty) = false := decide_eq_false (by rintro rfl; simp at hdp)
  have hdI : (0 : Int) < (d.size : Int) := by omega
  have hdI19 : ¬ (19 : Int) < (d.size : Int) := by omega
  have hd19 : d.size ≤ 19 := by omega
  have HDG : Hid (∀ (i : Nat) (h : i < d.size), 48 ≤ d[i].toNat ∧ d[i].toNat ≤ 57 ∧ valA 0 (dl.take (i + 1)) = valA 0 (dl.take i) * 10 + (d[i].toNat - 48) ∧ valA 0 (dl.take i) * 10 + 9 < whTop) := Lib.hid (fun i h => by
    have hi : i < dl.length := by omega
    have e : d[i] = dl[i] := by
      have h1 : d.data.toList[i]? = some d[i] := by rw [Array.getElem?_toList]; exact Array.getElem?_eq_getElem h
      rw [hdl, List.getElem?_eq_getElem hi] at h1
      simpa using h1.symm
    have hdi := (isDig_iff dl[i]).1 ((List.all_eq_true.1 hd) _ (List.getElem_mem hi))
    rw [e]
    refine ⟨hdi.1, hdi.2, valA_take dl i hi, ?_⟩
    have := valA_bound (dl.take i) (all_take hd i) (by rw [List.length_take]; omega)
    unfold whTop; omega)
  have HDN : Hid (dl.take d.size = dl) := Lib.hid (List.take_of_length_le (by omega))
  have c1 : decide ((1 : Int) < (d.size : Int)) = false ∨ ((decide ((1 : Int) < (d.size : Int)) = true) ∧ ((d[0].toNat : Int) == 48) = false) := by
    by_cases h1 : dl.length = 1
    · exact Or.inl (decide_eq_false (by omega))
    · refine Or.inr ⟨decide_eq_true (by have := List.length_pos_iff.2 hne; omega), ?_⟩
      have h2 := hform.resolve_left h1
      rw [hd0]
      cases dl with
      | nil => exact absurd rfl hne
      | cons c r =>
        simp only [List.head?_cons, ne_eq, Option.some.injEq] at h2
        simp only [List.head_cons]
        simpa using fun h : (c.toNat : Int) = 48 => h2 (UInt8.toNat_inj.1 (by show c.toNat = 48; omega))

  have hvt : valA 0 dl < whTop := by unfold whTop; omega
  have HVT := Lib.hid hvt

  obtain ⟨PO, hPO⟩ : ∃ PO, PO = (fun (e : Ending) (w' : World) => (match intW false (valA 0 dl) with
        | some n => e = .returned (.tuple #[I n, .bool true])
        | none => e = .returned (.tuple #[I 0, .bool false])) ∧ New w w') := ⟨_, rfl⟩
  rw [← hPO]
  have HPO := Lib.hid hPO
  have hof10 : ∀ W, Calls Tryd.prog 44 #[I 10] W (WhRes W false 10) := fun W => of_any W 10 (by omega) (by omega)
  have hnd10 : nd 10 = 1 := by decide
  clear hdl hds hd0 hb0 hs hlen hd hne hform hl19 hvb hvt hPO hdr hdg
  subst hdd
  rcases c1 with c1 | ⟨c1, c2⟩
  all_goals
    (go_enter Tryd.func39, Tryd.ntmps39
     go_wp2_with fail
     go_loopw [7] (fun x wr => ∃ (i : Nat) (a : Option Addr) (c n : Nat), i ≤ d.size ∧ x = .int .i64 i ∧ Hid (nd (valA 0 (dl.take i)) = n) ∧ Hid (SlAt wr a (Is (dgs (valA 0 (dl.take i)))) ∧ Rm n c) ∧ New w wr ∧ Hid (wr.heap[w.heap.size]? = some (.cells #[.bool false, .slice a n c] 64 (0, 0)))) (fun x _ => d.size - (intOf x).toNat)
     case atStart => exact ⟨0, none, 0, 0, by omega, rfl, Lib.hid rfl, Lib.hid ⟨SlAt.nil _ _, by show 0 ≤ 0; omega, by show (0 : Int) ≤ _; omega⟩, (New.refl w).alloc _, Lib.hid (one_w w)⟩
     case round =>
       obtain ⟨i, a, c, n, hi, rfl, HND, HSL, hN, HB⟩ := hrel
       obtain ⟨p0, p1, z0, z1, pB⟩ := wh_cells HB.out
       by_cases hi1 : i < d.size
       · obtain ⟨g1, g2, g3, g4⟩ := HDG.out i hi1
         have hiI : (i : Int) < (d.size : Int) := by omega
         obtain ⟨v, hv⟩ : ∃ v, valA 0 (dl.take i) = v := ⟨_, rfl⟩
         rw [hv] at g3 g4 HND HSL
         obtain ⟨b, hb⟩ : ∃ b : Nat, d[i].toNat - 48 = b := ⟨_, rfl⟩
         have hb9 : b ≤ 9 := by omega
         have q1 : IntKind.u8.wrap ((d[i].toNat : Int) - 48) = (b : Int) := by rw [IntWalk.u8_in _ (by omega)]; omega
         have q2 : IntKind.i64.wrap (b : Int) = (b : Int) := IntWalk.i64_in _ (by omega)
         have hofd : ∀ W, Calls Tryd.prog 44 #[I (b : Int)] W (WhRes W false b) := fun W => by
           have := of_any W (b : Int) (by omega) (by omega)
           rwa [decide_eq_false (by omega : ¬ (b : Int) < 0), Int.natAbs_natCast] at this
         rw [hb] at g3
         have HG3 := Lib.hid g3
         clear g1 g2 g3 hv hb
         go_wp2_with fail
         have hS0 : (fun w' : World => w'.cell? ⟨w.heap.size, 0, none⟩ = some (.bool false) ∧ w'.cell? ⟨w.heap.size, 1, none⟩ = some (.slice a n c)) wr.drew := ⟨New.cell ((New.refl wr).drew) p0, New.cell ((New.refl wr).drew) p1⟩
         refine wp_region_X (fun w' : World => w'.cell? ⟨w.heap.size, 0, none⟩ = some (.bool false) ∧ w'.cell? ⟨w.heap.size, 1, none⟩ = some (.slice a n c)) [10] (by kernel_rfl) hS0 ?_
         refine anyX_take 0 (by kernel_rfl) (by kernel_rfl) (by kernel_rfl) (by kernel_rfl) (by kernel_rfl) hS0 ?_
         intro oi ho; simp only [List.getElem?_toArray, List.getElem?_cons_succ, List.getElem?_cons_zero, Option.some.injEq] at ho; subst ho
         refine ⟨?_, fun _ _ _ h => h, Or.inl ⟨by rfl, ?_⟩, ?_⟩; rotate_left 1
         · (intro wS hSw; (try dsimp only at hSw); go_simp; try with_reducible rfl)
         simp only [Act.put, List.setIfInBounds_toArray, List.set_cons_zero, List.set_cons_succ]
         refine anyX_take 3 (by kernel_rfl) (by kernel_rfl) (by kernel_rfl) (by kernel_rfl) (by kernel_rfl) hS0 ?_
         intro oi ho; simp only [List.getElem?_toArray, List.getElem?_cons_succ, List.getElem?_cons_zero, Option.some.injEq] at ho; subst ho
         refine ⟨?_, fun _ _ _ h => h, Or.inl ⟨by rfl, ?_⟩, ?_⟩; rotate_left 1
         · (intro wS hSw; (try dsimp only at hSw); go_simp; try with_reducible rfl)
         simp only [Act.put, List.setIfInBounds_toArray, List.set_cons_zero, List.set_cons_succ]
         refine anyX_take 4 (by kernel_rfl) (by kernel_rfl) (by kernel_rfl) (by kernel_rfl) (by kernel_rfl) hS0 ?_
         intro oi ho; simp only [List.getElem?_toArray, List.getElem?_cons_succ, List.getElem?_cons_zero, Option.some.injEq] at ho; subst ho
         refine ⟨?_, fun _ _ _ h => h, Or.inl ⟨by rfl, ?_⟩, ?_⟩; rotate_left 1
         · (intro wS hSw; (try dsimp only at hSw); go_simp; try with_reducible rfl)
         simp only [Act.put, List.setIfInBounds_toArray, List.set_cons_zero, List.set_cons_succ]
         refine anyX_take 5 (by kernel_rfl) (by kernel_rfl) (by kernel_rfl) (by kernel_rfl) (by kernel_rfl) hS0 ?_
         intro oi ho; simp only [List.getElem?_toArray, List.getElem?_cons_succ, List.getElem?_cons_zero, Option.some.injEq] at ho; subst ho
         refine ⟨?_, fun _ _ _ h => h, Or.inl ⟨by rfl, ?_⟩, ?_⟩; rotate_left 1
         · (intro wS hSw; (try dsimp only at hSw); go_simp; try with_reducible rfl)
         simp only [Act.put, List.setIfInBounds_toArray, List.set_cons_zero, List.set_cons_succ]
         refine anyX_take 6 (by kernel_rfl) (by kernel_rfl) (by kernel_rfl) (by kernel_rfl) (by kernel_rfl) hS0 ?_
         intro oi ho; simp only [List.getElem?_toArray, List.getElem?_cons_succ, List.getElem?_cons_zero, Option.some.injEq] at ho; subst ho
         refine ⟨?_, fun _ _ _ h => h, Or.inl ⟨by rfl, ?_⟩, ?_⟩; rotate_left 1
         · (intro wS hSw; (try dsimp only at hSw); go_simp; try with_reducible rfl)
         simp only [Act.put, List.setIfInBounds_toArray, List.set_cons_zero, List.set_cons_succ]
         refine anyX_take 7 (by kernel_rfl) (by kernel_rfl) (by kernel_rfl) (by kernel_rfl) (by kernel_rfl) hS0 ?_
         intro oi ho; simp only [List.getElem?_toArray, List.getElem?_cons_succ, List.getElem?_cons_zero, Option.some.injEq] at ho; subst ho
         refine ⟨?_, fun _ _ _ h => h, Or.inl ⟨by rfl, ?_⟩, ?_⟩; rotate_left 1
         · (intro wS hSw; (try dsimp only at hSw); go_simp; try with_reducible rfl)
         simp only [Act.put, List.setIfInBounds_toArray, List.set_cons_zero, List.set_cons_succ]
         refine anyX_one 1 (by kernel_rfl) ?_
         intro oi ho; simp only [List.getElem?_toArray, List.getElem?_cons_succ, List.getElem?_cons_zero, Option.some.injEq] at ho; subst ho; intro K hK
         (try simp only [Act.put, List.setIfInBounds_toArray, List.set_cons_zero, List.set_cons_succ])
         go_simp
         refine (hof10 _).mono ?_
         rintro e w2 ⟨a2, c2, rfl, n2, s2, -⟩
         rw [hnd10]
         have m2 : New wr w2 := ((New.refl wr).drew).trans n2
         have hS2 : (fun w' : World => w'.cell? ⟨w.heap.size, 0, none⟩ = some (.bool false) ∧ w'.cell? ⟨w.heap.size, 1, none⟩ = some (.slice a n c)) w2 := ⟨New.cell m2 p0, New.cell m2 p1⟩
         refine hK _ _ (fun _ => hS2) ?_
         clear hK K hS0 n2
         refine anyX_one 2 (by kernel_rfl) ?_
         intro oi ho; simp only [List.getElem?_toArray, List.getElem?_cons_succ, List.getElem?_cons_zero, Option.some.injEq] at ho; subst ho; intro K hK
         (try simp only [Act.put, List.setIfInBounds_toArray, List.set_cons_zero, List.set_cons_succ])
         go_simp
         have hten := ten_any w2 a a2 c c2 v (HSL.out.1.new m2) s2 (by unfold whTop at g4 ⊢; omega)
         rw [HND.out] at hten
         refine hten.mono ?_
         rintro e w3 ⟨a3, c3, rfl, n3, s3, -⟩
         have m3 := m2.trans n3
         have hS3 : (fun w' : World => w'.cell? ⟨w.heap.size, 0, none⟩ = some (.bool false) ∧ w'.cell? ⟨w.heap.size, 1, none⟩ = some (.slice a n c)) w3 := ⟨New.cell m3 p0, New.cell m3 p1⟩
         refine hK _ _ (fun _ => hS3) ?_
         clear hK K hS2 n3 s2 m2 hten
         refine anyX_one 8 (by kernel_rfl) ?_
         intro oi ho; simp only [List.getElem?_toArray, List.getElem?_cons_succ, List.getElem?_cons_zero, Option.some.injEq] at ho; subst ho; intro K hK
         (try simp only [Act.put, List.setIfInBounds_toArray, List.set_cons_zero, List.set_cons_succ])
         go_simp
         refine (hofd _).mono ?_
         rintro e w4 ⟨a4, c4, rfl, n4, s4, -⟩
         have m4 := m3.trans n4
         have hS4 : (fun w' : World => w'.cell? ⟨w.heap.size, 0, none⟩ = some (.bool false) ∧ w'.cell? ⟨w.heap.size, 1, none⟩ = some (.slice a n c)) w4 := ⟨New.cell m4 p0, New.cell m4 p1⟩
         refine hK _ _ (fun _ => hS4) ?_
         replace s3 := s3.new n4
         clear hK K hS3 n4 m3
         refine anyX_one 9 (by kernel_rfl) ?_
         intro oi ho; simp only [List.getElem?_toArray, List.getElem?_cons_succ, List.getElem?_cons_zero, Option.some.injEq] at ho; subst ho; intro K hK
         (try simp only [Act.put, List.setIfInBounds_toArray, List.set_cons_zero, List.set_cons_succ])
         go_simp
         have hplus := plus_any w4 a3 a4 c3 c4 (v * 10) b s3 s4 (by unfold whTop at g4 ⊢; omega)
         refine hplus.mono ?_
         rintro e w5 ⟨a5, c5, rfl, n5, s5, r5⟩
         have m5 := m4.trans n5
         have hS5 : (fun w' : World => w'.cell? ⟨w.heap.size, 0, none⟩ = some (.bool false) ∧ w'.cell? ⟨w.heap.size, 1, none⟩ = some (.slice a n c)) w5 := ⟨New.cell m5 p0, New.cell m5 p1⟩
         refine hK _ _ (fun _ => hS5) ?_
         clear hK K hS4 n5 s3 s4 m4 hplus
         have hB5 := Keeps.heap m5 HB.out (fun h => h)
         obtain ⟨r0, r1, f0, f1, hBB⟩ := wh_cells hB5
         obtain ⟨n6, hn6⟩ : ∃ n6, nd (v * 10 + b) = n6 := ⟨_, rfl⟩
         obtain ⟨hst, kst⟩ := wh_stored hB5 (.bool false) (.slice a5 n6 c5)
         have HN6 := Lib.hid hn6
         rw [hn6]
         have HSL2 : Hid (SlAt ((w5.setCell ⟨w.heap.size, 0, none⟩ (.bool false)).setCell ⟨w.heap.size, 1, none⟩ (.slice a5 n6 c5)) a5 (Is (dgs (valA 0 (dl.take (i + 1))))) ∧ Rm n6 c5) := Lib.hid ⟨by rw [HG3.out]; exact sl_wh s5 hB5 kst, by rw [← hn6]; exact r5⟩
         have HND2 : Hid (nd (valA 0 (dl.take (i + 1))) = n6) := Lib.hid (by rw [HG3.out]; exact hn6)
         have HB2 := Lib.hid hst
         have HNN := Lib.hid (New.keeps (hN.trans m5) kst (fun i hi hx => by omega))
         clear hst kst s5 r5 hn6 m5 hB5
         refine anyX_one 10 (by kernel_rfl) ?_
         intro oi ho; simp only [List.getElem?_toArray, List.getElem?_cons_succ, List.getElem?_cons_zero, Option.some.injEq] at ho; subst ho; intro K hK
         (try simp only [Act.put, List.setIfInBounds_toArray, List.set_cons_zero, List.set_cons_succ])
         go_simp
         refine hK _ _ (fun h => by cases h) ?_
         clear hK K hS5 p0 p1 z0 z1 pB
         refine anyX_done (by kernel_rfl) ?_
         (try simp only [Act.put, List.setIfInBounds_toArray, List.set_cons_zero, List.set_cons_succ])
         (try simp only [Exit.then])
         go_wp2_with fail
         go_roundw
         case rel => exact ⟨i + 1, a5, c5, n6, by omega, by go_num, HND2, HSL2, HNN.out, HB2⟩
         case measure => simp [intOf]; omega
       · have hie : i = d.size := by omega
         have hdi : ¬ (i : Int) < (d.size : Int) := by omega
         have HND' : Hid (nd (valA 0 dl) = n) := Lib.hid (by rw [← HDN.out, ← hie]; exact HND.out)
         have HSL' : Hid (SlAt wr a (Is (dgs (valA 0 dl))) ∧ Rm n c) := Lib.hid (by rw [← HDN.out, ← hie]; exact HSL.out)
         obtain ⟨v, hv⟩ : ∃ v, valA 0 dl = v := ⟨_, rfl⟩
         rw [hv] at HND' HSL' HPO HVT
         clear hv hie HND HSL HDG HDN
         have hin := int_any wr false a c v HSL'.out.1 HVT.out
         rw [HND'.out] at hin
         have HN2 := Lib.hid hN
         clear hN
         go_wp2_with fail
         refine hin.mono ?_
         rintro e w3 ⟨he, n3⟩
         obtain ⟨o, ho⟩ : ∃ o, intW false v = o := ⟨_, rfl⟩
         rw [ho] at he HPO
         cases o with
         | some r =>
           simp only at he
           subst he
           have HF : Hid (PO (.returned (.tuple #[I r, .bool true])) w3) := Lib.hid (by rw [HPO.out]; exact ⟨rfl, HN2.out.trans n3⟩)
           clear n3 ho
           go_wp2_with fail
           first | exact HF.out | (refine bodyPost_ret (results_tmp2 (by kernel_rfl) _ _ _) rfl ?_; exact HF.out)
         | none =>
           simp only at he
           subst he
           have HF : Hid (PO (.returned (.tuple #[I 0, .bool false])) w3) := Lib.hid (by rw [HPO.out]; exact ⟨rfl, HN2.out.trans n3⟩)
           clear n3 ho
           go_wp2_with fail
           first | exact HF.out | (refine bodyPost_ret (results_tmp2 (by kernel_rfl) _ _ _) rfl ?_; exact HF.out))
/-- The document's number, at any numeral. -/
theorem rnum_any (w : World) (s : ByteArray) (c : UInt8) (r : List UInt8) (hs : s.data.toList = c :: r.takeWhile isDig) (hc : isDig c = true ∨ (c.toNat = 45 ∧ isDig (r.headD 0) = true)) (hsz : s.size ≤ 1048577) :
    Calls Tryd.prog 39 #[.string s] w (NumAns w (c :: r.takeWhile isDig)) := by
  have ha := takeWhile_all isDig r
  have hnone : ∀ {e : Ending} {w' : World}, numB (c :: r.takeWhile isDig) = none → (e = .returned (.tuple #[I 0, .bool false]) ∧ New w w') → NumAns w (c :: r.takeWhile isDig) e w' := fun h he => by
    unfold NumAns; rw [h]; exact he
  rcases hc with hc | ⟨hc, hd⟩
  · have hall : (c :: r.takeWhile isDig).all isDig = true := by simp only [List.all_cons, hc, ha, Bool.and_self]
    have hcd := (isDig_iff c).1 hc
    have en : numB (c :: r.takeWhile isDig) = match magN (c :: r.takeWhile isDig) with
        | some v => if v < 9223372036854775808 then some (v : Int) else none
        | none => none := by
      unfold numB
      exact if_neg (by omega)
    by_cases hlead : 2 ≤ (c :: r.takeWhile isDig).length ∧ (c :: r.takeWhile isDig).head? = some 48
    · refine (rnum_lead_p w s _ hs (by simp) hall hsz hlead.1 hlead.2).mono fun e w' he => hnone ?_ he
      rw [en]; unfold magN; rw [if_pos (Or.inl hlead)]
    · by_cases hlong : 19 < (c :: r.takeWhile isDig).length
      · refine (rnum_long_p w s _ hs (by simp) hall hsz hlong (fun h => hlead ⟨by omega, h⟩)).mono fun e w' he => hnone ?_ he
        rw [en]; unfold magN; rw [if_pos (Or.inr hlong)]
      · have hform : (c :: r.takeWhile isDig).length = 1 ∨ (c :: r.takeWhile isDig).head? ≠ some 48 := by
          by_cases h1 : (c :: r.takeWhile isDig).length = 1
          · exact Or.inl h1
          · exact Or.inr (fun h => hlead ⟨by simp only [List.length_cons] at h1 ⊢; omega, h⟩)
        refine (rnum_good_p w s _ hs (by simp) hall (by omega) hform).mono fun e w' he => ?_
        have e2 : numB (c :: r.takeWhile isDig) = intW false (valA 0 (c :: r.takeWhile isDig)) := by
          rw [en]; unfold magN
          rw [if_neg (fun h => h.elim hlead hlong)]
          unfold intW
          rw [if_neg (by simp)]
        unfold NumAns
        rw [e2]; exact he
  · obtain rfl : c = 45 := UInt8.toNat_inj.1 hc
    have hne : r.takeWhile isDig ≠ [] := by
      obtain ⟨r', e⟩ := headD_some r (fun e => by rw [e] at hd; exact absurd hd (by decide))
      rw [e, List.takeWhile_cons, if_pos hd]; simp
    generalize r.takeWhile isDig = dl at hs ha hnone hne ⊢
    by_cases hlead : 2 ≤ dl.length ∧ dl.head? = some 48
    · refine (rnum_lead_m w s _ hs hne ha hsz hlead.1 hlead.2).mono fun e w' he => hnone ?_ he
      rw [numB_minus]; unfold magN; rw [if_pos (Or.inl hlead)]; simp
    · by_cases hz : dl = [48]
      · refine (rnum_zero_m w s _ hs hne ha hsz hz).mono fun e w' he => hnone ?_ he
        rw [numB_minus, if_pos hz]
      · by_cases hlong : 19 < dl.length
        · refine (rnum_long_m w s _ hs hne ha hsz hlong (fun h => hlead ⟨by omega, h⟩)).mono fun e w' he => hnone ?_ he
          rw [numB_minus]; unfold magN; rw [if_pos (Or.inr hlong)]; simp
        · have hform : dl.length = 1 ∨ dl.head? ≠ some 48 := by
            by_cases h1 : dl.length = 1
            · exact Or.inl h1
            · exact Or.inr (fun h => hlead ⟨by have := List.length_pos_iff.2 hne; omega, h⟩)
          refine (rnum_good_m w s _ hs hne ha (by omega) hform hz).mono fun e w' he => ?_
          have e2 : numB (45 :: dl) = intW true (valA 0 dl) := by
            rw [numB_minus, if_neg hz]; unfold magN
            rw [if_neg (fun h => h.elim hlead hlong)]
            unfold intW
            rw [if_pos rfl]
          unfold NumAns
          rw [e2]; exact he
end Go.Proofs.YtmmoocbnmjmfeaaDoor
