/-
  LexC, LexD, LexQ, LexE, LexF: what is wanted of them.
-/
import Derived.Test.YtnedmonlofbahaaGreatDoorLxA
import Derived.Laws.Concat
namespace Go.Proofs.YtnedmonlofbahaaGreatDoor
open Go Go.RowKit Go.Joins
set_option linter.all false

theorem lx_grow (w : World) (os : Array Obj) : New w (Sort.grow w os) := ⟨rfl, rfl, rfl, by simp [Sort.grow], fun k hk _ => by simp [Sort.grow, Array.getElem?_append, hk]⟩
theorem lx_below {w w' : World} (h : Below w.heap.size w w') : New w w' := ⟨h.os, h.tape, h.output, h.size, fun k hk _ => h.block k hk⟩
theorem lx_var {w w' : World} {n : String} {cs : Array Value} (h : w.var? Tryz.prog n = some cs) (hk : New w w') : w'.var? Tryz.prog n = some cs := by
  unfold World.var? at h ⊢
  obtain ⟨g, hg, h2⟩ := Option.bind_eq_some_iff.1 h
  rw [hg]
  simp only [Option.bind_some]
  cases hb : w.heap[g]? with
  | none => rw [hb] at h2; cases h2
  | some o => rw [Keeps.heap hk hb (fun h => h)]; rw [hb] at h2; exact h2
structure Env (w : World) : Prop where
  tab : Lib.TabIs Tryz.prog w "internal/strconv.uint64pow10" .u64 Lib.pow10Tab
  rng : ∃ tp p, w.var? Tryz.prog "strconv.ErrRange" = some #[.iface tp p]
theorem Env.new {w w' : World} (h : Env w) (k : New w w') : Env w' := by
  obtain ⟨ht, tp, p, hr⟩ := h
  exact ⟨lx_var ht k, tp, p, lx_var hr k⟩
theorem parse_ok (w : World) (X : ByteArray) (hX : X.size ≤ 9223372036854775806) (n : Int) (h : Lib.parseIntB 64 X.data.toList = .ok n) :
    Calls Tryz.prog 145 #[.string X, I 10, I 64] w fun e w' => e = .returned (.tuple #[I n, .nilIface]) ∧ New w w' := by
  refine (Tryz.strconv_ParseInt_10_at64_ok X hX n h w).mono ?_
  rintro e w' ⟨rfl, hw⟩
  refine ⟨rfl, ?_⟩
  rcases hw with rfl | ⟨t, rfl⟩
  · exact New.refl _
  · exact lx_below (Lib.bytesWorld_below _ _ _)
theorem parse_range (w : World) (X : ByteArray) (hX : X.size ≤ 281474976710656) (h : Lib.parseIntB 64 X.data.toList = .range) (he : Env w) :
    Calls Tryz.prog 145 #[.string X, I 10, I 64] w fun e w' => ∃ sat T a, e = .returned (.tuple #[I sat, .iface T (.pointer (some a))]) ∧ New w w' := by
  obtain ⟨_, tp, p, hr⟩ := he
  refine (Tryz.strconv_ParseInt_10_at64_range_var X hX h tp p w hr).mono ?_
  rintro e w' ⟨N, rfl, _, _, hb⟩
  exact ⟨_, _, _, rfl, lx_below hb⟩
def itoaS (n : Int) : ByteArray := ⟨(Lib.itoa n).toArray⟩
theorem fmt_any (w : World) (n : Int) (h0 : -9223372036854775808 ≤ n) (h1 : n ≤ 9223372036854775807) (he : Env w) :
    Calls Tryz.prog 146 #[I n, I 10] w fun e w' => e = .returned (.string (itoaS n)) ∧ New w w' := by
  refine (Tryz.strconv_FormatInt_10 n h0 h1 w he.tab).mono ?_
  rintro e w' ⟨rfl, k, os, rfl⟩
  exact ⟨rfl, ((New.refl w).drewN k).trans (lx_grow _ os)⟩
theorem lx_yes (s : ByteArray) : (s.toList == s.toList) = true := by simp
theorem lx_no {s t : ByteArray} (h : s.data.toList ≠ t.data.toList) : (s.toList == t.toList) = false := by
  rw [beq_eq_false_iff_ne]
  rw [ByteArray.toList_eq, ByteArray.toList_eq]
  exact h
def numD (s : ByteArray) (k : Nat) : List UInt8 := byteAt s k :: (s.data.toList.drop (k + 1)).takeWhile isDig
theorem extract_list (s : ByteArray) (i j : Nat) : (s.extract i j).data.toList = (s.data.toList.drop i).take (j - i) := by
  rw [ByteArray.data_extract, Array.toList_extract, List.extract_eq_drop_take]
theorem extract_take (s : ByteArray) (i n : Nat) : (s.extract i (i + n)).data.toList = (s.data.toList.drop i).take n := by
  rw [extract_list, show i + n - i = n by omega]
theorem toList_len (s : ByteArray) : s.data.toList.length = s.size := by simp
set_option maxRecDepth 100000 in
set_option maxHeartbeats 4000000 in
theorem cnum_m_some (w0 w : World) (P : Nat) (s : ByteArray) (k : Nat) (ts : List LTok) (h : Rd w0 w P s k ts) (he : Env w0) (hk : k < s.size) (hs : s.size ≤ 1048576) (hn : ts.length ≤ 1048576)
    (hb : (byteAt s k).toNat = 45) (v : Int) (h0 : -9223372036854775808 ≤ v) (h1 : v ≤ 9223372036854775807) (hp : Lib.parseIntB 64 (numD s k) = .ok v) (hi : Lib.itoa v = numD s k) :
    Calls Tryz.prog 130 #[.pointer (some ⟨P, 0, none⟩), I k] w fun e w' => e = .returned (I 0) ∧ Rd w0 w' P s (k + (numD s k).length) (ts ++ [⟨2, [], v, k⟩]) := by
  have hpk := rpeek0_any w0 w P s k ts h (by omega) (by omega)
  have hdr := dropAt' s k hk
  have hlen := toList_len s
  obtain ⟨n, hn0⟩ : ∃ n, ((s.data.toList.drop (k + 1)).takeWhile isDig).length = n := ⟨_, rfl⟩
  have hle : k + 1 + n ≤ s.size := by
    have := takeWhile_le isDig (s.data.toList.drop (k + 1))
    rw [hn0, List.length_drop] at this; omega
  have hw := fun W R => rwhile_dig w0 W P s (k + 1) ts R (by omega) (by omega)
  rw [hn0] at hw
  obtain ⟨Dg, hDg⟩ : ∃ Dg, s.extract (k + 1) (k + 1 + n) = Dg := ⟨_, rfl⟩
  have hDl : Dg.data.toList = (s.data.toList.drop (k + 1)).takeWhile isDig := by rw [← hDg, extract_take, ← hn0, takeWhile_take]
  have hsz : Dg.size ≤ 1048576 := by rw [← toList_len, hDl, hn0]; omega
  obtain ⟨X, hX⟩ : ∃ X, (⟨#[45]⟩ : ByteArray) ++ Dg = X := ⟨_, rfl⟩
  have h45 : byteAt s k = 45 := UInt8.toNat_inj.1 hb
  have hXl : X.data.toList = numD s k := by
    rw [← hX, ByteArray.data_append, Array.toList_append, hDl]
    unfold numD; rw [h45]; rfl
  have hXs : X.size ≤ 1048577 := by rw [← toList_len, hXl]; unfold numD; rw [List.length_cons, hn0]; omega
  have hadd : ∀ w : World, (Op.stringOp .add (⟨#[45]⟩ : ByteArray) Dg).run Tryz.prog w = .ok (.string X) w := fun w => by
    rw [← hX]; exact run_string_add_sum w _ _ (by show 1 + Dg.size ≤ _; omega)
  have HKL : Hid (k + 1 + n = k + (numD s k).length) := Lib.hid (by unfold numD; rw [List.length_cons, hn0]; omega)
  have e45 : (((byteAt s k).toNat : Int) == 45) = true := by rw [hb]; rfl
  have hpar := fun W => parse_ok W X (by omega) v (by rw [hXl]; exact hp)
  have hfmt := fun W (E : New w0 W) => fmt_any W v h0 h1 (he.new E)
  obtain ⟨F, hF⟩ : ∃ F, itoaS v = F := ⟨_, rfl⟩
  rw [hF] at hfmt
  obtain rfl : F = X := by
    rw [← hF]
    apply ByteArray.ext
    apply Array.toList_inj.1
    rw [hXl, ← hi]
    unfold itoaS
    rfl
  have hcmp := lx_yes F
  have hput := fun W (k1 : Nat) R => cput_any w0 W P s k1 ts R 2 [] v k (by omega)
  clear hF
  obtain ⟨b, hbb⟩ : ∃ b : Int, ((byteAt s k).toNat : Int) = b := ⟨_, rfl⟩
  rw [hbb] at hpk e45
  rw [hDg] at hw
  clear hbb hDg hDl hXl hX hdr hn0 hlen h45 hb hp hi
  go_enter Tryz.func130, Tryz.ntmps130
  go_wp2_with fail
  refine hpk.mono ?_
  rintro e w2 ⟨rfl, n2⟩
  have hR2 := h.new n2
  obtain ⟨_, y0, y1, _, hB2⟩ := hR2.cells
  have HR3 := Lib.hid (hR2.go (k + 1))
  clear hR2 hpk h
  go_wp2_with fail
  refine (hw _ HR3.out).mono ?_
  rintro e w4 ⟨rfl, hR4⟩
  go_wp2_with fail
  refine (hpar _).mono ?_
  rintro e w5 ⟨rfl, n5⟩
  have hR5 := hR4.new n5
  clear hR4
  go_wp2_with fail
  refine (hfmt _ hR5.nw).mono ?_
  rintro e w6 ⟨rfl, n6⟩
  have hR6 := hR5.new n6
  clear hR5
  go_wp2_with fail
  refine (hput _ _ hR6).mono ?_
  rintro e w7 ⟨rfl, hR7⟩
  have HR7 := Lib.hid hR7
  clear hR7 hR6
  go_wp2_with fail
  go_ret
  exact ⟨rfl, by rw [← HKL.out]; exact HR7.out⟩
set_option maxRecDepth 100000 in
set_option maxHeartbeats 4000000 in
theorem cnum_m_differ (w0 w : World) (P : Nat) (s : ByteArray) (k : Nat) (ts : List LTok) (h : Rd w0 w P s k ts) (he : Env w0) (hk : k < s.size) (hs : s.size ≤ 1048576) (hn : ts.length ≤ 1048576)
    (hb : (byteAt s k).toNat = 45) (v : Int) (h0 : -9223372036854775808 ≤ v) (h1 : v ≤ 9223372036854775807) (hp : Lib.parseIntB 64 (numD s k) = .ok v) (hi : Lib.itoa v ≠ numD s k) :
    Calls Tryz.prog 130 #[.pointer (some ⟨P, 0, none⟩), I k] w fun e w' => e = .returned (I 41) ∧ ∃ k', Rd w0 w' P s k' ts := by
  have hpk := rpeek0_any w0 w P s k ts h (by omega) (by omega)
  have hdr := dropAt' s k hk
  have hlen := toList_len s
  obtain ⟨n, hn0⟩ : ∃ n, ((s.data.toList.drop (k + 1)).takeWhile isDig).length = n := ⟨_, rfl⟩
  have hle : k + 1 + n ≤ s.size := by
    have := takeWhile_le isDig (s.data.toList.drop (k + 1))
    rw [hn0, List.length_drop] at this; omega
  have hw := fun W R => rwhile_dig w0 W P s (k + 1) ts R (by omega) (by omega)
  rw [hn0] at hw
  obtain ⟨Dg, hDg⟩ : ∃ Dg, s.extract (k + 1) (k + 1 + n) = Dg := ⟨_, rfl⟩
  have hDl : Dg.data.toList = (s.data.toList.drop (k + 1)).takeWhile isDig := by rw [← hDg, extract_take, ← hn0, takeWhile_take]
  have hsz : Dg.size ≤ 1048576 := by rw [← toList_len, hDl, hn0]; omega
  obtain ⟨X, hX⟩ : ∃ X, (⟨#[45]⟩ : ByteArray) ++ Dg = X := ⟨_, rfl⟩
  have h45 : byteAt s k = 45 := UInt8.toNat_inj.1 hb
  have hXl : X.data.toList = numD s k := by
    rw [← hX, ByteArray.data_append, Array.toList_append, hDl]
    unfold numD; rw [h45]; rfl
  have hXs : X.size ≤ 1048577 := by rw [← toList_len, hXl]; unfold numD; rw [List.length_cons, hn0]; omega
  have hadd : ∀ w : World, (Op.stringOp .add (⟨#[45]⟩ : ByteArray) Dg).run Tryz.prog w = .ok (.string X) w := fun w => by
    rw [← hX]; exact run_string_add_sum w _ _ (by show 1 + Dg.size ≤ _; omega)
  have HKL : Hid (k + 1 + n = k + (numD s k).length) := Lib.hid (by unfold numD; rw [List.length_cons, hn0]; omega)
  have e45 : (((byteAt s k).toNat : Int) == 45) = true := by rw [hb]; rfl
  have hpar := fun W => parse_ok W X (by omega) v (by rw [hXl]; exact hp)
  have hfmt := fun W (E : New w0 W) => fmt_any W v h0 h1 (he.new E)
  obtain ⟨F, hF⟩ : ∃ F, itoaS v = F := ⟨_, rfl⟩
  rw [hF] at hfmt
  have hcmp : (F.toList == X.toList) = false := lx_no (by rw [hXl, ← hF]; exact hi)
  clear hF
  obtain ⟨b, hbb⟩ : ∃ b : Int, ((byteAt s k).toNat : Int) = b := ⟨_, rfl⟩
  rw [hbb] at hpk e45
  rw [hDg] at hw
  clear hbb hDg hDl hXl hX hdr hn0 hlen h45 hb hp hi
  go_enter Tryz.func130, Tryz.ntmps130
  go_wp2_with fail
  refine hpk.mono ?_
  rintro e w2 ⟨rfl, n2⟩
  have hR2 := h.new n2
  obtain ⟨_, y0, y1, _, hB2⟩ := hR2.cells
  have HR3 := Lib.hid (hR2.go (k + 1))
  clear hR2 hpk h
  go_wp2_with fail
  refine (hw _ HR3.out).mono ?_
  rintro e w4 ⟨rfl, hR4⟩
  go_wp2_with fail
  refine (hpar _).mono ?_
  rintro e w5 ⟨rfl, n5⟩
  have hR5 := hR4.new n5
  clear hR4
  go_wp2_with fail
  refine (hfmt _ hR5.nw).mono ?_
  rintro e w6 ⟨rfl, n6⟩
  have hR6 := hR5.new n6
  clear hR5
  have HR6 := Lib.hid hR6
  clear hR6
  go_wp2_with fail
  go_ret
  exact ⟨rfl, _, HR6.out⟩
set_option maxRecDepth 100000 in
set_option maxHeartbeats 4000000 in
theorem cnum_m_range (w0 w : World) (P : Nat) (s : ByteArray) (k : Nat) (ts : List LTok) (h : Rd w0 w P s k ts) (he : Env w0) (hk : k < s.size) (hs : s.size ≤ 1048576) (hn : ts.length ≤ 1048576)
    (hb : (byteAt s k).toNat = 45) (hp : Lib.parseIntB 64 (numD s k) = .range) :
    Calls Tryz.prog 130 #[.pointer (some ⟨P, 0, none⟩), I k] w fun e w' => e = .returned (I 41) ∧ ∃ k', Rd w0 w' P s k' ts := by
  have hpk := rpeek0_any w0 w P s k ts h (by omega) (by omega)
  have hdr := dropAt' s k hk
  have hlen := toList_len s
  obtain ⟨n, hn0⟩ : ∃ n, ((s.data.toList.drop (k + 1)).takeWhile isDig).length = n := ⟨_, rfl⟩
  have hle : k + 1 + n ≤ s.size := by
    have := takeWhile_le isDig (s.data.toList.drop (k + 1))
    rw [hn0, List.length_drop] at this; omega
  have hw := fun W R => rwhile_dig w0 W P s (k + 1) ts R (by omega) (by omega)
  rw [hn0] at hw
  obtain ⟨Dg, hDg⟩ : ∃ Dg, s.extract (k + 1) (k + 1 + n) = Dg := ⟨_, rfl⟩
  have hDl : Dg.data.toList = (s.data.toList.drop (k + 1)).takeWhile isDig := by rw [← hDg, extract_take, ← hn0, takeWhile_take]
  have hsz : Dg.size ≤ 1048576 := by rw [← toList_len, hDl, hn0]; omega
  obtain ⟨X, hX⟩ : ∃ X, (⟨#[45]⟩ : ByteArray) ++ Dg = X := ⟨_, rfl⟩
  have h45 : byteAt s k = 45 := UInt8.toNat_inj.1 hb
  have hXl : X.data.toList = numD s k := by
    rw [← hX, ByteArray.data_append, Array.toList_append, hDl]
    unfold numD; rw [h45]; rfl
  have hXs : X.size ≤ 1048577 := by rw [← toList_len, hXl]; unfold numD; rw [List.length_cons, hn0]; omega
  have hadd : ∀ w : World, (Op.stringOp .add (⟨#[45]⟩ : ByteArray) Dg).run Tryz.prog w = .ok (.string X) w := fun w => by
    rw [← hX]; exact run_string_add_sum w _ _ (by show 1 + Dg.size ≤ _; omega)
  have HKL : Hid (k + 1 + n = k + (numD s k).length) := Lib.hid (by unfold numD; rw [List.length_cons, hn0]; omega)
  have e45 : (((byteAt s k).toNat : Int) == 45) = true := by rw [hb]; rfl
  have hpar := fun W (E : New w0 W) => parse_range W X (by omega) (by rw [hXl]; exact hp) (he.new E)
  obtain ⟨b, hbb⟩ : ∃ b : Int, ((byteAt s k).toNat : Int) = b := ⟨_, rfl⟩
  rw [hbb] at hpk e45
  rw [hDg] at hw
  clear hbb hDg hDl hXl hX hdr hn0 hlen h45 hb hp
  go_enter Tryz.func130, Tryz.ntmps130
  go_wp2_with fail
  refine hpk.mono ?_
  rintro e w2 ⟨rfl, n2⟩
  have hR2 := h.new n2
  obtain ⟨_, y0, y1, _, hB2⟩ := hR2.cells
  have HR3 := Lib.hid (hR2.go (k + 1))
  clear hR2 hpk h
  go_wp2_with fail
  refine (hw _ HR3.out).mono ?_
  rintro e w4 ⟨rfl, hR4⟩
  go_wp2_with fail
  refine (hpar _ hR4.nw).mono ?_
  rintro e w5 ⟨sat, T, a, rfl, n5⟩
  have HR5 := Lib.hid (hR4.new n5)
  clear hR4
  go_wp2_with fail
  go_ret
  exact ⟨rfl, _, HR5.out⟩
set_option maxRecDepth 100000 in
set_option maxHeartbeats 4000000 in
theorem cnum_p_some (w0 w : World) (P : Nat) (s : ByteArray) (k : Nat) (ts : List LTok) (h : Rd w0 w P s k ts) (he : Env w0) (hk : k < s.size) (hs : s.size ≤ 1048576) (hn : ts.length ≤ 1048576)
    (hb : isDig (byteAt s k) = true) (v : Int) (h0 : -9223372036854775808 ≤ v) (h1 : v ≤ 9223372036854775807) (hp : Lib.parseIntB 64 (numD s k) = .ok v) (hi : Lib.itoa v = numD s k) :
    Calls Tryz.prog 130 #[.pointer (some ⟨P, 0, none⟩), I k] w fun e w' => e = .returned (I 0) ∧ Rd w0 w' P s (k + (numD s k).length) (ts ++ [⟨2, [], v, k⟩]) := by
  have hpk := rpeek0_any w0 w P s k ts h (by omega) (by omega)
  have hdr := dropAt' s k hk
  have hlen := toList_len s
  obtain ⟨n, hn0⟩ : ∃ n, ((s.data.toList.drop k).takeWhile isDig).length = n := ⟨_, rfl⟩
  have hle : k + n ≤ s.size := by
    have := takeWhile_le isDig (s.data.toList.drop k)
    rw [hn0, List.length_drop] at this; omega
  have hw := fun W R => rwhile_dig w0 W P s k ts R (by omega) (by omega)
  rw [hn0] at hw
  obtain ⟨Dg, hDg⟩ : ∃ Dg, s.extract k (k + n) = Dg := ⟨_, rfl⟩
  have hD0 : (s.data.toList.drop k).takeWhile isDig = numD s k := by unfold numD; rw [hdr, List.takeWhile_cons, if_pos hb]
  have hDl : Dg.data.toList = numD s k := by rw [← hDg, extract_take, ← hn0, takeWhile_take, hD0]
  have hsz : Dg.size ≤ 1048576 := by rw [← toList_len, hDl, ← hD0, hn0]; omega
  obtain ⟨X, hX⟩ : ∃ X, (⟨#[]⟩ : ByteArray) ++ Dg = X := ⟨_, rfl⟩
  have hXl : X.data.toList = numD s k := by
    rw [← hX, ByteArray.data_append, Array.toList_append, hDl]; rfl
  have hXs : X.size ≤ 1048577 := by rw [← toList_len, hXl, ← hDl, toList_len]; omega
  have hadd : ∀ w : World, (Op.stringOp .add (⟨#[]⟩ : ByteArray) Dg).run Tryz.prog w = .ok (.string X) w := fun w => by
    rw [← hX]; exact run_string_add_sum w _ _ (by show 0 + Dg.size ≤ _; omega)
  have HKL : Hid (k + n = k + (numD s k).length) := Lib.hid (by rw [← hn0, hD0])
  have e45 : (((byteAt s k).toNat : Int) == 45) = false := by
    have := (isDig_iff _).1 hb
    simpa using fun h : ((byteAt s k).toNat : Int) = 45 => by omega
  have hpar := fun W => parse_ok W X (by omega) v (by rw [hXl]; exact hp)
  have hfmt := fun W (E : New w0 W) => fmt_any W v h0 h1 (he.new E)
  obtain ⟨F, hF⟩ : ∃ F, itoaS v = F := ⟨_, rfl⟩
  rw [hF] at hfmt
  obtain rfl : F = X := by
    rw [← hF]
    apply ByteArray.ext
    apply Array.toList_inj.1
    rw [hXl, ← hi]
    unfold itoaS
    rfl
  have hcmp := lx_yes F
  have hput := fun W (k1 : Nat) R => cput_any w0 W P s k1 ts R 2 [] v k (by omega)
  clear hF
  obtain ⟨b, hbb⟩ : ∃ b : Int, ((byteAt s k).toNat : Int) = b := ⟨_, rfl⟩
  rw [hbb] at hpk e45
  rw [hDg] at hw
  clear hbb hDg hDl hXl hX hdr hn0 hlen hD0 hb hp hi
  go_enter Tryz.func130, Tryz.ntmps130
  go_wp2_with fail
  refine hpk.mono ?_
  rintro e w2 ⟨rfl, n2⟩
  have hR2 := h.new n2
  clear hpk h
  go_wp2_with fail
  refine (hw _ hR2).mono ?_
  rintro e w4 ⟨rfl, hR4⟩
  go_wp2_with fail
  refine (hpar _).mono ?_
  rintro e w5 ⟨rfl, n5⟩
  have hR5 := hR4.new n5
  clear hR4
  go_wp2_with fail
  refine (hfmt _ hR5.nw).mono ?_
  rintro e w6 ⟨rfl, n6⟩
  have hR6 := hR5.new n6
  clear hR5
  go_wp2_with fail
  refine (hput _ _ hR6).mono ?_
  rintro e w7 ⟨rfl, hR7⟩
  have HR7 := Lib.hid hR7
  clear hR7 hR6
  go_wp2_with fail
  go_ret
  exact ⟨rfl, by rw [← HKL.out]; exact HR7.out⟩
set_option maxRecDepth 100000 in
set_option maxHeartbeats 4000000 in
theorem cnum_p_differ (w0 w : World) (P : Nat) (s : ByteArray) (k : Nat) (ts : List LTok) (h : Rd w0 w P s k ts) (he : Env w0) (hk : k < s.size) (hs : s.size ≤ 1048576) (hn : ts.length ≤ 1048576)
    (hb : isDig (byteAt s k) = true) (v : Int) (h0 : -9223372036854775808 ≤ v) (h1 : v ≤ 9223372036854775807) (hp : Lib.parseIntB 64 (numD s k) = .ok v) (hi : Lib.itoa v ≠ numD s k) :
    Calls Tryz.prog 130 #[.pointer (some ⟨P, 0, none⟩), I k] w fun e w' => e = .returned (I 41) ∧ ∃ k', Rd w0 w' P s k' ts := by
  have hpk := rpeek0_any w0 w P s k ts h (by omega) (by omega)
  have hdr := dropAt' s k hk
  have hlen := toList_len s
  obtain ⟨n, hn0⟩ : ∃ n, ((s.data.toList.drop k).takeWhile isDig).length = n := ⟨_, rfl⟩
  have hle : k + n ≤ s.size := by
    have := takeWhile_le isDig (s.data.toList.drop k)
    rw [hn0, List.length_drop] at this; omega
  have hw := fun W R => rwhile_dig w0 W P s k ts R (by omega) (by omega)
  rw [hn0] at hw
  obtain ⟨Dg, hDg⟩ : ∃ Dg, s.extract k (k + n) = Dg := ⟨_, rfl⟩
  have hD0 : (s.data.toList.drop k).takeWhile isDig = numD s k := by unfold numD; rw [hdr, List.takeWhile_cons, if_pos hb]
  have hDl : Dg.data.toList = numD s k := by rw [← hDg, extract_take, ← hn0, takeWhile_take, hD0]
  have hsz : Dg.size ≤ 1048576 := by rw [← toList_len, hDl, ← hD0, hn0]; omega
  obtain ⟨X, hX⟩ : ∃ X, (⟨#[]⟩ : ByteArray) ++ Dg = X := ⟨_, rfl⟩
  have hXl : X.data.toList = numD s k := by
    rw [← hX, ByteArray.data_append, Array.toList_append, hDl]; rfl
  have hXs : X.size ≤ 1048577 := by rw [← toList_len, hXl, ← hDl, toList_len]; omega
  have hadd : ∀ w : World, (Op.stringOp .add (⟨#[]⟩ : ByteArray) Dg).run Tryz.prog w = .ok (.string X) w := fun w => by
    rw [← hX]; exact run_string_add_sum w _ _ (by show 0 + Dg.size ≤ _; omega)
  have HKL : Hid (k + n = k + (numD s k).length) := Lib.hid (by rw [← hn0, hD0])
  have e45 : (((byteAt s k).toNat : Int) == 45) = false := by
    have := (isDig_iff _).1 hb
    simpa using fun h : ((byteAt s k).toNat : Int) = 45 => by omega
  have hpar := fun W => parse_ok W X (by omega) v (by rw [hXl]; exact hp)
  have hfmt := fun W (E : New w0 W) => fmt_any W v h0 h1 (he.new E)
  obtain ⟨F, hF⟩ : ∃ F, itoaS v = F := ⟨_, rfl⟩
  rw [hF] at hfmt
  have hcmp : (F.toList == X.toList) = false := lx_no (by rw [hXl, ← hF]; exact hi)
  clear hF
  obtain ⟨b, hbb⟩ : ∃ b : Int, ((byteAt s k).toNat : Int) = b := ⟨_, rfl⟩
  rw [hbb] at hpk e45
  rw [hDg] at hw
  clear hbb hDg hDl hXl hX hdr hn0 hlen hD0 hb hp hi
  go_enter Tryz.func130, Tryz.ntmps130
  go_wp2_with fail
  refine hpk.mono ?_
  rintro e w2 ⟨rfl, n2⟩
  have hR2 := h.new n2
  clear hpk h
  go_wp2_with fail
  refine (hw _ hR2).mono ?_
  rintro e w4 ⟨rfl, hR4⟩
  go_wp2_with fail
  refine (hpar _).mono ?_
  rintro e w5 ⟨rfl, n5⟩
  have hR5 := hR4.new n5
  clear hR4
  go_wp2_with fail
  refine (hfmt _ hR5.nw).mono ?_
  rintro e w6 ⟨rfl, n6⟩
  have hR6 := hR5.new n6
  clear hR5
  have HR6 := Lib.hid hR6
  clear hR6
  go_wp2_with fail
  go_ret
  exact ⟨rfl, _, HR6.out⟩
set_option maxRecDepth 100000 in
set_option maxHeartbeats 4000000 in
theorem cnum_p_range (w0 w : World) (P : Nat) (s : ByteArray) (k : Nat) (ts : List LTok) (h : Rd w0 w P s k ts) (he : Env w0) (hk : k < s.size) (hs : s.size ≤ 1048576) (hn : ts.length ≤ 1048576)
    (hb : isDig (byteAt s k) = true) (hp : Lib.parseIntB 64 (numD s k) = .range) :
    Calls Tryz.prog 130 #[.pointer (some ⟨P, 0, none⟩), I k] w fun e w' => e = .returned (I 41) ∧ ∃ k', Rd w0 w' P s k' ts := by
  have hpk := rpeek0_any w0 w P s k ts h (by omega) (by omega)
  have hdr := dropAt' s k hk
  have hlen := toList_len s
  obtain ⟨n, hn0⟩ : ∃ n, ((s.data.toList.drop k).takeWhile isDig).length = n := ⟨_, rfl⟩
  have hle : k + n ≤ s.size := by
    have := takeWhile_le isDig (s.data.toList.drop k)
    rw [hn0, List.length_drop] at this; omega
  have hw := fun W R => rwhile_dig w0 W P s k ts R (by omega) (by omega)
  rw [hn0] at hw
  obtain ⟨Dg, hDg⟩ : ∃ Dg, s.extract k (k + n) = Dg := ⟨_, rfl⟩
  have hD0 : (s.data.toList.drop k).takeWhile isDig = numD s k := by unfold numD; rw [hdr, List.takeWhile_cons, if_pos hb]
  have hDl : Dg.data.toList = numD s k := by rw [← hDg, extract_take, ← hn0, takeWhile_take, hD0]
  have hsz : Dg.size ≤ 1048576 := by rw [← toList_len, hDl, ← hD0, hn0]; omega
  obtain ⟨X, hX⟩ : ∃ X, (⟨#[]⟩ : ByteArray) ++ Dg = X := ⟨_, rfl⟩
  have hXl : X.data.toList = numD s k := by
    rw [← hX, ByteArray.data_append, Array.toList_append, hDl]; rfl
  have hXs : X.size ≤ 1048577 := by rw [← toList_len, hXl, ← hDl, toList_len]; omega
  have hadd : ∀ w : World, (Op.stringOp .add (⟨#[]⟩ : ByteArray) Dg).run Tryz.prog w = .ok (.string X) w := fun w => by
    rw [← hX]; exact run_string_add_sum w _ _ (by show 0 + Dg.size ≤ _; omega)
  have HKL : Hid (k + n = k + (numD s k).length) := Lib.hid (by rw [← hn0, hD0])
  have e45 : (((byteAt s k).toNat : Int) == 45) = false := by
    have := (isDig_iff _).1 hb
    simpa using fun h : ((byteAt s k).toNat : Int) = 45 => by omega
  have hpar := fun W (E : New w0 W) => parse_range W X (by omega) (by rw [hXl]; exact hp) (he.new E)
  obtain ⟨b, hbb⟩ : ∃ b : Int, ((byteAt s k).toNat : Int) = b := ⟨_, rfl⟩
  rw [hbb] at hpk e45
  rw [hDg] at hw
  clear hbb hDg hDl hXl hX hdr hn0 hlen hD0 hb hp
  go_enter Tryz.func130, Tryz.ntmps130
  go_wp2_with fail
  refine hpk.mono ?_
  rintro e w2 ⟨rfl, n2⟩
  have hR2 := h.new n2
  clear hpk h
  go_wp2_with fail
  refine (hw _ hR2).mono ?_
  rintro e w4 ⟨rfl, hR4⟩
  go_wp2_with fail
  refine (hpar _ hR4.nw).mono ?_
  rintro e w5 ⟨sat, T, a, rfl, n5⟩
  have HR5 := Lib.hid (hR4.new n5)
  clear hR4
  go_wp2_with fail
  go_ret
  exact ⟨rfl, _, HR5.out⟩
theorem cnum_any (w0 w : World) (P : Nat) (s : ByteArray) (k : Nat) (ts : List LTok) (h : Rd w0 w P s k ts) (he : Env w0) (hk : k < s.size) (hs : s.size ≤ 1048576) (hn : ts.length ≤ 1048576)
    (hb : isDig (byteAt s k) = true ∨ ((byteAt s k).toNat = 45 ∧ isDig (byteAt s (k + 1)) = true)) :
    Calls Tryz.prog 130 #[.pointer (some ⟨P, 0, none⟩), I k] w fun e w' =>
      (∃ v, numB (numD s k) = some v ∧ e = .returned (I 0) ∧ Rd w0 w' P s (k + (numD s k).length) (ts ++ [⟨2, [], v, k⟩])) ∨ (numB (numD s k) = none ∧ e = .returned (I 41) ∧ ∃ k', Rd w0 w' P s k' ts) := by
  have ha := takeWhile_all isDig (s.data.toList.drop (k + 1))
  rcases hb with hb | ⟨hb, hd⟩
  · rcases numB_plain (byteAt s k) ((s.data.toList.drop (k + 1)).takeWhile isDig) (by simp only [List.all_cons, hb, ha, Bool.and_self]) with ⟨v, h1, h2, h3⟩ | ⟨h1, h2 | ⟨v, h2, h3⟩⟩
    · have hr := numB_rng _ _ h1
      exact (cnum_p_some w0 w P s k ts h he hk hs hn hb v hr.1 hr.2 h2 h3).mono fun e w' hp => Or.inl ⟨v, h1, hp⟩
    · exact (cnum_p_range w0 w P s k ts h he hk hs hn hb h2).mono fun e w' hp => Or.inr ⟨h1, hp⟩
    · have hr := Lib.parseIntB_bounds h2
      exact (cnum_p_differ w0 w P s k ts h he hk hs hn hb v (by have := hr.1; simp at this; omega) (by have := hr.2; simp at this; omega) h2 h3).mono fun e w' hp => Or.inr ⟨h1, hp⟩
  · have h45 : byteAt s k = 45 := UInt8.toNat_inj.1 hb
    have hne : (s.data.toList.drop (k + 1)).takeWhile isDig ≠ [] := by
      have hd2 : isDig ((s.data.toList.drop (k + 1)).headD 0) = true := hd
      obtain ⟨r', e⟩ := headD_some _ (fun e => by rw [e] at hd2; exact absurd hd2 (by decide))
      rw [e, List.takeWhile_cons, if_pos hd2]; simp
    have hD : numD s k = 45 :: (s.data.toList.drop (k + 1)).takeWhile isDig := by unfold numD; rw [h45]
    rcases numB_below _ hne ha with ⟨v, h1, h2, h3⟩ | ⟨h1, h2 | ⟨v, h2, h3⟩⟩
    · rw [← hD] at h1 h2 h3
      have hr := numB_rng _ _ h1
      exact (cnum_m_some w0 w P s k ts h he hk hs hn hb v hr.1 hr.2 h2 h3).mono fun e w' hp => Or.inl ⟨v, h1, hp⟩
    · rw [← hD] at h1 h2
      exact (cnum_m_range w0 w P s k ts h he hk hs hn hb h2).mono fun e w' hp => Or.inr ⟨h1, hp⟩
    · rw [← hD] at h1 h2 h3
      have hr := Lib.parseIntB_bounds h2
      exact (cnum_m_differ w0 w P s k ts h he hk hs hn hb v (by have := hr.1; simp at this; omega) (by have := hr.2; simp at this; omega) h2 h3).mono fun e w' hp => Or.inr ⟨h1, hp⟩
def TokAns (w0 : World) (P : Nat) (s : ByteArray) (k : Nat) (ts : List LTok) (e : Ending) (w' : World) : Prop :=
  match tokR (s.data.toList.drop k) with
  | .good so tx nu len => e = .returned (I 0) ∧ Rd w0 w' P s (k + len) (ts ++ [⟨so, tx, nu, k⟩])
  | .bad c => e = .returned (I c) ∧ ∃ k', Rd w0 w' P s k' ts
theorem ans_good {w0 : World} {P : Nat} {s : ByteArray} {k : Nat} {ts : List LTok} {w' : World} {so nu : Int} {tx : List UInt8} {len : Nat} (ht : tokR (s.data.toList.drop k) = .good so tx nu len) (h : Rd w0 w' P s (k + len) (ts ++ [⟨so, tx, nu, k⟩])) : TokAns w0 P s k ts (.returned (I 0)) w' := by
  unfold TokAns; rw [ht]; exact ⟨rfl, h⟩
theorem ans_bad {w0 : World} {P : Nat} {s : ByteArray} {k k' : Nat} {ts : List LTok} {w' : World} {c : Int} (ht : tokR (s.data.toList.drop k) = .bad c) (h : Rd w0 w' P s k' ts) : TokAns w0 P s k ts (.returned (I c)) w' := by
  unfold TokAns; rw [ht]; exact ⟨rfl, k', h⟩
theorem b_eq (b : UInt8) (k : Nat) : ((b.toNat : Int) == (k : Int)) = decide (b.toNat = k) := by
  by_cases h : b.toNat = k
  · rw [h]; simp
  · rw [decide_eq_false h]; simpa using fun h2 : (b.toNat : Int) = (k : Int) => h (by omega)
theorem b_yes {b : UInt8} {k : Nat} (h : b.toNat = k) : ((b.toNat : Int) == (k : Int)) = true := by rw [b_eq, decide_eq_true h]
theorem b_no {b : UInt8} {k : Nat} (h : b.toNat ≠ k) : ((b.toNat : Int) == (k : Int)) = false := by rw [b_eq, decide_eq_false h]
set_option maxRecDepth 100000 in
set_option maxHeartbeats 4000000 in
theorem ctok_long (w0 w : World) (P : Nat) (s : ByteArray) (k : Nat) (ts : List LTok) (h : Rd w0 w P s k ts) (he : Env w0) (hk : k < s.size) (hs : s.size ≤ 1048576) (hn : ts.length ≤ 1048576)
    (hl : isLet (byteAt s k) = true) (h16 : 16 < ((s.data.toList.drop k).takeWhile isIns).length) :
    Calls Tryz.prog 90 #[.pointer (some ⟨P, 0, none⟩)] w (TokAns w0 P s k ts) := by
  obtain ⟨PO, hPO⟩ : ∃ PO, PO = TokAns w0 P s k ts := ⟨_, rfl⟩
  rw [← hPO]
  have HPO := Lib.hid hPO
  have hdr := dropAt' s k hk
  have hpk := rpeek0_any w0 w P s k ts h (by omega) (by omega)
  have hlet := fun W => clet_any W ((byteAt s k).toNat : Int)
  have hlen := toList_len s
  have h255 := (byteAt s k).toNat_lt
  clear hPO
  have HT : Hid (tokR (s.data.toList.drop k) = .bad 42) := Lib.hid (by
    rw [hdr] at h16 ⊢
    rw [tokR_cons, if_pos hl, if_pos h16])
  obtain ⟨tx, htx⟩ : ∃ tx, (s.data.toList.drop k).takeWhile isIns = tx := ⟨_, rfl⟩
  have hle : k + tx.length ≤ s.size := by
    have := takeWhile_le isIns (s.data.toList.drop k)
    rw [htx, List.length_drop] at this; omega
  have hw := fun W R => rwhile_ins w0 W P s k ts R (by omega) (by omega)
  rw [htx] at hw h16
  obtain ⟨Wd, hWd⟩ : ∃ Wd, s.extract k (k + tx.length) = Wd := ⟨_, rfl⟩
  have hWl : Wd.data.toList = tx := by rw [← hWd, extract_take, ← htx, takeWhile_take]
  have hWe : (⟨tx.toArray⟩ : ByteArray) = Wd := by apply ByteArray.ext; rw [← hWl]
  have hsz : Wd.size = tx.length := by rw [← toList_len, hWl]
  rw [hWd] at hw
  have hd : decide (16 < (Wd.size : Int)) = true := decide_eq_true (by omega)
  have hWb : Wd.size ≤ 1048576 := by omega


  have e1 : letterB ((byteAt s k).toNat : Int) = true := hl
  rw [e1] at hlet
  obtain ⟨b, hbb⟩ : ∃ b : Int, ((byteAt s k).toNat : Int) = b := ⟨_, rfl⟩
  rw [hbb] at hpk hlet
  clear hbb hWd hWl hWe hsz htx hdr hlen hl e1 h255 h16
  go_enter Tryz.func90, Tryz.ntmps90
  obtain ⟨_, c1, _, _, hB⟩ := h.cells
  go_wp2_with fail
  refine hpk.mono ?_
  rintro e w2 ⟨rfl, n2⟩
  have hR2 := h.new n2
  clear hpk h c1
  go_wp2_with fail
  refine (hlet _).mono ?_
  rintro e w3 ⟨rfl, rfl⟩
  go_wp2_with fail
  refine (hw _ hR2).mono ?_
  rintro e w4 ⟨rfl, hR4⟩
  clear hR2 hw hlet
  have HR4 := Lib.hid hR4
  clear hR4
  go_wp2_with fail
  rw [HPO.out]
  exact ans_bad HT.out HR4.out
set_option maxRecDepth 100000 in
set_option maxHeartbeats 4000000 in
theorem ctok_word (w0 w : World) (P : Nat) (s : ByteArray) (k : Nat) (ts : List LTok) (h : Rd w0 w P s k ts) (he : Env w0) (hk : k < s.size) (hs : s.size ≤ 1048576) (hn : ts.length ≤ 1048576)
    (hl : isLet (byteAt s k) = true) (h16 : ¬ 16 < ((s.data.toList.drop k).takeWhile isIns).length) :
    Calls Tryz.prog 90 #[.pointer (some ⟨P, 0, none⟩)] w (TokAns w0 P s k ts) := by
  obtain ⟨PO, hPO⟩ : ∃ PO, PO = TokAns w0 P s k ts := ⟨_, rfl⟩
  rw [← hPO]
  have HPO := Lib.hid hPO
  have hdr := dropAt' s k hk
  have hpk := rpeek0_any w0 w P s k ts h (by omega) (by omega)
  have hlet := fun W => clet_any W ((byteAt s k).toNat : Int)
  have hlen := toList_len s
  have h255 := (byteAt s k).toNat_lt
  clear hPO
  have HT : Hid (tokR (s.data.toList.drop k) = .good 1 ((s.data.toList.drop k).takeWhile isIns) 0 ((s.data.toList.drop k).takeWhile isIns).length) := Lib.hid (by
    rw [hdr] at h16 ⊢
    rw [tokR_cons, if_pos hl, if_neg h16])
  obtain ⟨tx, htx⟩ : ∃ tx, (s.data.toList.drop k).takeWhile isIns = tx := ⟨_, rfl⟩
  have hle : k + tx.length ≤ s.size := by
    have := takeWhile_le isIns (s.data.toList.drop k)
    rw [htx, List.length_drop] at this; omega
  have hw := fun W R => rwhile_ins w0 W P s k ts R (by omega) (by omega)
  rw [htx] at hw HT h16
  obtain ⟨Wd, hWd⟩ : ∃ Wd, s.extract k (k + tx.length) = Wd := ⟨_, rfl⟩
  have hWl : Wd.data.toList = tx := by rw [← hWd, extract_take, ← htx, takeWhile_take]
  have hWe : (⟨tx.toArray⟩ : ByteArray) = Wd := by apply ByteArray.ext; rw [← hWl]
  have hsz : Wd.size = tx.length := by rw [← toList_len, hWl]
  rw [hWd] at hw
  have hd : decide (16 < (Wd.size : Int)) = false := decide_eq_false (by omega)
  have hWb : Wd.size ≤ 1048576 := by omega
  have hput := fun W (k1 : Nat) R => cput_any w0 W P s k1 ts R 1 tx 0 k (by omega)
  rw [hWe] at hput
  have e1 : letterB ((byteAt s k).toNat : Int) = true := hl
  rw [e1] at hlet
  obtain ⟨b, hbb⟩ : ∃ b : Int, ((byteAt s k).toNat : Int) = b := ⟨_, rfl⟩
  rw [hbb] at hpk hlet
  clear hbb hWd hWl hWe hsz htx hdr hlen hl e1 h255 h16
  go_enter Tryz.func90, Tryz.ntmps90
  obtain ⟨_, c1, _, _, hB⟩ := h.cells
  go_wp2_with fail
  refine hpk.mono ?_
  rintro e w2 ⟨rfl, n2⟩
  have hR2 := h.new n2
  clear hpk h c1
  go_wp2_with fail
  refine (hlet _).mono ?_
  rintro e w3 ⟨rfl, rfl⟩
  go_wp2_with fail
  refine (hw _ hR2).mono ?_
  rintro e w4 ⟨rfl, hR4⟩
  clear hR2 hw hlet
  go_wp2_with fail
  refine (hput _ _ hR4).mono ?_
  rintro e w5 ⟨rfl, hR5⟩
  have HR5 := Lib.hid hR5
  clear hR4 hR5 hput
  go_wp2_with fail
  rw [HPO.out]
  exact ans_good HT.out HR5.out
set_option maxRecDepth 100000 in
set_option maxHeartbeats 4000000 in
theorem ctok_digit (w0 w : World) (P : Nat) (s : ByteArray) (k : Nat) (ts : List LTok) (h : Rd w0 w P s k ts) (he : Env w0) (hk : k < s.size) (hs : s.size ≤ 1048576) (hn : ts.length ≤ 1048576)
    (hl : isLet (byteAt s k) = false) (hd : isDig (byteAt s k) = true) :
    Calls Tryz.prog 90 #[.pointer (some ⟨P, 0, none⟩)] w (TokAns w0 P s k ts) := by
  obtain ⟨PO, hPO⟩ : ∃ PO, PO = TokAns w0 P s k ts := ⟨_, rfl⟩
  rw [← hPO]
  have HPO := Lib.hid hPO
  have hdr := dropAt' s k hk
  have hpk := rpeek0_any w0 w P s k ts h (by omega) (by omega)
  have hlet := fun W => clet_any W ((byteAt s k).toNat : Int)
  have hlen := toList_len s
  have h255 := (byteAt s k).toNat_lt
  clear hPO
  have hnum := fun W R => cnum_any w0 W P s k ts R he hk hs hn (Or.inl hd)
  have HT1 : Hid (∀ v, numB (numD s k) = some v → tokR (s.data.toList.drop k) = .good 2 [] v (numD s k).length) := Lib.hid (by
    intro v hv
    rw [hdr, tokR_cons, if_neg (by rw [hl]; simp), if_pos (Or.inl hd)]
    unfold numD at hv
    rw [hv]
    rfl)
  have HT2 : Hid (numB (numD s k) = none → tokR (s.data.toList.drop k) = .bad 41) := Lib.hid (by
    intro hv
    rw [hdr, tokR_cons, if_neg (by rw [hl]; simp), if_pos (Or.inl hd)]
    unfold numD at hv
    rw [hv])
  have e1 : letterB ((byteAt s k).toNat : Int) = false := hl
  have hdig := fun W => cdig_any W ((byteAt s k).toNat : Int)
  have e2 : digitB ((byteAt s k).toNat : Int) = true := hd
  rw [e1] at hlet
  rw [e2] at hdig
  obtain ⟨b, hbb⟩ : ∃ b : Int, ((byteAt s k).toNat : Int) = b := ⟨_, rfl⟩
  rw [hbb] at hpk hlet hdig
  clear hbb hdr hlen hl hd e1 e2 h255
  go_enter Tryz.func90, Tryz.ntmps90
  obtain ⟨_, c1, _, _, hB⟩ := h.cells
  go_wp2_with fail
  refine hpk.mono ?_
  rintro e w2 ⟨rfl, n2⟩
  have hR2 := h.new n2
  clear hpk h c1
  go_wp2_with fail
  refine (hlet _).mono ?_
  rintro e w3 ⟨rfl, rfl⟩
  go_wp2_with fail
  refine (hdig _).mono ?_
  rintro e w4 ⟨rfl, rfl⟩
  go_wp2_with fail
  refine (hnum _ hR2).mono ?_
  clear hR2 hnum hdig hlet
  rintro e w6 (⟨v, hv, rfl, hR6⟩ | ⟨hv, rfl, k6, hR6⟩)
  · have HR6 := Lib.hid (ans_good (HT1.out v hv) hR6)
    clear hR6 hv
    go_wp2_with fail
    rw [HPO.out]
    exact HR6.out
  · have HR6 := Lib.hid (ans_bad (HT2.out hv) hR6)
    clear hR6 hv
    go_wp2_with fail
    rw [HPO.out]
    exact HR6.out
set_option maxRecDepth 100000 in
set_option maxHeartbeats 4000000 in
theorem ctok_minus (w0 w : World) (P : Nat) (s : ByteArray) (k : Nat) (ts : List LTok) (h : Rd w0 w P s k ts) (he : Env w0) (hk : k < s.size) (hs : s.size ≤ 1048576) (hn : ts.length ≤ 1048576)
    (h45 : (byteAt s k).toNat = 45) (hd1 : isDig (byteAt s (k + 1)) = true) :
    Calls Tryz.prog 90 #[.pointer (some ⟨P, 0, none⟩)] w (TokAns w0 P s k ts) := by
  obtain ⟨PO, hPO⟩ : ∃ PO, PO = TokAns w0 P s k ts := ⟨_, rfl⟩
  rw [← hPO]
  have HPO := Lib.hid hPO
  have hdr := dropAt' s k hk
  have hpk := rpeek0_any w0 w P s k ts h (by omega) (by omega)
  have hlet := fun W => clet_any W ((byteAt s k).toNat : Int)
  have hlen := toList_len s
  have h255 := (byteAt s k).toNat_lt
  clear hPO
  have hl : isLet (byteAt s k) = false := by
    cases e : isLet (byteAt s k) with
    | false => rfl
    | true => have := (isLet_iff _).1 e; omega
  have hd : isDig (byteAt s k) = false := by
    cases e : isDig (byteAt s k) with
    | false => rfl
    | true => have := (isDig_iff _).1 e; omega
  have e45 : (((byteAt s k).toNat : Int) == 45) = true := b_yes (k := 45) h45
  have hnum := fun W R => cnum_any w0 W P s k ts R he hk hs hn (Or.inr ⟨h45, hd1⟩)
  have HT1 : Hid (∀ v, numB (numD s k) = some v → tokR (s.data.toList.drop k) = .good 2 [] v (numD s k).length) := Lib.hid (by
    intro v hv
    rw [hdr, tokR_cons, if_neg (by rw [hl]; simp), if_pos (Or.inr ⟨h45, hd1⟩)]
    unfold numD at hv
    rw [hv]
    rfl)
  have HT2 : Hid (numB (numD s k) = none → tokR (s.data.toList.drop k) = .bad 41) := Lib.hid (by
    intro hv
    rw [hdr, tokR_cons, if_neg (by rw [hl]; simp), if_pos (Or.inr ⟨h45, hd1⟩)]
    unfold numD at hv
    rw [hv])
  have e1 : letterB ((byteAt s k).toNat : Int) = false := hl
  have hdig := fun W => cdig_any W ((byteAt s k).toNat : Int)
  have e2 : digitB ((byteAt s k).toNat : Int) = false := hd
  rw [e1] at hlet
  rw [e2] at hdig
  have hpk1 := fun W R => rpeek1_any w0 W P s k ts R (by omega) (by omega)
  have hdig1 := fun W => cdig_any W ((byteAt s (k + 1)).toNat : Int)
  have h256 := (byteAt s (k + 1)).toNat_lt
  have e3 : digitB ((byteAt s (k + 1)).toNat : Int) = true := hd1
  rw [e3] at hdig1
  obtain ⟨b, hbb⟩ : ∃ b : Int, ((byteAt s k).toNat : Int) = b := ⟨_, rfl⟩
  obtain ⟨b1, hbb1⟩ : ∃ b1 : Int, ((byteAt s (k + 1)).toNat : Int) = b1 := ⟨_, rfl⟩
  rw [hbb] at hpk hlet hdig e45
  rw [hbb1] at hpk1 hdig1
  clear hbb hbb1 hdr hlen hl hd e1 e2 e3 h45 hd1 h255 h256
  go_enter Tryz.func90, Tryz.ntmps90
  obtain ⟨_, c1, _, _, hB⟩ := h.cells
  go_wp2_with fail
  refine hpk.mono ?_
  rintro e w2 ⟨rfl, n2⟩
  have hR2 := h.new n2
  clear hpk h c1
  go_wp2_with fail
  refine (hlet _).mono ?_
  rintro e w3 ⟨rfl, rfl⟩
  go_wp2_with fail
  refine (hdig _).mono ?_
  rintro e w4 ⟨rfl, rfl⟩
  go_wp2_with fail
  refine (hpk1 _ hR2).mono ?_
  rintro e w5 ⟨rfl, n5⟩
  have hR5 := hR2.new n5
  clear hR2
  go_wp2_with fail
  refine (hdig1 _).mono ?_
  rintro e w7 ⟨rfl, rfl⟩
  go_wp2_with fail
  refine (hnum _ hR5).mono ?_
  clear hR5 hnum hdig hlet hpk1 hdig1
  rintro e w6 (⟨v, hv, rfl, hR6⟩ | ⟨hv, rfl, k6, hR6⟩)
  · have HR6 := Lib.hid (ans_good (HT1.out v hv) hR6)
    clear hR6 hv
    go_wp2_with fail
    rw [HPO.out]
    exact HR6.out
  · have HR6 := Lib.hid (ans_bad (HT2.out hv) hR6)
    clear hR6 hv
    go_wp2_with fail
    rw [HPO.out]
    exact HR6.out
set_option maxRecDepth 100000 in
set_option maxHeartbeats 4000000 in
theorem ctok_arrow (w0 w : World) (P : Nat) (s : ByteArray) (k : Nat) (ts : List LTok) (h : Rd w0 w P s k ts) (he : Env w0) (hk : k < s.size) (hs : s.size ≤ 1048576) (hn : ts.length ≤ 1048576)
    (h45 : (byteAt s k).toNat = 45) (hd1 : isDig (byteAt s (k + 1)) = false) (h62 : (byteAt s (k + 1)).toNat = 62) :
    Calls Tryz.prog 90 #[.pointer (some ⟨P, 0, none⟩)] w (TokAns w0 P s k ts) := by
  obtain ⟨PO, hPO⟩ : ∃ PO, PO = TokAns w0 P s k ts := ⟨_, rfl⟩
  rw [← hPO]
  have HPO := Lib.hid hPO
  have hdr := dropAt' s k hk
  have hpk := rpeek0_any w0 w P s k ts h (by omega) (by omega)
  have hlet := fun W => clet_any W ((byteAt s k).toNat : Int)
  have hlen := toList_len s
  have h255 := (byteAt s k).toNat_lt
  clear hPO
  have hl : isLet (byteAt s k) = false := by
    cases e : isLet (byteAt s k) with
    | false => rfl
    | true => have := (isLet_iff _).1 e; omega
  have hd : isDig (byteAt s k) = false := by
    cases e : isDig (byteAt s k) with
    | false => rfl
    | true => have := (isDig_iff _).1 e; omega
  have e45 : (((byteAt s k).toNat : Int) == 45) = true := b_yes (k := 45) h45
  have HT : Hid (tokR (s.data.toList.drop k) = .good 3 [45, 62] 0 2) := Lib.hid (by
    have hn1 : ¬ (isDig (byteAt s k) = true ∨ ((byteAt s k).toNat = 45 ∧ isDig ((s.data.toList.drop (k + 1)).headD 0) = true)) := by
      rintro (x | ⟨_, x⟩)
      · rw [hd] at x; cases x
      · have : isDig (byteAt s (k + 1)) = true := x
        rw [hd1] at this; cases this
    rw [hdr, tokR_cons, if_neg (by rw [hl]; simp), if_neg hn1]
    rw [if_pos ⟨h45, h62⟩])
  have e1 : letterB ((byteAt s k).toNat : Int) = false := hl
  have hdig := fun W => cdig_any W ((byteAt s k).toNat : Int)
  have e2 : digitB ((byteAt s k).toNat : Int) = false := hd
  rw [e1] at hlet
  rw [e2] at hdig
  have hpk1 := fun W R => rpeek1_any w0 W P s k ts R (by omega) (by omega)
  have hdig1 := fun W => cdig_any W ((byteAt s (k + 1)).toNat : Int)
  have h256 := (byteAt s (k + 1)).toNat_lt
  have e3 : digitB ((byteAt s (k + 1)).toNat : Int) = false := hd1
  have e62 : (((byteAt s (k + 1)).toNat : Int) == 62) = true := b_yes (k := 62) h62
  rw [e3] at hdig1
  have hput := fun W (k1 : Nat) R => cput_any w0 W P s k1 ts R 3 [45, 62] 0 k (by omega)
  rw [show (⟨[45, 62].toArray⟩ : ByteArray) = ⟨#[45, 62]⟩ from rfl] at hput
  have hk2 : k + 1 < s.size := by
    by_cases x : k + 1 < s.size
    · exact x
    · rw [byteAt_out s _ x] at h62; exact absurd h62 (by decide)

  obtain ⟨b, hbb⟩ : ∃ b : Int, ((byteAt s k).toNat : Int) = b := ⟨_, rfl⟩
  obtain ⟨b1, hbb1⟩ : ∃ b1 : Int, ((byteAt s (k + 1)).toNat : Int) = b1 := ⟨_, rfl⟩
  rw [hbb] at hpk hlet hdig e45
  rw [hbb1] at hpk1 hdig1 e62
  clear hbb hbb1 hdr hlen hl hd e1 e2 e3 h45 hd1 h62 h255 h256
  go_enter Tryz.func90, Tryz.ntmps90
  obtain ⟨_, c1, _, _, hB⟩ := h.cells
  go_wp2_with fail
  refine hpk.mono ?_
  rintro e w2 ⟨rfl, n2⟩
  have hR2 := h.new n2
  clear hpk h c1
  go_wp2_with fail
  refine (hlet _).mono ?_
  rintro e w3 ⟨rfl, rfl⟩
  go_wp2_with fail
  refine (hdig _).mono ?_
  rintro e w4 ⟨rfl, rfl⟩
  go_wp2_with fail
  refine (hpk1 _ hR2).mono ?_
  rintro e w5 ⟨rfl, n5⟩
  have hR5 := hR2.new n5
  clear hR2
  go_wp2_with fail
  refine (hdig1 _).mono ?_
  rintro e w7 ⟨rfl, rfl⟩
  go_wp2_with fail
  refine (hpk1 _ hR5).mono ?_
  rintro e w8 ⟨rfl, n8⟩
  have hR8 := hR5.new n8
  clear hR5 hpk1 hdig hdig1 hlet
  obtain ⟨_, y0, y1, _, hB8⟩ := hR8.cells
  have HR9 := Lib.hid (hR8.go (k + 2))
  clear hR8
  go_wp2_with fail
  refine (hput _ _ HR9.out).mono ?_
  rintro e w9 ⟨rfl, hR9⟩
  have HRA := Lib.hid hR9
  clear hR9 hput
  go_wp2_with fail
  rw [HPO.out]
  exact ans_good HT.out HRA.out
set_option maxRecDepth 100000 in
set_option maxHeartbeats 4000000 in
theorem ctok_dash (w0 w : World) (P : Nat) (s : ByteArray) (k : Nat) (ts : List LTok) (h : Rd w0 w P s k ts) (he : Env w0) (hk : k < s.size) (hs : s.size ≤ 1048576) (hn : ts.length ≤ 1048576)
    (h45 : (byteAt s k).toNat = 45) (hd1 : isDig (byteAt s (k + 1)) = false) (h62 : (byteAt s (k + 1)).toNat ≠ 62) :
    Calls Tryz.prog 90 #[.pointer (some ⟨P, 0, none⟩)] w (TokAns w0 P s k ts) := by
  obtain ⟨PO, hPO⟩ : ∃ PO, PO = TokAns w0 P s k ts := ⟨_, rfl⟩
  rw [← hPO]
  have HPO := Lib.hid hPO
  have hdr := dropAt' s k hk
  have hpk := rpeek0_any w0 w P s k ts h (by omega) (by omega)
  have hlet := fun W => clet_any W ((byteAt s k).toNat : Int)
  have hlen := toList_len s
  have h255 := (byteAt s k).toNat_lt
  clear hPO
  have hl : isLet (byteAt s k) = false := by
    cases e : isLet (byteAt s k) with
    | false => rfl
    | true => have := (isLet_iff _).1 e; omega
  have hd : isDig (byteAt s k) = false := by
    cases e : isDig (byteAt s k) with
    | false => rfl
    | true => have := (isDig_iff _).1 e; omega
  have e45 : (((byteAt s k).toNat : Int) == 45) = true := b_yes (k := 45) h45
  have HT : Hid (tokR (s.data.toList.drop k) = .bad 40) := Lib.hid (by
    have hn1 : ¬ (isDig (byteAt s k) = true ∨ ((byteAt s k).toNat = 45 ∧ isDig ((s.data.toList.drop (k + 1)).headD 0) = true)) := by
      rintro (x | ⟨_, x⟩)
      · rw [hd] at x; cases x
      · have : isDig (byteAt s (k + 1)) = true := x
        rw [hd1] at this; cases this
    rw [hdr, tokR_cons, if_neg (by rw [hl]; simp), if_neg hn1]
    rw [if_neg (fun x => h62 x.2), if_neg (by unfold isMrk; rw [decide_eq_true_iff]; omega)])
  have e1 : letterB ((byteAt s k).toNat : Int) = false := hl
  have hdig := fun W => cdig_any W ((byteAt s k).toNat : Int)
  have e2 : digitB ((byteAt s k).toNat : Int) = false := hd
  rw [e1] at hlet
  rw [e2] at hdig
  have hpk1 := fun W R => rpeek1_any w0 W P s k ts R (by omega) (by omega)
  have hdig1 := fun W => cdig_any W ((byteAt s (k + 1)).toNat : Int)
  have h256 := (byteAt s (k + 1)).toNat_lt
  have e3 : digitB ((byteAt s (k + 1)).toNat : Int) = false := hd1
  have e62 : (((byteAt s (k + 1)).toNat : Int) == 62) = false := b_no (k := 62) h62
  rw [e3] at hdig1



  have f123 : (((byteAt s k).toNat : Int) == 123) = false := b_no (k := 123) (by omega)
  have f125 : (((byteAt s k).toNat : Int) == 125) = false := b_no (k := 125) (by omega)
  have f61 : (((byteAt s k).toNat : Int) == 61) = false := b_no (k := 61) (by omega)
  have f59 : (((byteAt s k).toNat : Int) == 59) = false := b_no (k := 59) (by omega)
  have f46 : (((byteAt s k).toNat : Int) == 46) = false := b_no (k := 46) (by omega)
  obtain ⟨b, hbb⟩ : ∃ b : Int, ((byteAt s k).toNat : Int) = b := ⟨_, rfl⟩
  obtain ⟨b1, hbb1⟩ : ∃ b1 : Int, ((byteAt s (k + 1)).toNat : Int) = b1 := ⟨_, rfl⟩
  rw [hbb] at hpk hlet hdig e45 f123 f125 f61 f59 f46
  rw [hbb1] at hpk1 hdig1 e62
  clear hbb hbb1 hdr hlen hl hd e1 e2 e3 h45 hd1 h62 h255 h256
  go_enter Tryz.func90, Tryz.ntmps90
  obtain ⟨_, c1, _, _, hB⟩ := h.cells
  go_wp2_with fail
  refine hpk.mono ?_
  rintro e w2 ⟨rfl, n2⟩
  have hR2 := h.new n2
  clear hpk h c1
  go_wp2_with fail
  refine (hlet _).mono ?_
  rintro e w3 ⟨rfl, rfl⟩
  go_wp2_with fail
  refine (hdig _).mono ?_
  rintro e w4 ⟨rfl, rfl⟩
  go_wp2_with fail
  refine (hpk1 _ hR2).mono ?_
  rintro e w5 ⟨rfl, n5⟩
  have hR5 := hR2.new n5
  clear hR2
  go_wp2_with fail
  refine (hdig1 _).mono ?_
  rintro e w7 ⟨rfl, rfl⟩
  go_wp2_with fail
  refine (hpk1 _ hR5).mono ?_
  rintro e w8 ⟨rfl, n8⟩
  have hR8 := hR5.new n8
  clear hR5 hpk1 hdig hdig1 hlet
  have HR8 := Lib.hid hR8
  clear hR8
  go_wp2_with fail
  rw [HPO.out]
  exact ans_bad HT.out HR8.out
set_option maxRecDepth 100000 in
set_option maxHeartbeats 4000000 in
theorem ctok_byte (w0 w : World) (P : Nat) (s : ByteArray) (k : Nat) (ts : List LTok) (h : Rd w0 w P s k ts) (he : Env w0) (hk : k < s.size) (hs : s.size ≤ 1048576) (hn : ts.length ≤ 1048576)
    (hl : isLet (byteAt s k) = false) (hd : isDig (byteAt s k) = false) (h45 : (byteAt s k).toNat ≠ 45) (hm : isMrk (byteAt s k) = false) :
    Calls Tryz.prog 90 #[.pointer (some ⟨P, 0, none⟩)] w (TokAns w0 P s k ts) := by
  obtain ⟨PO, hPO⟩ : ∃ PO, PO = TokAns w0 P s k ts := ⟨_, rfl⟩
  rw [← hPO]
  have HPO := Lib.hid hPO
  have hdr := dropAt' s k hk
  have hpk := rpeek0_any w0 w P s k ts h (by omega) (by omega)
  have hlet := fun W => clet_any W ((byteAt s k).toNat : Int)
  have hlen := toList_len s
  have h255 := (byteAt s k).toNat_lt
  clear hPO
  have HT : Hid (tokR (s.data.toList.drop k) = .bad 40) := Lib.hid (by
    have hn1 : ¬ (isDig (byteAt s k) = true ∨ ((byteAt s k).toNat = 45 ∧ isDig ((s.data.toList.drop (k + 1)).headD 0) = true)) := by
      rintro (x | ⟨x, _⟩)
      · rw [hd] at x; cases x
      · exact h45 x
    rw [hdr, tokR_cons, if_neg (by rw [hl]; simp), if_neg hn1, if_neg (fun x => h45 x.1)]
    rw [if_neg (by rw [hm]; simp)])
  unfold isMrk at hm
  rw [decide_eq_false_iff_not] at hm
  have e45 : (((byteAt s k).toNat : Int) == 45) = false := b_no (k := 45) h45
  have f123 : (((byteAt s k).toNat : Int) == 123) = false := b_no (k := 123) (by omega)
  have f125 : (((byteAt s k).toNat : Int) == 125) = false := b_no (k := 125) (by omega)
  have f61 : (((byteAt s k).toNat : Int) == 61) = false := b_no (k := 61) (by omega)
  have f59 : (((byteAt s k).toNat : Int) == 59) = false := b_no (k := 59) (by omega)
  have f46 : (((byteAt s k).toNat : Int) == 46) = false := b_no (k := 46) (by omega)
  have e1 : letterB ((byteAt s k).toNat : Int) = false := hl
  have hdig := fun W => cdig_any W ((byteAt s k).toNat : Int)
  have e2 : digitB ((byteAt s k).toNat : Int) = false := hd
  rw [e1] at hlet
  rw [e2] at hdig
  obtain ⟨b, hbb⟩ : ∃ b : Int, ((byteAt s k).toNat : Int) = b := ⟨_, rfl⟩
  rw [hbb] at hpk hlet hdig e45 f123 f125 f61 f59 f46
  clear hbb hdr hlen hl hd e1 e2 h45 hm h255
  go_enter Tryz.func90, Tryz.ntmps90
  obtain ⟨_, c1, _, _, hB⟩ := h.cells
  go_wp2_with fail
  refine hpk.mono ?_
  rintro e w2 ⟨rfl, n2⟩
  have hR2 := h.new n2
  clear hpk h c1
  go_wp2_with fail
  refine (hlet _).mono ?_
  rintro e w3 ⟨rfl, rfl⟩
  have HR2 := Lib.hid hR2
  clear hR2
  go_wp2_with fail
  refine (hdig _).mono ?_
  rintro e w4 ⟨rfl, rfl⟩
  go_wp2_with fail
  rw [HPO.out]
  exact ans_bad HT.out HR2.out
set_option maxRecDepth 100000 in
set_option maxHeartbeats 4000000 in
theorem ctok_m123 (w0 w : World) (P : Nat) (s : ByteArray) (k : Nat) (ts : List LTok) (h : Rd w0 w P s k ts) (he : Env w0) (hk : k < s.size) (hs : s.size ≤ 1048576) (hn : ts.length ≤ 1048576)
    (hm : (byteAt s k).toNat = 123) :
    Calls Tryz.prog 90 #[.pointer (some ⟨P, 0, none⟩)] w (TokAns w0 P s k ts) := by
  obtain ⟨PO, hPO⟩ : ∃ PO, PO = TokAns w0 P s k ts := ⟨_, rfl⟩
  rw [← hPO]
  have HPO := Lib.hid hPO
  have hdr := dropAt' s k hk
  have hpk := rpeek0_any w0 w P s k ts h (by omega) (by omega)
  have hlet := fun W => clet_any W ((byteAt s k).toNat : Int)
  have hlen := toList_len s
  have h255 := (byteAt s k).toNat_lt
  clear hPO
  have h45 : (byteAt s k).toNat ≠ 45 := by omega
  have hl : isLet (byteAt s k) = false := by
    cases e : isLet (byteAt s k) with
    | false => rfl
    | true => have := (isLet_iff _).1 e; omega
  have hd : isDig (byteAt s k) = false := by
    cases e : isDig (byteAt s k) with
    | false => rfl
    | true => have := (isDig_iff _).1 e; omega
  have HT : Hid (tokR (s.data.toList.drop k) = .good 3 [byteAt s k] 0 1) := Lib.hid (by
    have hn1 : ¬ (isDig (byteAt s k) = true ∨ ((byteAt s k).toNat = 45 ∧ isDig ((s.data.toList.drop (k + 1)).headD 0) = true)) := by
      rintro (x | ⟨x, _⟩)
      · rw [hd] at x; cases x
      · exact h45 x
    rw [hdr, tokR_cons, if_neg (by rw [hl]; simp), if_neg hn1, if_neg (fun x => h45 x.1)]
    rw [if_pos (by unfold isMrk; rw [decide_eq_true_iff]; omega)])
  have e45 : (((byteAt s k).toNat : Int) == 45) = false := b_no (k := 45) h45
  have f123 : (((byteAt s k).toNat : Int) == 123) = true := b_yes (k := 123) (by omega)
  obtain ⟨Wd, hWd⟩ : ∃ Wd, s.extract k (k + 1) = Wd := ⟨_, rfl⟩
  have hWe : (⟨[byteAt s k].toArray⟩ : ByteArray) = Wd := by
    apply ByteArray.ext
    apply Array.toList_inj.1
    rw [← hWd, extract_take, hdr]
    rfl
  have hput := fun W (k1 : Nat) R => cput_any w0 W P s k1 ts R 3 [byteAt s k] 0 k (by omega)
  rw [hWe] at hput
  have HW := Lib.hid hWd
  have e1 : letterB ((byteAt s k).toNat : Int) = false := hl
  have hdig := fun W => cdig_any W ((byteAt s k).toNat : Int)
  have e2 : digitB ((byteAt s k).toNat : Int) = false := hd
  rw [e1] at hlet
  rw [e2] at hdig
  obtain ⟨b, hbb⟩ : ∃ b : Int, ((byteAt s k).toNat : Int) = b := ⟨_, rfl⟩
  rw [hbb] at hpk hlet hdig e45 f123
  clear hbb hdr hlen hl hd e1 e2 h45 hm h255 hWd hWe
  go_enter Tryz.func90, Tryz.ntmps90
  obtain ⟨_, c1, _, _, hB⟩ := h.cells
  go_wp2_with fail
  refine hpk.mono ?_
  rintro e w2 ⟨rfl, n2⟩
  have hR2 := h.new n2
  clear hpk h c1
  go_wp2_with fail
  refine (hlet _).mono ?_
  rintro e w3 ⟨rfl, rfl⟩
  obtain ⟨_, y0, y1, _, hB2⟩ := hR2.cells
  have HR3 := Lib.hid (hR2.go (k + 1))
  clear hR2
  go_wp2_with fail
  refine (hdig _).mono ?_
  rintro e w4 ⟨rfl, rfl⟩
  go_wp2_with fail
  obtain ⟨W3, hW3⟩ : ∃ W3, w4.setCell ⟨P, 1, none⟩ (I ((k + 1 : Nat) : Int)) = W3 := ⟨_, rfl⟩
  have hR3 := HR3.out
  rw [hW3] at hR3
  have hxx : w4.setCell ⟨P, 1, none⟩ (I ((k : Int) + 1)) = W3 := hW3
  rw [hxx]
  obtain ⟨x0, x1, _, _, hB3⟩ := hR3.cells
  have hkI : (k : Int) < (s.size : Int) := by omega
  have hSX : (fun w' : World => w'.cell? ⟨P, 0, none⟩ = some (.string s) ∧ w'.cell? ⟨P, 1, none⟩ = some (I ((k + 1 : Nat) : Int))) W3.drew := ⟨New.cell ((New.refl W3).drew) x0, New.cell ((New.refl W3).drew) x1⟩
  refine wp_region_X (fun w' : World => w'.cell? ⟨P, 0, none⟩ = some (.string s) ∧ w'.cell? ⟨P, 1, none⟩ = some (I ((k + 1 : Nat) : Int))) [14, 15] (by kernel_rfl) hSX ?_
  refine anyX_tk 0 hSX ?_
  refine anyX_tk 1 hSX ?_
  refine anyX_tk 2 hSX ?_
  refine anyX_tk 3 hSX ?_
  refine anyX_tk 4 hSX ?_
  refine anyX_tk 5 hSX ?_
  refine anyX_tk 6 hSX ?_
  refine anyX_tk 7 hSX ?_
  refine anyX_tk 8 hSX ?_
  refine anyX_tk 9 hSX ?_
  refine anyX_tk 10 hSX ?_
  refine anyX_tk 11 hSX ?_
  refine anyX_take 12 (by kernel_rfl) (by kernel_rfl) (by kernel_rfl) (by kernel_rfl) (by kernel_rfl) hSX ?_
  intro oi ho; simp only [List.getElem?_toArray, List.getElem?_cons_succ, List.getElem?_cons_zero, Option.some.injEq] at ho; subst ho
  refine ⟨.string Wd, fun _ _ _ h => h, Or.inl ⟨by rfl, ?_⟩, ?_⟩
  · (intro wS hSw; (try dsimp only at hSw); go_simp; rw [if_pos ⟨by omega, by omega⟩, if_pos (by omega), HW.out])
  simp only [Act.put, List.setIfInBounds_toArray, List.set_cons_zero, List.set_cons_succ]
  refine anyX_tk 13 hSX ?_
  refine anyX_one 14 (by kernel_rfl) ?_
  intro oi ho; simp only [List.getElem?_toArray, List.getElem?_cons_succ, List.getElem?_cons_zero, Option.some.injEq] at ho; subst ho; intro K hK
  (try simp only [Act.put, List.setIfInBounds_toArray, List.set_cons_zero, List.set_cons_succ])
  go_simp
  refine (hput _ _ (hR3.new ((New.refl W3).drew))).mono ?_
  rintro e w5 ⟨rfl, hR5⟩
  refine hK _ _ (fun h => by cases h) ?_
  clear hK K
  refine anyX_one 15 (by kernel_rfl) ?_
  intro oi ho; simp only [List.getElem?_toArray, List.getElem?_cons_succ, List.getElem?_cons_zero, Option.some.injEq] at ho; subst ho; intro K hK
  (try simp only [Act.put, List.setIfInBounds_toArray, List.set_cons_zero, List.set_cons_succ])
  go_simp
  refine hK _ _ (fun h => by cases h) ?_
  clear hK K
  refine anyX_done (by kernel_rfl) ?_
  (try simp only [Act.put, List.setIfInBounds_toArray, List.set_cons_zero, List.set_cons_succ])
  have HR5 := Lib.hid hR5
  clear hR5 hR3
  simp only [Exit.then]
  go_wp2_with fail
  rw [HPO.out]
  exact ans_good HT.out HR5.out
set_option maxRecDepth 100000 in
set_option maxHeartbeats 4000000 in
theorem ctok_m125 (w0 w : World) (P : Nat) (s : ByteArray) (k : Nat) (ts : List LTok) (h : Rd w0 w P s k ts) (he : Env w0) (hk : k < s.size) (hs : s.size ≤ 1048576) (hn : ts.length ≤ 1048576)
    (hm : (byteAt s k).toNat = 125) :
    Calls Tryz.prog 90 #[.pointer (some ⟨P, 0, none⟩)] w (TokAns w0 P s k ts) := by
  obtain ⟨PO, hPO⟩ : ∃ PO, PO = TokAns w0 P s k ts := ⟨_, rfl⟩
  rw [← hPO]
  have HPO := Lib.hid hPO
  have hdr := dropAt' s k hk
  have hpk := rpeek0_any w0 w P s k ts h (by omega) (by omega)
  have hlet := fun W => clet_any W ((byteAt s k).toNat : Int)
  have hlen := toList_len s
  have h255 := (byteAt s k).toNat_lt
  clear hPO
  have h45 : (byteAt s k).toNat ≠ 45 := by omega
  have hl : isLet (byteAt s k) = false := by
    cases e : isLet (byteAt s k) with
    | false => rfl
    | true => have := (isLet_iff _).1 e; omega
  have hd : isDig (byteAt s k) = false := by
    cases e : isDig (byteAt s k) with
    | false => rfl
    | true => have := (isDig_iff _).1 e; omega
  have HT : Hid (tokR (s.data.toList.drop k) = .good 3 [byteAt s k] 0 1) := Lib.hid (by
    have hn1 : ¬ (isDig (byteAt s k) = true ∨ ((byteAt s k).toNat = 45 ∧ isDig ((s.data.toList.drop (k + 1)).headD 0) = true)) := by
      rintro (x | ⟨x, _⟩)
      · rw [hd] at x; cases x
      · exact h45 x
    rw [hdr, tokR_cons, if_neg (by rw [hl]; simp), if_neg hn1, if_neg (fun x => h45 x.1)]
    rw [if_pos (by unfold isMrk; rw [decide_eq_true_iff]; omega)])
  have e45 : (((byteAt s k).toNat : Int) == 45) = false := b_no (k := 45) h45
  have f123 : (((byteAt s k).toNat : Int) == 123) = false := b_no (k := 123) (by omega)
  have f125 : (((byteAt s k).toNat : Int) == 125) = true := b_yes (k := 125) (by omega)
  obtain ⟨Wd, hWd⟩ : ∃ Wd, s.extract k (k + 1) = Wd := ⟨_, rfl⟩
  have hWe : (⟨[byteAt s k].toArray⟩ : ByteArray) = Wd := by
    apply ByteArray.ext
    apply Array.toList_inj.1
    rw [← hWd, extract_take, hdr]
    rfl
  have hput := fun W (k1 : Nat) R => cput_any w0 W P s k1 ts R 3 [byteAt s k] 0 k (by omega)
  rw [hWe] at hput
  have HW := Lib.hid hWd
  have e1 : letterB ((byteAt s k).toNat : Int) = false := hl
  have hdig := fun W => cdig_any W ((byteAt s k).toNat : Int)
  have e2 : digitB ((byteAt s k).toNat : Int) = false := hd
  rw [e1] at hlet
  rw [e2] at hdig
  obtain ⟨b, hbb⟩ : ∃ b : Int, ((byteAt s k).toNat : Int) = b := ⟨_, rfl⟩
  rw [hbb] at hpk hlet hdig e45 f123 f125
  clear hbb hdr hlen hl hd e1 e2 h45 hm h255 hWd hWe
  go_enter Tryz.func90, Tryz.ntmps90
  obtain ⟨_, c1, _, _, hB⟩ := h.cells
  go_wp2_with fail
  refine hpk.mono ?_
  rintro e w2 ⟨rfl, n2⟩
  have hR2 := h.new n2
  clear hpk h c1
  go_wp2_with fail
  refine (hlet _).mono ?_
  rintro e w3 ⟨rfl, rfl⟩
  obtain ⟨_, y0, y1, _, hB2⟩ := hR2.cells
  have HR3 := Lib.hid (hR2.go (k + 1))
  clear hR2
  go_wp2_with fail
  refine (hdig _).mono ?_
  rintro e w4 ⟨rfl, rfl⟩
  go_wp2_with fail
  obtain ⟨W3, hW3⟩ : ∃ W3, w4.setCell ⟨P, 1, none⟩ (I ((k + 1 : Nat) : Int)) = W3 := ⟨_, rfl⟩
  have hR3 := HR3.out
  rw [hW3] at hR3
  have hxx : w4.setCell ⟨P, 1, none⟩ (I ((k : Int) + 1)) = W3 := hW3
  rw [hxx]
  obtain ⟨x0, x1, _, _, hB3⟩ := hR3.cells
  have hkI : (k : Int) < (s.size : Int) := by omega
  have hSX : (fun w' : World => w'.cell? ⟨P, 0, none⟩ = some (.string s) ∧ w'.cell? ⟨P, 1, none⟩ = some (I ((k + 1 : Nat) : Int))) W3.drew := ⟨New.cell ((New.refl W3).drew) x0, New.cell ((New.refl W3).drew) x1⟩
  refine wp_region_X (fun w' : World => w'.cell? ⟨P, 0, none⟩ = some (.string s) ∧ w'.cell? ⟨P, 1, none⟩ = some (I ((k + 1 : Nat) : Int))) [14, 15] (by kernel_rfl) hSX ?_
  refine anyX_tk 0 hSX ?_
  refine anyX_tk 1 hSX ?_
  refine anyX_tk 2 hSX ?_
  refine anyX_tk 3 hSX ?_
  refine anyX_tk 4 hSX ?_
  refine anyX_tk 5 hSX ?_
  refine anyX_tk 6 hSX ?_
  refine anyX_tk 7 hSX ?_
  refine anyX_tk 8 hSX ?_
  refine anyX_tk 9 hSX ?_
  refine anyX_tk 10 hSX ?_
  refine anyX_tk 11 hSX ?_
  refine anyX_take 12 (by kernel_rfl) (by kernel_rfl) (by kernel_rfl) (by kernel_rfl) (by kernel_rfl) hSX ?_
  intro oi ho; simp only [List.getElem?_toArray, List.getElem?_cons_succ, List.getElem?_cons_zero, Option.some.injEq] at ho; subst ho
  refine ⟨.string Wd, fun _ _ _ h => h, Or.inl ⟨by rfl, ?_⟩, ?_⟩
  · (intro wS hSw; (try dsimp only at hSw); go_simp; rw [if_pos ⟨by omega, by omega⟩, if_pos (by omega), HW.out])
  simp only [Act.put, List.setIfInBounds_toArray, List.set_cons_zero, List.set_cons_succ]
  refine anyX_tk 13 hSX ?_
  refine anyX_one 14 (by kernel_rfl) ?_
  intro oi ho; simp only [List.getElem?_toArray, List.getElem?_cons_succ, List.getElem?_cons_zero, Option.some.injEq] at ho; subst ho; intro K hK
  (try simp only [Act.put, List.setIfInBounds_toArray, List.set_cons_zero, List.set_cons_succ])
  go_simp
  refine (hput _ _ (hR3.new ((New.refl W3).drew))).mono ?_
  rintro e w5 ⟨rfl, hR5⟩
  refine hK _ _ (fun h => by cases h) ?_
  clear hK K
  refine anyX_one 15 (by kernel_rfl) ?_
  intro oi ho; simp only [List.getElem?_toArray, List.getElem?_cons_succ, List.getElem?_cons_zero, Option.some.injEq] at ho; subst ho; intro K hK
  (try simp only [Act.put, List.setIfInBounds_toArray, List.set_cons_zero, List.set_cons_succ])
  go_simp
  refine hK _ _ (fun h => by cases h) ?_
  clear hK K
  refine anyX_done (by kernel_rfl) ?_
  (try simp only [Act.put, List.setIfInBounds_toArray, List.set_cons_zero, List.set_cons_succ])
  have HR5 := Lib.hid hR5
  clear hR5 hR3
  simp only [Exit.then]
  go_wp2_with fail
  rw [HPO.out]
  exact ans_good HT.out HR5.out
set_option maxRecDepth 100000 in
set_option maxHeartbeats 4000000 in
theorem ctok_m61 (w0 w : World) (P : Nat) (s : ByteArray) (k : Nat) (ts : List LTok) (h : Rd w0 w P s k ts) (he : Env w0) (hk : k < s.size) (hs : s.size ≤ 1048576) (hn : ts.length ≤ 1048576)
    (hm : (byteAt s k).toNat = 61) :
    Calls Tryz.prog 90 #[.pointer (some ⟨P, 0, none⟩)] w (TokAns w0 P s k ts) := by
  obtain ⟨PO, hPO⟩ : ∃ PO, PO = TokAns w0 P s k ts := ⟨_, rfl⟩
  rw [← hPO]
  have HPO := Lib.hid hPO
  have hdr := dropAt' s k hk
  have hpk := rpeek0_any w0 w P s k ts h (by omega) (by omega)
  have hlet := fun W => clet_any W ((byteAt s k).toNat : Int)
  have hlen := toList_len s
  have h255 := (byteAt s k).toNat_lt
  clear hPO
  have h45 : (byteAt s k).toNat ≠ 45 := by omega
  have hl : isLet (byteAt s k) = false := by
    cases e : isLet (byteAt s k) with
    | false => rfl
    | true => have := (isLet_iff _).1 e; omega
  have hd : isDig (byteAt s k) = false := by
    cases e : isDig (byteAt s k) with
    | false => rfl
    | true => have := (isDig_iff _).1 e; omega
  have HT : Hid (tokR (s.data.toList.drop k) = .good 3 [byteAt s k] 0 1) := Lib.hid (by
    have hn1 : ¬ (isDig (byteAt s k) = true ∨ ((byteAt s k).toNat = 45 ∧ isDig ((s.data.toList.drop (k + 1)).headD 0) = true)) := by
      rintro (x | ⟨x, _⟩)
      · rw [hd] at x; cases x
      · exact h45 x
    rw [hdr, tokR_cons, if_neg (by rw [hl]; simp), if_neg hn1, if_neg (fun x => h45 x.1)]
    rw [if_pos (by unfold isMrk; rw [decide_eq_true_iff]; omega)])
  have e45 : (((byteAt s k).toNat : Int) == 45) = false := b_no (k := 45) h45
  have f123 : (((byteAt s k).toNat : Int) == 123) = false := b_no (k := 123) (by omega)
  have f125 : (((byteAt s k).toNat : Int) == 125) = false := b_no (k := 125) (by omega)
  have f61 : (((byteAt s k).toNat : Int) == 61) = true := b_yes (k := 61) (by omega)
  obtain ⟨Wd, hWd⟩ : ∃ Wd, s.extract k (k + 1) = Wd := ⟨_, rfl⟩
  have hWe : (⟨[byteAt s k].toArray⟩ : ByteArray) = Wd := by
    apply ByteArray.ext
    apply Array.toList_inj.1
    rw [← hWd, extract_take, hdr]
    rfl
  have hput := fun W (k1 : Nat) R => cput_any w0 W P s k1 ts R 3 [byteAt s k] 0 k (by omega)
  rw [hWe] at hput
  have HW := Lib.hid hWd
  have e1 : letterB ((byteAt s k).toNat : Int) = false := hl
  have hdig := fun W => cdig_any W ((byteAt s k).toNat : Int)
  have e2 : digitB ((byteAt s k).toNat : Int) = false := hd
  rw [e1] at hlet
  rw [e2] at hdig
  obtain ⟨b, hbb⟩ : ∃ b : Int, ((byteAt s k).toNat : Int) = b := ⟨_, rfl⟩
  rw [hbb] at hpk hlet hdig e45 f123 f125 f61
  clear hbb hdr hlen hl hd e1 e2 h45 hm h255 hWd hWe
  go_enter Tryz.func90, Tryz.ntmps90
  obtain ⟨_, c1, _, _, hB⟩ := h.cells
  go_wp2_with fail
  refine hpk.mono ?_
  rintro e w2 ⟨rfl, n2⟩
  have hR2 := h.new n2
  clear hpk h c1
  go_wp2_with fail
  refine (hlet _).mono ?_
  rintro e w3 ⟨rfl, rfl⟩
  obtain ⟨_, y0, y1, _, hB2⟩ := hR2.cells
  have HR3 := Lib.hid (hR2.go (k + 1))
  clear hR2
  go_wp2_with fail
  refine (hdig _).mono ?_
  rintro e w4 ⟨rfl, rfl⟩
  go_wp2_with fail
  obtain ⟨W3, hW3⟩ : ∃ W3, w4.setCell ⟨P, 1, none⟩ (I ((k + 1 : Nat) : Int)) = W3 := ⟨_, rfl⟩
  have hR3 := HR3.out
  rw [hW3] at hR3
  have hxx : w4.setCell ⟨P, 1, none⟩ (I ((k : Int) + 1)) = W3 := hW3
  rw [hxx]
  obtain ⟨x0, x1, _, _, hB3⟩ := hR3.cells
  have hkI : (k : Int) < (s.size : Int) := by omega
  have hSX : (fun w' : World => w'.cell? ⟨P, 0, none⟩ = some (.string s) ∧ w'.cell? ⟨P, 1, none⟩ = some (I ((k + 1 : Nat) : Int))) W3.drew := ⟨New.cell ((New.refl W3).drew) x0, New.cell ((New.refl W3).drew) x1⟩
  refine wp_region_X (fun w' : World => w'.cell? ⟨P, 0, none⟩ = some (.string s) ∧ w'.cell? ⟨P, 1, none⟩ = some (I ((k + 1 : Nat) : Int))) [14, 15] (by kernel_rfl) hSX ?_
  refine anyX_tk 0 hSX ?_
  refine anyX_tk 1 hSX ?_
  refine anyX_tk 2 hSX ?_
  refine anyX_tk 3 hSX ?_
  refine anyX_tk 4 hSX ?_
  refine anyX_tk 5 hSX ?_
  refine anyX_tk 6 hSX ?_
  refine anyX_tk 7 hSX ?_
  refine anyX_tk 8 hSX ?_
  refine anyX_tk 9 hSX ?_
  refine anyX_tk 10 hSX ?_
  refine anyX_tk 11 hSX ?_
  refine anyX_take 12 (by kernel_rfl) (by kernel_rfl) (by kernel_rfl) (by kernel_rfl) (by kernel_rfl) hSX ?_
  intro oi ho; simp only [List.getElem?_toArray, List.getElem?_cons_succ, List.getElem?_cons_zero, Option.some.injEq] at ho; subst ho
  refine ⟨.string Wd, fun _ _ _ h => h, Or.inl ⟨by rfl, ?_⟩, ?_⟩
  · (intro wS hSw; (try dsimp only at hSw); go_simp; rw [if_pos ⟨by omega, by omega⟩, if_pos (by omega), HW.out])
  simp only [Act.put, List.setIfInBounds_toArray, List.set_cons_zero, List.set_cons_succ]
  refine anyX_tk 13 hSX ?_
  refine anyX_one 14 (by kernel_rfl) ?_
  intro oi ho; simp only [List.getElem?_toArray, List.getElem?_cons_succ, List.getElem?_cons_zero, Option.some.injEq] at ho; subst ho; intro K hK
  (try simp only [Act.put, List.setIfInBounds_toArray, List.set_cons_zero, List.set_cons_succ])
  go_simp
  refine (hput _ _ (hR3.new ((New.refl W3).drew))).mono ?_
  rintro e w5 ⟨rfl, hR5⟩
  refine hK _ _ (fun h => by cases h) ?_
  clear hK K
  refine anyX_one 15 (by kernel_rfl) ?_
  intro oi ho; simp only [List.getElem?_toArray, List.getElem?_cons_succ, List.getElem?_cons_zero, Option.some.injEq] at ho; subst ho; intro K hK
  (try simp only [Act.put, List.setIfInBounds_toArray, List.set_cons_zero, List.set_cons_succ])
  go_simp
  refine hK _ _ (fun h => by cases h) ?_
  clear hK K
  refine anyX_done (by kernel_rfl) ?_
  (try simp only [Act.put, List.setIfInBounds_toArray, List.set_cons_zero, List.set_cons_succ])
  have HR5 := Lib.hid hR5
  clear hR5 hR3
  simp only [Exit.then]
  go_wp2_with fail
  rw [HPO.out]
  exact ans_good HT.out HR5.out
set_option maxRecDepth 100000 in
set_option maxHeartbeats 4000000 in
theorem ctok_m59 (w0 w : World) (P : Nat) (s : ByteArray) (k : Nat) (ts : List LTok) (h : Rd w0 w P s k ts) (he : Env w0) (hk : k < s.size) (hs : s.size ≤ 1048576) (hn : ts.length ≤ 1048576)
    (hm : (byteAt s k).toNat = 59) :
    Calls Tryz.prog 90 #[.pointer (some ⟨P, 0, none⟩)] w (TokAns w0 P s k ts) := by
  obtain ⟨PO, hPO⟩ : ∃ PO, PO = TokAns w0 P s k ts := ⟨_, rfl⟩
  rw [← hPO]
  have HPO := Lib.hid hPO
  have hdr := dropAt' s k hk
  have hpk := rpeek0_any w0 w P s k ts h (by omega) (by omega)
  have hlet := fun W => clet_any W ((byteAt s k).toNat : Int)
  have hlen := toList_len s
  have h255 := (byteAt s k).toNat_lt
  clear hPO
  have h45 : (byteAt s k).toNat ≠ 45 := by omega
  have hl : isLet (byteAt s k) = false := by
    cases e : isLet (byteAt s k) with
    | false => rfl
    | true => have := (isLet_iff _).1 e; omega
  have hd : isDig (byteAt s k) = false := by
    cases e : isDig (byteAt s k) with
    | false => rfl
    | true => have := (isDig_iff _).1 e; omega
  have HT : Hid (tokR (s.data.toList.drop k) = .good 3 [byteAt s k] 0 1) := Lib.hid (by
    have hn1 : ¬ (isDig (byteAt s k) = true ∨ ((byteAt s k).toNat = 45 ∧ isDig ((s.data.toList.drop (k + 1)).headD 0) = true)) := by
      rintro (x | ⟨x, _⟩)
      · rw [hd] at x; cases x
      · exact h45 x
    rw [hdr, tokR_cons, if_neg (by rw [hl]; simp), if_neg hn1, if_neg (fun x => h45 x.1)]
    rw [if_pos (by unfold isMrk; rw [decide_eq_true_iff]; omega)])
  have e45 : (((byteAt s k).toNat : Int) == 45) = false := b_no (k := 45) h45
  have f123 : (((byteAt s k).toNat : Int) == 123) = false := b_no (k := 123) (by omega)
  have f125 : (((byteAt s k).toNat : Int) == 125) = false := b_no (k := 125) (by omega)
  have f61 : (((byteAt s k).toNat : Int) == 61) = false := b_no (k := 61) (by omega)
  have f59 : (((byteAt s k).toNat : Int) == 59) = true := b_yes (k := 59) (by omega)
  obtain ⟨Wd, hWd⟩ : ∃ Wd, s.extract k (k + 1) = Wd := ⟨_, rfl⟩
  have hWe : (⟨[byteAt s k].toArray⟩ : ByteArray) = Wd := by
    apply ByteArray.ext
    apply Array.toList_inj.1
    rw [← hWd, extract_take, hdr]
    rfl
  have hput := fun W (k1 : Nat) R => cput_any w0 W P s k1 ts R 3 [byteAt s k] 0 k (by omega)
  rw [hWe] at hput
  have HW := Lib.hid hWd
  have e1 : letterB ((byteAt s k).toNat : Int) = false := hl
  have hdig := fun W => cdig_any W ((byteAt s k).toNat : Int)
  have e2 : digitB ((byteAt s k).toNat : Int) = false := hd
  rw [e1] at hlet
  rw [e2] at hdig
  obtain ⟨b, hbb⟩ : ∃ b : Int, ((byteAt s k).toNat : Int) = b := ⟨_, rfl⟩
  rw [hbb] at hpk hlet hdig e45 f123 f125 f61 f59
  clear hbb hdr hlen hl hd e1 e2 h45 hm h255 hWd hWe
  go_enter Tryz.func90, Tryz.ntmps90
  obtain ⟨_, c1, _, _, hB⟩ := h.cells
  go_wp2_with fail
  refine hpk.mono ?_
  rintro e w2 ⟨rfl, n2⟩
  have hR2 := h.new n2
  clear hpk h c1
  go_wp2_with fail
  refine (hlet _).mono ?_
  rintro e w3 ⟨rfl, rfl⟩
  obtain ⟨_, y0, y1, _, hB2⟩ := hR2.cells
  have HR3 := Lib.hid (hR2.go (k + 1))
  clear hR2
  go_wp2_with fail
  refine (hdig _).mono ?_
  rintro e w4 ⟨rfl, rfl⟩
  go_wp2_with fail
  obtain ⟨W3, hW3⟩ : ∃ W3, w4.setCell ⟨P, 1, none⟩ (I ((k + 1 : Nat) : Int)) = W3 := ⟨_, rfl⟩
  have hR3 := HR3.out
  rw [hW3] at hR3
  have hxx : w4.setCell ⟨P, 1, none⟩ (I ((k : Int) + 1)) = W3 := hW3
  rw [hxx]
  obtain ⟨x0, x1, _, _, hB3⟩ := hR3.cells
  have hkI : (k : Int) < (s.size : Int) := by omega
  have hSX : (fun w' : World => w'.cell? ⟨P, 0, none⟩ = some (.string s) ∧ w'.cell? ⟨P, 1, none⟩ = some (I ((k + 1 : Nat) : Int))) W3.drew := ⟨New.cell ((New.refl W3).drew) x0, New.cell ((New.refl W3).drew) x1⟩
  refine wp_region_X (fun w' : World => w'.cell? ⟨P, 0, none⟩ = some (.string s) ∧ w'.cell? ⟨P, 1, none⟩ = some (I ((k + 1 : Nat) : Int))) [14, 15] (by kernel_rfl) hSX ?_
  refine anyX_tk 0 hSX ?_
  refine anyX_tk 1 hSX ?_
  refine anyX_tk 2 hSX ?_
  refine anyX_tk 3 hSX ?_
  refine anyX_tk 4 hSX ?_
  refine anyX_tk 5 hSX ?_
  refine anyX_tk 6 hSX ?_
  refine anyX_tk 7 hSX ?_
  refine anyX_tk 8 hSX ?_
  refine anyX_tk 9 hSX ?_
  refine anyX_tk 10 hSX ?_
  refine anyX_tk 11 hSX ?_
  refine anyX_take 12 (by kernel_rfl) (by kernel_rfl) (by kernel_rfl) (by kernel_rfl) (by kernel_rfl) hSX ?_
  intro oi ho; simp only [List.getElem?_toArray, List.getElem?_cons_succ, List.getElem?_cons_zero, Option.some.injEq] at ho; subst ho
  refine ⟨.string Wd, fun _ _ _ h => h, Or.inl ⟨by rfl, ?_⟩, ?_⟩
  · (intro wS hSw; (try dsimp only at hSw); go_simp; rw [if_pos ⟨by omega, by omega⟩, if_pos (by omega), HW.out])
  simp only [Act.put, List.setIfInBounds_toArray, List.set_cons_zero, List.set_cons_succ]
  refine anyX_tk 13 hSX ?_
  refine anyX_one 14 (by kernel_rfl) ?_
  intro oi ho; simp only [List.getElem?_toArray, List.getElem?_cons_succ, List.getElem?_cons_zero, Option.some.injEq] at ho; subst ho; intro K hK
  (try simp only [Act.put, List.setIfInBounds_toArray, List.set_cons_zero, List.set_cons_succ])
  go_simp
  refine (hput _ _ (hR3.new ((New.refl W3).drew))).mono ?_
  rintro e w5 ⟨rfl, hR5⟩
  refine hK _ _ (fun h => by cases h) ?_
  clear hK K
  refine anyX_one 15 (by kernel_rfl) ?_
  intro oi ho; simp only [List.getElem?_toArray, List.getElem?_cons_succ, List.getElem?_cons_zero, Option.some.injEq] at ho; subst ho; intro K hK
  (try simp only [Act.put, List.setIfInBounds_toArray, List.set_cons_zero, List.set_cons_succ])
  go_simp
  refine hK _ _ (fun h => by cases h) ?_
  clear hK K
  refine anyX_done (by kernel_rfl) ?_
  (try simp only [Act.put, List.setIfInBounds_toArray, List.set_cons_zero, List.set_cons_succ])
  have HR5 := Lib.hid hR5
  clear hR5 hR3
  simp only [Exit.then]
  go_wp2_with fail
  rw [HPO.out]
  exact ans_good HT.out HR5.out
set_option maxRecDepth 100000 in
set_option maxHeartbeats 4000000 in
theorem ctok_m46 (w0 w : World) (P : Nat) (s : ByteArray) (k : Nat) (ts : List LTok) (h : Rd w0 w P s k ts) (he : Env w0) (hk : k < s.size) (hs : s.size ≤ 1048576) (hn : ts.length ≤ 1048576)
    (hm : (byteAt s k).toNat = 46) :
    Calls Tryz.prog 90 #[.pointer (some ⟨P, 0, none⟩)] w (TokAns w0 P s k ts) := by
  obtain ⟨PO, hPO⟩ : ∃ PO, PO = TokAns w0 P s k ts := ⟨_, rfl⟩
  rw [← hPO]
  have HPO := Lib.hid hPO
  have hdr := dropAt' s k hk
  have hpk := rpeek0_any w0 w P s k ts h (by omega) (by omega)
  have hlet := fun W => clet_any W ((byteAt s k).toNat : Int)
  have hlen := toList_len s
  have h255 := (byteAt s k).toNat_lt
  clear hPO
  have h45 : (byteAt s k).toNat ≠ 45 := by omega
  have hl : isLet (byteAt s k) = false := by
    cases e : isLet (byteAt s k) with
    | false => rfl
    | true => have := (isLet_iff _).1 e; omega
  have hd : isDig (byteAt s k) = false := by
    cases e : isDig (byteAt s k) with
    | false => rfl
    | true => have := (isDig_iff _).1 e; omega
  have HT : Hid (tokR (s.data.toList.drop k) = .good 3 [byteAt s k] 0 1) := Lib.hid (by
    have hn1 : ¬ (isDig (byteAt s k) = true ∨ ((byteAt s k).toNat = 45 ∧ isDig ((s.data.toList.drop (k + 1)).headD 0) = true)) := by
      rintro (x | ⟨x, _⟩)
      · rw [hd] at x; cases x
      · exact h45 x
    rw [hdr, tokR_cons, if_neg (by rw [hl]; simp), if_neg hn1, if_neg (fun x => h45 x.1)]
    rw [if_pos (by unfold isMrk; rw [decide_eq_true_iff]; omega)])
  have e45 : (((byteAt s k).toNat : Int) == 45) = false := b_no (k := 45) h45
  have f123 : (((byteAt s k).toNat : Int) == 123) = false := b_no (k := 123) (by omega)
  have f125 : (((byteAt s k).toNat : Int) == 125) = false := b_no (k := 125) (by omega)
  have f61 : (((byteAt s k).toNat : Int) == 61) = false := b_no (k := 61) (by omega)
  have f59 : (((byteAt s k).toNat : Int) == 59) = false := b_no (k := 59) (by omega)
  have f46 : (((byteAt s k).toNat : Int) == 46) = true := b_yes (k := 46) (by omega)
  obtain ⟨Wd, hWd⟩ : ∃ Wd, s.extract k (k + 1) = Wd := ⟨_, rfl⟩
  have hWe : (⟨[byteAt s k].toArray⟩ : ByteArray) = Wd := by
    apply ByteArray.ext
    apply Array.toList_inj.1
    rw [← hWd, extract_take, hdr]
    rfl
  have hput := fun W (k1 : Nat) R => cput_any w0 W P s k1 ts R 3 [byteAt s k] 0 k (by omega)
  rw [hWe] at hput
  have HW := Lib.hid hWd
  have e1 : letterB ((byteAt s k).toNat : Int) = false := hl
  have hdig := fun W => cdig_any W ((byteAt s k).toNat : Int)
  have e2 : digitB ((byteAt s k).toNat : Int) = false := hd
  rw [e1] at hlet
  rw [e2] at hdig
  obtain ⟨b, hbb⟩ : ∃ b : Int, ((byteAt s k).toNat : Int) = b := ⟨_, rfl⟩
  rw [hbb] at hpk hlet hdig e45 f123 f125 f61 f59 f46
  clear hbb hdr hlen hl hd e1 e2 h45 hm h255 hWd hWe
  go_enter Tryz.func90, Tryz.ntmps90
  obtain ⟨_, c1, _, _, hB⟩ := h.cells
  go_wp2_with fail
  refine hpk.mono ?_
  rintro e w2 ⟨rfl, n2⟩
  have hR2 := h.new n2
  clear hpk h c1
  go_wp2_with fail
  refine (hlet _).mono ?_
  rintro e w3 ⟨rfl, rfl⟩
  obtain ⟨_, y0, y1, _, hB2⟩ := hR2.cells
  have HR3 := Lib.hid (hR2.go (k + 1))
  clear hR2
  go_wp2_with fail
  refine (hdig _).mono ?_
  rintro e w4 ⟨rfl, rfl⟩
  go_wp2_with fail
  obtain ⟨W3, hW3⟩ : ∃ W3, w4.setCell ⟨P, 1, none⟩ (I ((k + 1 : Nat) : Int)) = W3 := ⟨_, rfl⟩
  have hR3 := HR3.out
  rw [hW3] at hR3
  have hxx : w4.setCell ⟨P, 1, none⟩ (I ((k : Int) + 1)) = W3 := hW3
  rw [hxx]
  obtain ⟨x0, x1, _, _, hB3⟩ := hR3.cells
  have hkI : (k : Int) < (s.size : Int) := by omega
  have hSX : (fun w' : World => w'.cell? ⟨P, 0, none⟩ = some (.string s) ∧ w'.cell? ⟨P, 1, none⟩ = some (I ((k + 1 : Nat) : Int))) W3.drew := ⟨New.cell ((New.refl W3).drew) x0, New.cell ((New.refl W3).drew) x1⟩
  refine wp_region_X (fun w' : World => w'.cell? ⟨P, 0, none⟩ = some (.string s) ∧ w'.cell? ⟨P, 1, none⟩ = some (I ((k + 1 : Nat) : Int))) [14, 15] (by kernel_rfl) hSX ?_
  refine anyX_tk 0 hSX ?_
  refine anyX_tk 1 hSX ?_
  refine anyX_tk 2 hSX ?_
  refine anyX_tk 3 hSX ?_
  refine anyX_tk 4 hSX ?_
  refine anyX_tk 5 hSX ?_
  refine anyX_tk 6 hSX ?_
  refine anyX_tk 7 hSX ?_
  refine anyX_tk 8 hSX ?_
  refine anyX_tk 9 hSX ?_
  refine anyX_tk 10 hSX ?_
  refine anyX_tk 11 hSX ?_
  refine anyX_take 12 (by kernel_rfl) (by kernel_rfl) (by kernel_rfl) (by kernel_rfl) (by kernel_rfl) hSX ?_
  intro oi ho; simp only [List.getElem?_toArray, List.getElem?_cons_succ, List.getElem?_cons_zero, Option.some.injEq] at ho; subst ho
  refine ⟨.string Wd, fun _ _ _ h => h, Or.inl ⟨by rfl, ?_⟩, ?_⟩
  · (intro wS hSw; (try dsimp only at hSw); go_simp; rw [if_pos ⟨by omega, by omega⟩, if_pos (by omega), HW.out])
  simp only [Act.put, List.setIfInBounds_toArray, List.set_cons_zero, List.set_cons_succ]
  refine anyX_tk 13 hSX ?_
  refine anyX_one 14 (by kernel_rfl) ?_
  intro oi ho; simp only [List.getElem?_toArray, List.getElem?_cons_succ, List.getElem?_cons_zero, Option.some.injEq] at ho; subst ho; intro K hK
  (try simp only [Act.put, List.setIfInBounds_toArray, List.set_cons_zero, List.set_cons_succ])
  go_simp
  refine (hput _ _ (hR3.new ((New.refl W3).drew))).mono ?_
  rintro e w5 ⟨rfl, hR5⟩
  refine hK _ _ (fun h => by cases h) ?_
  clear hK K
  refine anyX_one 15 (by kernel_rfl) ?_
  intro oi ho; simp only [List.getElem?_toArray, List.getElem?_cons_succ, List.getElem?_cons_zero, Option.some.injEq] at ho; subst ho; intro K hK
  (try simp only [Act.put, List.setIfInBounds_toArray, List.set_cons_zero, List.set_cons_succ])
  go_simp
  refine hK _ _ (fun h => by cases h) ?_
  clear hK K
  refine anyX_done (by kernel_rfl) ?_
  (try simp only [Act.put, List.setIfInBounds_toArray, List.set_cons_zero, List.set_cons_succ])
  have HR5 := Lib.hid hR5
  clear hR5 hR3
  simp only [Exit.then]
  go_wp2_with fail
  rw [HPO.out]
  exact ans_good HT.out HR5.out
theorem ctok_any (w0 w : World) (P : Nat) (s : ByteArray) (k : Nat) (ts : List LTok) (h : Rd w0 w P s k ts) (he : Env w0) (hk : k < s.size) (hs : s.size ≤ 1048576) (hn : ts.length ≤ 1048576) :
    Calls Tryz.prog 90 #[.pointer (some ⟨P, 0, none⟩)] w (TokAns w0 P s k ts) := by
  cases hl : isLet (byteAt s k) with
  | true =>
    by_cases h16 : 16 < ((s.data.toList.drop k).takeWhile isIns).length
    · exact ctok_long w0 w P s k ts h he hk hs hn hl h16
    · exact ctok_word w0 w P s k ts h he hk hs hn hl h16
  | false =>
    cases hd : isDig (byteAt s k) with
    | true => exact ctok_digit w0 w P s k ts h he hk hs hn hl hd
    | false =>
      by_cases h45 : (byteAt s k).toNat = 45
      · cases hd1 : isDig (byteAt s (k + 1)) with
        | true => exact ctok_minus w0 w P s k ts h he hk hs hn h45 hd1
        | false =>
          by_cases h62 : (byteAt s (k + 1)).toNat = 62
          · exact ctok_arrow w0 w P s k ts h he hk hs hn h45 hd1 h62
          · exact ctok_dash w0 w P s k ts h he hk hs hn h45 hd1 h62
      · cases hm : isMrk (byteAt s k) with
        | false => exact ctok_byte w0 w P s k ts h he hk hs hn hl hd h45 hm
        | true =>
          unfold isMrk at hm
          rw [decide_eq_true_iff] at hm
          rcases hm with hm | hm | hm | hm | hm
          · exact ctok_m123 w0 w P s k ts h he hk hs hn hm
          · exact ctok_m125 w0 w P s k ts h he hk hs hn hm
          · exact ctok_m61 w0 w P s k ts h he hk hs hn hm
          · exact ctok_m59 w0 w P s k ts h he hk hs hn hm
          · exact ctok_m46 w0 w P s k ts h he hk hs hn hm
end Go.Proofs.YtnedmonlofbahaaGreatDoor
namespace Go.Proofs.YtnedmonlofbahaaGreatDoor
open Go
set_option linter.all false

theorem takeWhile_append_stop (p : UInt8 → Bool) (b : UInt8) (h : p b = false) (r : List UInt8) : ∀ l : List UInt8, (l ++ b :: r).takeWhile p = l.takeWhile p := by
  intro l
  induction l with
  | nil => rw [List.nil_append, List.takeWhile_cons, if_neg (by simp [h])]; rfl
  | cons c l ih =>
    rw [List.cons_append, List.takeWhile_cons, List.takeWhile_cons, ih]
theorem takeWhile_of_all (p : UInt8 → Bool) : ∀ l : List UInt8, l.all p = true → l.takeWhile p = l := by
  intro l
  induction l with
  | nil => intro _; rfl
  | cons c l ih =>
    intro h
    simp only [List.all_cons, Bool.and_eq_true] at h
    rw [List.takeWhile_cons, if_pos h.1, ih h.2]
theorem headD_append_stop (b : UInt8) (r l : List UInt8) : (l ++ b :: r).headD 0 = if l = [] then b else l.headD 0 := by
  cases l <;> simp

def stops (b : UInt8) : Prop := isIns b = false ∧ isDig b = false ∧ b.toNat ≠ 62
theorem tokR_append (c : UInt8) (l : List UInt8) (b : UInt8) (hb : stops b) (r : List UInt8) : tokR (c :: l ++ b :: r) = tokR (c :: l) := by
  obtain ⟨h1, h2, h3⟩ := hb
  have e1 : (c :: (l ++ b :: r)).takeWhile isIns = (c :: l).takeWhile isIns := takeWhile_append_stop isIns b h1 r (c :: l)
  have e2 : (l ++ b :: r).takeWhile isDig = l.takeWhile isDig := takeWhile_append_stop isDig b h2 r l
  have z1 : isDig 0 = false := by decide
  have e3 : (isDig ((l ++ b :: r).headD 0) = true) = (isDig (l.headD 0) = true) := by
    rw [headD_append_stop]
    split
    · rename_i h; rw [h, h2]; simp [z1]
    · rfl
  have e4 : (((l ++ b :: r).headD 0).toNat = 62) = ((l.headD 0).toNat = 62) := by
    rw [headD_append_stop]
    split
    · rename_i h; rw [h]; simp [h3]
    · rfl
  rw [List.cons_append]
  rw [tokR_cons, tokR_cons]
  simp only [e1, e2, e3, e4]

theorem lexL_ge : ∀ (n p : Nat) (l : List UInt8), l.length ≤ n → (∀ t ∈ (lexL p l).1, p ≤ t.at_ ∧ t.at_ < p + l.length) ∧ (∀ c a, (lexL p l).2 = some (c, a) → p ≤ a ∧ a < p + l.length) := by
  intro n
  induction n with
  | zero =>
    intro p l h
    obtain rfl : l = [] := List.eq_nil_of_length_eq_zero (by omega)
    rw [lexL_nil]
    exact ⟨by simp, by simp⟩
  | succ n ih =>
    intro p l h
    cases l with
    | nil => rw [lexL_nil]; exact ⟨by simp, by simp⟩
    | cons c r =>
      simp only [List.length_cons] at h
      cases h1 : isBlk c with
      | true =>
        rw [lexL_blank _ _ _ h1, List.length_cons]
        obtain ⟨i1, i2⟩ := ih (p + 1) r (by omega)
        exact ⟨fun t ht => by have := i1 t ht; omega, fun c a hca => by have := i2 c a hca; omega⟩
      | false =>
        by_cases h2 : c.toNat = 35
        · rw [lexL_hash _ _ _ h2, List.length_cons]
          have hle := takeWhile_le notEol r
          obtain ⟨i1, i2⟩ := ih (p + 1 + (r.takeWhile notEol).length) (r.drop (r.takeWhile notEol).length) (by rw [List.length_drop]; omega)
          rw [List.length_drop] at i1 i2
          exact ⟨fun t ht => by have := i1 t ht; omega, fun c a hca => by have := i2 c a hca; omega⟩
        · cases ht : tokR (c :: r) with
          | bad e =>
            rw [lexL_bad _ _ _ h1 h2 ht, List.length_cons]
            refine ⟨by simp, fun c a hca => ?_⟩
            cases hca; omega
          | good s t m k =>
            have hk := tokR_len ht
            simp only [List.length_cons] at hk
            rw [lexL_good _ _ _ h1 h2 ht, List.length_cons]
            obtain ⟨i1, i2⟩ := ih (p + k) ((c :: r).drop k) (by rw [List.length_drop, List.length_cons]; omega)
            rw [List.length_drop, List.length_cons] at i1 i2
            refine ⟨fun t ht => ?_, fun c a hca => by have := i2 c a hca; omega⟩
            rcases List.mem_cons.1 ht with rfl | ht
            · simp only; omega
            · have := i1 t ht; omega

def nameU : List UInt8 → Bool
  | [] => false
  | c :: r => isLet c && (r.all isIns && decide (r.length ≤ 15))
theorem nameB_eq (s : ByteArray) : nameB s = nameU s.data.toList := by
  unfold nameB bytesN
  cases s.data.toList with
  | nil => rfl
  | cons c r =>
    simp only [List.map_cons, nameL, nameU, List.all_map, List.length_map]
    rfl
theorem tokR_name (c : UInt8) (r : List UInt8) (h : nameU (c :: r) = true) : tokR (c :: r) = .good 1 (c :: r) 0 (r.length + 1) := by
  simp only [nameU, Bool.and_eq_true, decide_eq_true_iff] at h
  have hi : isIns c = true := (isIns_iff c).2 (Or.inl h.1)
  have e : (c :: r).takeWhile isIns = c :: r := takeWhile_of_all _ _ (by simp only [List.all_cons, hi, h.2.1, Bool.and_self])
  rw [tokR_cons]
  rw [if_pos h.1, e, if_neg (by simp only [List.length_cons]; omega)]
  rfl
theorem tokR_word {l t : List UInt8} {n : Int} {k : Nat} (h : tokR l = .good 1 t n k) : n = 0 ∧ nameU t = true := by
  cases l with
  | nil => cases h
  | cons c r =>
    rw [tokR_cons] at h
    split at h
    · rename_i c1
      split at h
      · cases h
      · rename_i h16
        cases h
        refine ⟨rfl, ?_⟩
        have hi : isIns c = true := (isIns_iff c).2 (Or.inl c1)
        have ha := takeWhile_all isIns r
        rw [List.takeWhile_cons, if_pos hi] at h16 ⊢
        simp only [List.length_cons] at h16
        simp only [nameU, c1, ha, Bool.true_and, decide_eq_true_iff]
        omega
    · split at h
      · split at h <;> cases h
      · split at h
        · cases h
        · split at h <;> cases h
theorem nameU_head {c : UInt8} {r : List UInt8} (h : nameU (c :: r) = true) : isBlk c = false ∧ c.toNat ≠ 35 := by
  simp only [nameU, Bool.and_eq_true] at h
  have := (isLet_iff c).1 h.1
  refine ⟨?_, by omega⟩
  unfold isBlk
  rw [decide_eq_false_iff_not]
  omega
def markU (t : List UInt8) : Bool := decide (t = [123] ∨ t = [125] ∨ t = [61] ∨ t = [59] ∨ t = [46] ∨ t = [45, 62])
def LTok.right (t : LTok) : Bool :=
  if t.sort = 1 then decide (t.num = 0) && nameU t.text
  else if t.sort = 2 then decide (t.text = [])
  else if t.sort = 3 then decide (t.num = 0) && markU t.text
  else false
theorem tokR_sort {l : List UInt8} {s n : Int} {t : List UInt8} {k : Nat} (h : tokR l = .good s t n k) : (s = 1 ∨ s = 2 ∨ s = 3) ∧ (LTok.mk s t n 0).right = true ∧ -9223372036854775808 ≤ n ∧ n ≤ 9223372036854775807 := by
  cases l with
  | nil => cases h
  | cons c r =>
    have hw : s = 1 → n = 0 ∧ nameU t = true := fun e => by subst e; exact tokR_word h
    rw [tokR_cons] at h
    split at h
    · split at h
      · cases h
      · cases h
        obtain ⟨_, h2⟩ := hw rfl
        refine ⟨Or.inl rfl, ?_, by omega, by omega⟩
        simp [LTok.right, h2]
    · split at h
      · split at h
        · rename_i m hm
          cases h
          exact ⟨Or.inr (Or.inl rfl), rfl, numB_rng _ _ hm⟩
        · cases h
      · split at h
        · cases h; exact ⟨Or.inr (Or.inr rfl), rfl, by omega, by omega⟩
        · split at h
          · rename_i hm
            cases h
            refine ⟨Or.inr (Or.inr rfl), ?_, by omega, by omega⟩
            unfold isMrk at hm
            rw [decide_eq_true_iff] at hm
            have e : ∀ k : Nat, ∀ x : UInt8, x.toNat = k → [x] = [UInt8.ofNat k] := by
              intro k x hx; subst hx; rw [UInt8.ofNat_toNat]
            have : markU [c] = true := by
              unfold markU
              rw [decide_eq_true_iff]
              rcases hm with hm | hm | hm | hm | hm
              · exact Or.inl (e _ _ hm)
              · exact Or.inr (Or.inl (e _ _ hm))
              · exact Or.inr (Or.inr (Or.inl (e _ _ hm)))
              · exact Or.inr (Or.inr (Or.inr (Or.inl (e _ _ hm))))
              · exact Or.inr (Or.inr (Or.inr (Or.inr (Or.inl (e _ _ hm)))))
            simp [LTok.right, this]
          · cases h

def Placed (l : List UInt8) : Nat → List LTok → Prop
  | _, [] => True
  | a, t :: r => a ≤ t.at_ ∧ t.at_ + t.spelt.length ≤ l.length ∧ (l.drop t.at_).take t.spelt.length = t.spelt ∧ t.sort ≠ 0 ∧ t.right = true ∧ (-9223372036854775808 ≤ t.num ∧ t.num ≤ 9223372036854775807) ∧ Placed l (t.at_ + t.spelt.length) r
theorem Placed.mono {l : List UInt8} {a b : Nat} (h : a ≤ b) : ∀ {ts : List LTok}, Placed l b ts → Placed l a ts
  | [], _ => trivial
  | t :: r, hp => ⟨Nat.le_trans h hp.1, hp.2⟩
theorem lexL_placed (L : List UInt8) : ∀ (n p : Nat) (l : List UInt8), l.length ≤ n → l = L.drop p → p ≤ L.length → Placed L p (lexL p l).1 := by
  intro n
  induction n with
  | zero =>
    intro p l h _ _
    obtain rfl : l = [] := List.eq_nil_of_length_eq_zero (by omega)
    rw [lexL_nil]; trivial
  | succ n ih =>
    intro p l h hl hp
    cases l with
    | nil => rw [lexL_nil]; trivial
    | cons c r =>
      have hlen := congrArg List.length hl
      simp only [List.length_cons, List.length_drop] at h hlen
      have hdrop : ∀ j, (c :: r).drop j = L.drop (p + j) := fun j => by rw [hl, List.drop_drop]
      have hr : r = L.drop (p + 1) := by rw [← hdrop 1]; rfl
      cases h1 : isBlk c with
      | true =>
        rw [lexL_blank _ _ _ h1]
        exact (ih (p + 1) r (by omega) hr (by omega)).mono (by omega)
      | false =>
        by_cases h2 : c.toNat = 35
        · have hle := takeWhile_le notEol r
          rw [lexL_hash _ _ _ h2]
          exact (ih _ _ (by rw [List.length_drop]; omega) (by rw [hr, List.drop_drop]) (by omega)).mono (by omega)
        · cases ht : tokR (c :: r) with
          | bad e => rw [lexL_bad _ _ _ h1 h2 ht]; trivial
          | good s t m k =>
            have hk := tokR_len ht
            have hs := tokR_spelt ht
            obtain ⟨so, ri, rg⟩ := tokR_sort ht
            simp only [List.length_cons] at hk
            have hsl : (LTok.mk s t m p).spelt.length = k := by
              show (LTok.mk s t m 0).spelt.length = k
              rw [hs, List.length_take, List.length_cons]; omega
            rw [lexL_good _ _ _ h1 h2 ht]
            refine ⟨Nat.le_refl _, by show p + (LTok.mk s t m p).spelt.length ≤ _; rw [hsl]; omega, ?_, by rcases so with e | e | e <;> (simp only [e]; decide), ri, rg, ?_⟩
            · rw [hsl]
              show (L.drop p).take k = (LTok.mk s t m 0).spelt
              rw [← hl, hs]
            · rw [hsl]
              show Placed L (p + k) _
              exact ih (p + k) _ (by rw [List.length_drop, List.length_cons]; omega) (hdrop k) (by omega)

def gapU (k : Nat) : List UInt8 := if k % 5 = 1 then [10] else if k % 5 = 2 then [9, 32, 13] else if k % 5 = 3 then [35, 120, 32, 45, 49, 32, 35, 10] else [32]
theorem lexL_gap (k p : Nat) (l : List UInt8) : lexL p (gapU k ++ l) = lexL (p + (gapU k).length) l := by
  unfold gapU
  split
  · exact lexL_blank p 10 l (by decide)
  · split
    · show lexL p (9 :: 32 :: 13 :: l) = _
      rw [lexL_blank _ _ _ (by decide), lexL_blank _ _ _ (by decide), lexL_blank _ _ _ (by decide)]; rfl
    · split
      · show lexL p (35 :: ([120, 32, 45, 49, 32, 35] ++ 10 :: l)) = _
        rw [lexL_hash _ _ _ (by decide), takeWhile_append_stop notEol 10 (by decide) l, takeWhile_of_all notEol _ (by decide)]
        show lexL (p + 1 + 6) (10 :: l) = _
        rw [lexL_blank _ _ _ (by decide)]; rfl
      · exact lexL_blank p 32 l (by decide)
theorem gapU_head (k : Nat) : ∃ b r, gapU k = b :: r ∧ stops b := by
  unfold gapU stops
  split
  · exact ⟨_, _, rfl, by decide⟩
  · split
    · exact ⟨_, _, rfl, by decide⟩
    · split
      · exact ⟨_, _, rfl, by decide⟩
      · exact ⟨_, _, rfl, by decide⟩
theorem isDig_let {c : UInt8} (h : isDig c = true) : isLet c = false ∧ isBlk c = false ∧ c.toNat ≠ 35 := by
  have := (isDig_iff c).1 h
  refine ⟨?_, ?_, by omega⟩
  · cases e : isLet c with
    | false => rfl
    | true => have := (isLet_iff c).1 e; omega
  · unfold isBlk; rw [decide_eq_false_iff_not]; omega
theorem tokR_back (t : LTok) (hr : t.right = true) (hn : -9223372036854775808 ≤ t.num ∧ t.num ≤ 9223372036854775807) :
    ∃ c r, t.spelt = c :: r ∧ isBlk c = false ∧ c.toNat ≠ 35 ∧ tokR (c :: r) = .good t.sort t.text t.num (r.length + 1) := by
  obtain ⟨s, x, m, a⟩ := t
  unfold LTok.right at hr
  simp only at hr hn
  split at hr
  · rename_i hs
    subst hs
    simp only [Bool.and_eq_true, decide_eq_true_iff] at hr
    obtain ⟨rfl, hx⟩ := hr
    cases x with
    | nil => cases hx
    | cons c r =>
      obtain ⟨h1, h2⟩ := nameU_head hx
      exact ⟨c, r, rfl, h1, h2, tokR_name c r hx⟩
  · split at hr
    · rename_i _ hs
      subst hs
      rw [decide_eq_true_iff] at hr
      subst hr
      have hb := numB_itoa m hn.1 hn.2
      show ∃ c r, Lib.itoa m = c :: r ∧ _
      by_cases hm : 0 ≤ m
      · obtain ⟨k, rfl⟩ := Int.eq_ofNat_of_zero_le hm
        have hall := decDigits_all k k (Nat.le_refl _)
        rw [Lib.itoa_nonneg] at hb ⊢
        cases hd : Lib.decDigits k with
        | nil => exact absurd hd (decDigits_ne k)
        | cons c r =>
          rw [hd] at hall hb
          simp only [List.all_cons, Bool.and_eq_true] at hall
          obtain ⟨d1, d2, d3⟩ := isDig_let hall.1
          refine ⟨c, r, rfl, d2, d3, ?_⟩
          rw [tokR_cons, if_neg (by rw [d1]; simp), if_pos (Or.inl hall.1), takeWhile_of_all _ _ hall.2, hb]
      · obtain ⟨k, rfl⟩ : ∃ k : Nat, m = -(k : Int) := ⟨m.natAbs, by omega⟩
        have hall := decDigits_all k k (Nat.le_refl _)
        rw [Lib.itoa_neg k (by omega)] at hb ⊢
        refine ⟨45, Lib.decDigits k, rfl, by decide, by decide, ?_⟩
        have hh : isDig ((Lib.decDigits k).headD 0) = true := by
          cases hd : Lib.decDigits k with
          | nil => exact absurd hd (decDigits_ne k)
          | cons c r =>
            rw [hd] at hall
            simp only [List.all_cons, Bool.and_eq_true] at hall
            exact hall.1
        rw [tokR_cons, if_neg (by decide), if_pos (Or.inr ⟨by decide, hh⟩), takeWhile_of_all _ _ hall, hb]
    · split at hr
      · rename_i _ _ hs
        subst hs
        simp only [Bool.and_eq_true, decide_eq_true_iff] at hr
        obtain ⟨rfl, hx⟩ := hr
        unfold markU at hx
        rw [decide_eq_true_iff] at hx
        rcases hx with rfl | rfl | rfl | rfl | rfl | rfl
        · exact ⟨123, [], rfl, by decide, by decide, by rfl⟩
        · exact ⟨125, [], rfl, by decide, by decide, by rfl⟩
        · exact ⟨61, [], rfl, by decide, by decide, by rfl⟩
        · exact ⟨59, [], rfl, by decide, by decide, by rfl⟩
        · exact ⟨46, [], rfl, by decide, by decide, by rfl⟩
        · exact ⟨45, [62], rfl, by decide, by decide, by rfl⟩
      · cases hr
theorem lexL_back (t : LTok) (hr : t.right = true) (hn : -9223372036854775808 ≤ t.num ∧ t.num ≤ 9223372036854775807) (k p : Nat) (l : List UInt8) :
    lexL p (t.spelt ++ gapU k ++ l) = ({ t with at_ := p } :: (lexL (p + t.spelt.length + (gapU k).length) l).1, (lexL (p + t.spelt.length + (gapU k).length) l).2) := by
  obtain ⟨c, r, hs, h1, h2, ht⟩ := tokR_back t hr hn
  obtain ⟨b, g, hg, hb⟩ := gapU_head k
  have ha := tokR_append c r b hb (g ++ l)
  rw [ht] at ha
  have hx : t.spelt ++ gapU k ++ l = c :: (r ++ b :: (g ++ l)) := by rw [hs, hg]; simp
  rw [List.cons_append] at ha
  rw [hx, lexL_good _ _ _ h1 h2 ha]
  have hd : (c :: (r ++ b :: (g ++ l))).drop (r.length + 1) = gapU k ++ l := by
    rw [List.drop_succ_cons, List.drop_left, hg, List.cons_append]
  rw [hd, lexL_gap, hs, List.length_cons]
end Go.Proofs.YtnedmonlofbahaaGreatDoor
namespace Go.Proofs.YtnedmonlofbahaaGreatDoor
open Go Go.RowKit Go.Joins
set_option linter.all false

theorem tokR_bad {l : List UInt8} {c : Int} (h : tokR l = .bad c) : c = 40 ∨ c = 41 ∨ c = 42 := by
  cases l with
  | nil => cases h; exact Or.inl rfl
  | cons b r =>
    rw [tokR_cons] at h
    split at h
    · split at h
      · cases h; exact Or.inr (Or.inr rfl)
      · cases h
    · split at h
      · split at h
        · cases h
        · cases h; exact Or.inr (Or.inl rfl)
      · split at h
        · cases h
        · split at h
          · cases h
          · cases h; exact Or.inl rfl

def AllAns (w : World) (s : ByteArray) (e : Ending) (w' : World) : Prop :=
  ∃ a c, e = .returned (.tuple #[.slice a (lexA s.data.toList).1.length c, .agg #[I (lexA s.data.toList).2.1, I ((lexA s.data.toList).2.2 : Nat)]]) ∧ New w w' ∧
    w'.ownsRow w.heap.size 98 4 (.slice a (lexA s.data.toList).1.length c) (lexA s.data.toList).1.length ((lexA s.data.toList).1.flatMap tokCells)
theorem lexA_long {s : ByteArray} (h : 1048576 < s.size) : lexA s.data.toList = ([], 2, 1048576) := by
  unfold lexA; rw [if_pos (by rw [toList_len]; exact h)]
theorem lexA_bad {s : ByteArray} (h : ¬ 1048576 < s.size) {ts : List LTok} {c : Int} {k : Nat} (hl : lexL 0 s.data.toList = (ts, some (c, k))) : lexA s.data.toList = ([], c, k) := by
  unfold lexA; rw [if_neg (by rw [toList_len]; exact h), hl]
theorem lexA_good {s : ByteArray} (h : ¬ 1048576 < s.size) {ts : List LTok} (hl : lexL 0 s.data.toList = (ts, none)) : lexA s.data.toList = (ts ++ [⟨0, [], 0, s.size⟩], 0, 0) := by
  unfold lexA; rw [if_neg (by rw [toList_len]; exact h), hl, toList_len]
theorem flt_stored {w : World} {R : Nat} {x y : Value} (h : w.heap[R]? = some (.cells #[x, y] 33 (0, 0))) (u v : Value) :
    ((w.setCell ⟨R, 0, none⟩ u).setCell ⟨R, 1, none⟩ v).heap[R]? = some (.cells #[u, v] 33 (0, 0)) ∧ Keeps (fun k => k = R) w ((w.setCell ⟨R, 0, none⟩ u).setCell ⟨R, 1, none⟩ v) := by
  have h1 := block_setCell (i := 0) h u
  have h2 := block_setCell (i := 1) h1 v
  refine ⟨by rw [h2]; simp, (Keeps.setCell (S := fun k => k = R) w _ _ rfl).trans (Keeps.setCell (S := fun k => k = R) _ _ _ rfl) (fun _ _ h => h)⟩
theorem flt_cells {w : World} {R : Nat} {x y : Value} (h : w.heap[R]? = some (.cells #[x, y] 33 (0, 0))) :
    w.cell? ⟨R, 0, none⟩ = some x ∧ w.cell? ⟨R, 1, none⟩ = some y ∧ w.frozen? ⟨R, 0, none⟩ = false ∧ w.frozen? ⟨R, 1, none⟩ = false ∧ R < w.heap.size := by
  refine ⟨?_, ?_, unfrozen_of_block h 0, unfrozen_of_block h 1, (Array.getElem?_eq_some_iff.1 h).1⟩
  · rw [cell_of_block h 0]; simp
  · rw [cell_of_block h 1]; simp
theorem ans_none (w w' : World) (s : ByteArray) (c : Int) (k : Nat) (h : lexA s.data.toList = ([], c, k)) (n : New w w') : AllAns w s (.returned (.tuple #[.slice none 0 0, .agg #[I c, I k]])) w' := by
  unfold AllAns
  rw [h]
  exact ⟨none, 0, rfl, n, World.ownsRow_nil _ _ _ _⟩

abbrev FltZ : Obj := .cells #[I 0, I 0] 33
set_option maxRecDepth 100000 in
set_option maxHeartbeats 4000000 in
theorem call_any (w : World) (s : ByteArray) (he : Env w) (hs : s.size ≤ 9223372036854775807) :
    Calls Tryz.prog 46 #[.string s] w (AllAns w s) := by
  have hz : (w.alloc FltZ).heap[w.heap.size]? = some (.cells #[I 0, I 0] 33 (0, 0)) := heap_alloc_new w _
  by_cases hbig : 1048576 < s.size
  · have HA := Lib.hid (lexA_long hbig)
    have hbI : (1048576 : Int) < (s.size : Int) := by omega
    clear hz
    go_enter Tryz.func46, Tryz.ntmps46
    go_wp2_with fail
    refine bodyPost_ret (v := .tuple #[.slice none 0 0, .agg #[I 2, I 1048576]]) (by simp [results, Tryz.results46, go_sem]) rfl ?_
    exact ans_none _ _ _ _ _ HA.out ((New.refl w).alloc _)
  · have HBG := Lib.hid hbig
    have hs2 : s.size ≤ 1048576 := by omega
    have hs : s.size ≤ 9223372036854775806 := by omega
    have hbI : ¬ (1048576 : Int) < (s.size : Int) := by omega
    have he0 : Env (w.alloc FltZ) := he.new ((New.refl w).alloc _)
    have hR0 : Rd (w.alloc FltZ) ((w.alloc FltZ).alloc (.cells #[.string s, I 0, .slice none 0 0] 156)) (w.heap.size + 1) s 0 [] :=
      ⟨(New.refl _).alloc _, by simp, none, 0, by rw [← heap_alloc_new (w.alloc FltZ)]; simp, World.ownsRow_nil _ _ _ _⟩
    have HZ := Lib.hid hz
    clear hbig hz
    obtain ⟨PO, hPO⟩ : ∃ PO, PO = AllAns w s := ⟨_, rfl⟩
    rw [← hPO]
    have HPO := Lib.hid hPO
    clear hPO
    go_enter Tryz.func46, Tryz.ntmps46
    go_wp2_with fail
    refine (cskip_any _ _ _ s 0 [] hR0 (by omega) hs).mono ?_
    rintro e w2 ⟨rfl, k1, _, hk1, HL, HF, hR⟩
    clear hR0
    go_wp2_with fail
    go_loopw [] (fun wr => ∃ (k : Nat) (ts : List LTok), k ≤ s.size ∧ ts.length ≤ k ∧ Hid (lexL 0 s.data.toList = (ts ++ (lexL k (s.data.toList.drop k)).1, (lexL k (s.data.toList.drop k)).2)) ∧
      Hid (k < s.size → isBlk (byteAt s k) = false ∧ (byteAt s k).toNat ≠ 35) ∧ Rd (w.alloc FltZ) wr (w.heap.size + 1) s k ts) (fun wr => s.size - atOf wr (w.heap.size + 1))
    case atStart =>
      refine ⟨k1, [], hk1, by simp, Lib.hid ?_, HF, hR⟩
      have := HL.out
      rw [List.drop_zero] at this
      rw [List.nil_append, this]
    case round =>
      clear HL HF hR hk1
      obtain ⟨k, ts, hk, hts, HL, HF, hR⟩ := hrel
      obtain ⟨_, c1, _, _, hBr⟩ := hR.cells
      have HY : Hid (atOf wr (w.heap.size + 1) = k) := Lib.hid (by unfold atOf; rw [c1]; simp)
      have hm := rmore_any _ wr _ s k ts hR (by omega)
      clear c1
      by_cases hk2 : k < s.size
      · rw [decide_eq_true hk2] at hm
        have htk := fun W (n : New wr W) => ctok_any _ W _ s k ts (hR.new n) he0 hk2 hs2 (by omega)
        obtain ⟨n1, n2⟩ := HF.out hk2
        have hdr := dropAt' s k hk2
        cases ht : tokR (s.data.toList.drop k) with
        | bad c =>
          have hLB : lexL 0 s.data.toList = (ts, some (c, k)) := by
            rw [hdr] at ht
            rw [HL.out, hdr, lexL_bad _ _ _ n1 n2 ht, List.append_nil]
          have hcd : (c == 0) = false := by rcases tokR_bad ht with rfl | rfl | rfl <;> rfl
          have HT := Lib.hid ht
          have HLB := Lib.hid (lexA_bad HBG.out hLB)
          clear ht hLB hdr n1 n2 HL HF
          go_wp2_with fail
          refine hm.mono ?_
          rintro e w3 ⟨rfl, k3⟩
          obtain ⟨_, c1, _, _, _⟩ := (hR.new k3).cells
          go_wp2_with fail
          refine (htk _ k3).mono ?_
          rintro e w4 hans
          unfold TokAns at hans
          rw [HT.out] at hans
          obtain ⟨rfl, k', hR4⟩ := hans
          have hz4 := Keeps.heap hR4.nw HZ.out (fun h => h)
          obtain ⟨r0, r1, f0, f1, hBB⟩ := flt_cells hz4
          obtain ⟨hst, kst⟩ := flt_stored hz4 (I c) (I k)
          obtain ⟨q0, q1, g0, g1, hq⟩ := flt_cells hst
          have HK := Lib.hid (New.keeps (((New.refl w).alloc FltZ).trans hR4.nw) kst (fun i hi hx => by omega))
          clear hst kst hz4 hR4 hR hm htk c1
          go_wp2_with fail
          have HFIN : Hid (PO (.returned (.tuple #[.slice none 0 0, .agg #[I c, I k]])) ((w4.setCell ⟨w.heap.size, 0, none⟩ (I c)).setCell ⟨w.heap.size, 1, none⟩ (I k))) := Lib.hid (by rw [HPO.out]; exact ans_none _ _ _ _ _ HLB.out HK.out)
          refine bodyPost_ret (v := .tuple #[.slice none 0 0, .agg #[I c, I k]]) (by simp [results, Tryz.results46, go_sem, q0, q1, g0, g1, hq]) rfl ?_
          exact HFIN.out
        | good so tx nu len =>
          have hlen := tokR_len ht
          rw [List.length_drop, toList_len] at hlen
          have HLG : Hid (lexL 0 s.data.toList = ((ts ++ [⟨so, tx, nu, k⟩]) ++ (lexL (k + len) (s.data.toList.drop (k + len))).1, (lexL (k + len) (s.data.toList.drop (k + len))).2)) := Lib.hid (by
            have ht2 := ht
            rw [hdr] at ht2
            rw [HL.out, hdr, lexL_good _ _ _ n1 n2 ht2, ← hdr, List.drop_drop]
            simp)
          have HT := Lib.hid ht
          clear ht hdr n1 n2 HL HF
          go_wp2_with fail
          refine hm.mono ?_
          rintro e w3 ⟨rfl, k3⟩
          obtain ⟨_, c1, _, _, _⟩ := (hR.new k3).cells
          go_wp2_with fail
          refine (htk _ k3).mono ?_
          rintro e w4 hans
          unfold TokAns at hans
          rw [HT.out] at hans
          obtain ⟨rfl, hR4⟩ := hans
          clear hR hm htk c1 k3
          go_wp2_with fail
          refine (cskip_any _ _ _ s (k + len) _ hR4 (by omega) hs).mono ?_
          rintro e w5 ⟨rfl, k', hk', hk'', HL5, HF5, hR5⟩
          have hts' : (ts ++ [(⟨so, tx, nu, k⟩ : LTok)]).length ≤ k' := by rw [List.length_append]; simp only [List.length_singleton]; omega
          have HLN : Hid (lexL 0 s.data.toList = ((ts ++ [⟨so, tx, nu, k⟩]) ++ (lexL k' (s.data.toList.drop k')).1, (lexL k' (s.data.toList.drop k')).2)) := Lib.hid (by rw [HLG.out, HL5.out])
          have HTS := Lib.hid hts'
          clear hR4 hts'
          go_wp2_with fail
          go_roundw
          case rel => exact ⟨k', _, hk'', HTS.out, HLN, HF5, hR5⟩
          case measure =>
            obtain ⟨_, d1, _⟩ := hR5.cells
            have hx : atOf w5 (w.heap.size + 1) = k' := by unfold atOf; rw [d1]; exact Int.toNat_natCast _
            rw [hx, HY.out]; omega
      · rw [decide_eq_false hk2] at hm
        have hke : k = s.size := by omega
        have hLE : lexL 0 s.data.toList = (ts, none) := by
          rw [HL.out, hke, drop_end, lexL_nil, List.append_nil]
        have HLA := Lib.hid (lexA_good HBG.out hLE)
        have hput := fun W R => cput_any (w.alloc FltZ) W (w.heap.size + 1) s k ts R 0 [] 0 s.size (by omega)
        clear hLE HL HF hke
        go_wp2_with fail
        refine hm.mono ?_
        rintro e w3 ⟨rfl, k3⟩
        go_wp2_with fail
        refine (hput _ (hR.new k3)).mono ?_
        rintro e w4 ⟨rfl, hR4⟩
        obtain ⟨nw4, hP4, a, c, hb4, ho4⟩ := hR4
        have hz4 := Keeps.heap nw4 HZ.out (fun h => h)
        have c2 : w4.cell? ⟨w.heap.size + 1, 2, none⟩ = some (.slice a (ts ++ [(⟨0, [], 0, s.size⟩ : LTok)]).length c) := by rw [cell_of_block hb4 2]; rfl
        obtain ⟨r0, r1, f0, f1, hBB⟩ := flt_cells hz4
        obtain ⟨hst, kst⟩ := flt_stored hz4 (I 0) (I 0)
        obtain ⟨q0, q1, g0, g1, hq⟩ := flt_cells hst
        have hfin : AllAns w s (.returned (.tuple #[.slice a (ts ++ [(⟨0, [], 0, s.size⟩ : LTok)]).length c, .agg #[I 0, I 0]])) ((w4.setCell ⟨w.heap.size, 0, none⟩ (I 0)).setCell ⟨w.heap.size, 1, none⟩ (I 0)) := by
          unfold AllAns
          rw [HLA.out]
          refine ⟨a, c, rfl, New.keeps (((New.refl w).alloc FltZ).trans nw4) kst (fun i hi hx => by omega), ?_⟩
          have ho5 := lx_oth ho4 kst (fun g hg => ⟨_, _, _, hg ▸ hz4, by decide⟩)
          exact ownsRow_rebase ho5 (fun g hg => by
            have := (own_of_blk ho5 (blk_of_own hg)).1
            simp at this; omega)
        rw [← HPO.out] at hfin
        have HFIN := Lib.hid hfin
        obtain ⟨N, hN⟩ : ∃ N, (ts ++ [(⟨0, [], 0, s.size⟩ : LTok)]).length = N := ⟨_, rfl⟩
        rw [hN] at c2 HFIN
        clear hfin hst kst hz4 ho4 hb4 hR hm hput hN nw4
        go_wp2_with fail
        refine bodyPost_ret (v := .tuple #[.slice a N c, .agg #[I 0, I 0]]) (by simp [results, Tryz.results46, go_sem, q0, q1, g0, g1, hq]) rfl ?_
        exact HFIN.out
theorem lexL_code : ∀ (n p : Nat) (l : List UInt8), l.length ≤ n → ∀ c a, (lexL p l).2 = some (c, a) → c = 40 ∨ c = 41 ∨ c = 42 := by
  intro n
  induction n with
  | zero =>
    intro p l h
    obtain rfl : l = [] := List.eq_nil_of_length_eq_zero (by omega)
    rw [lexL_nil]; simp
  | succ n ih =>
    intro p l h
    cases l with
    | nil => rw [lexL_nil]; simp
    | cons c r =>
      simp only [List.length_cons] at h
      cases h1 : isBlk c with
      | true => rw [lexL_blank _ _ _ h1]; exact ih _ _ (by omega)
      | false =>
        by_cases h2 : c.toNat = 35
        · rw [lexL_hash _ _ _ h2]; exact ih _ _ (by rw [List.length_drop]; omega)
        · cases ht : tokR (c :: r) with
          | bad e =>
            rw [lexL_bad _ _ _ h1 h2 ht]
            intro c a hca
            cases hca
            exact tokR_bad ht
          | good s t m k =>
            have hk := tokR_len ht
            rw [lexL_good _ _ _ h1 h2 ht]
            exact ih _ _ (by rw [List.length_drop, List.length_cons]; omega)
theorem lx_row {w : World} {ao : Option Addr} {l : List LTok} (h : SlAt w ao (l.flatMap tokCells)) (hne : l ≠ []) :
    ∃ b off, ao = some ⟨b, off, none⟩ ∧ ∀ (i : Nat) (hi : i < l.length) (j : Nat), j < 4 → w.cell? ⟨b, off + i * 4 + j, none⟩ = (tokCells l[i])[j]? := by
  have hl := flat_len tokCells 4 tokCells_len l
  have hpos : 0 < l.length := List.length_pos_iff.2 hne
  obtain ⟨b, off, e, _⟩ := h.at (i := 0) (by omega)
  refine ⟨b, off, e, fun i hi j hj => ?_⟩
  have hij : i * 4 + j < l.length * 4 := by omega
  obtain ⟨b2, off2, e2, hc⟩ := h.at (i := i * 4 + j) (by omega)
  rw [e] at e2
  cases e2
  rw [Nat.add_assoc, hc]
  have := flat_at tokCells 4 tokCells_len l i j hi hj
  rw [← this, List.getElem?_eq_getElem (by omega)]
theorem lexA_code {s : List UInt8} {l : List LTok} {c : Int} {k : Nat} (h : lexA s = (l, c, k)) : (c = 0 ∧ k = 0 ∧ l ≠ [] ∧ s.length ≤ 1048576 ∧ ∃ ts, lexL 0 s = (ts, none) ∧ l = ts ++ [⟨0, [], 0, s.length⟩]) ∨ ((c = 2 ∧ 1048576 < s.length ∧ k = 1048576 ∨ (c = 40 ∨ c = 41 ∨ c = 42) ∧ s.length ≤ 1048576 ∧ ∃ ts, lexL 0 s = (ts, some (c, k))) ∧ l = []) := by
  unfold lexA at h
  split at h
  · cases h; exact Or.inr ⟨Or.inl ⟨rfl, by assumption, rfl⟩, rfl⟩
  · rename_i hlen
    cases hx : lexL 0 s with
    | mk ts e =>
      rw [hx] at h
      cases e with
      | none =>
        simp only [Prod.mk.injEq] at h
        obtain ⟨rfl, rfl, rfl⟩ := h
        exact Or.inl ⟨rfl, rfl, by simp, by omega, ts, rfl, rfl⟩
      | some e =>
        obtain ⟨x, y⟩ := e
        simp only [Prod.mk.injEq] at h
        obtain ⟨rfl, rfl, rfl⟩ := h
        exact Or.inr ⟨Or.inr ⟨lexL_code _ _ _ (Nat.le_refl _) _ _ (by rw [hx]), by omega, ts, rfl⟩, rfl⟩

end Go.Proofs.YtnedmonlofbahaaGreatDoor
