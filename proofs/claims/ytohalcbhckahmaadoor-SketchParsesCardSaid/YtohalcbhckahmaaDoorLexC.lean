/-
  Layer 4, the program's side: a number is read.
-/
import Derived.Test.YtohalcbhckahmaaDoorLexB
import Derived.Test.YtohalcbhckahmaaDoorShelf
import Derived.Laws.Concat
namespace Go.Proofs.YtohalcbhckahmaaDoor
open Go Go.RowKit Go.Joins
set_option linter.all false

theorem lx_grow (w : World) (os : Array Obj) : New w (Sort.grow w os) := ⟨rfl, rfl, rfl, by simp [Sort.grow], fun k hk _ => by simp [Sort.grow, Array.getElem?_append, hk]⟩
theorem lx_below {w w' : World} (h : Below w.heap.size w w') : New w w' := ⟨h.os, h.tape, h.output, h.size, fun k hk _ => h.block k hk⟩
theorem lx_var {w w' : World} {n : String} {cs : Array Value} (h : w.var? Tryd.prog n = some cs) (hk : New w w') : w'.var? Tryd.prog n = some cs := by
  unfold World.var? at h ⊢
  obtain ⟨g, hg, h2⟩ := Option.bind_eq_some_iff.1 h
  rw [hg]
  simp only [Option.bind_some]
  cases hb : w.heap[g]? with
  | none => rw [hb] at h2; cases h2
  | some o => rw [Keeps.heap hk hb (fun h => h)]; rw [hb] at h2; exact h2
/-- What the library's variables hold. -/
structure Env (w : World) : Prop where
  tab : Lib.TabIs Tryd.prog w "internal/strconv.uint64pow10" .u64 Lib.pow10Tab
  rng : ∃ tp p, w.var? Tryd.prog "strconv.ErrRange" = some #[.iface tp p]
theorem Env.new {w w' : World} (h : Env w) (k : New w w') : Env w' := by
  obtain ⟨ht, tp, p, hr⟩ := h
  exact ⟨lx_var ht k, tp, p, lx_var hr k⟩
theorem parse_ok (w : World) (X : ByteArray) (hX : X.size ≤ 9223372036854775806) (n : Int) (h : Lib.parseIntB 64 X.data.toList = .ok n) :
    Calls Tryd.prog 84 #[.string X, I 10, I 64] w fun e w' => e = .returned (.tuple #[I n, .nilIface]) ∧ New w w' := by
  refine (Tryd.strconv_ParseInt_10_at64_ok X hX n h w).mono ?_
  rintro e w' ⟨rfl, hw⟩
  refine ⟨rfl, ?_⟩
  rcases hw with rfl | ⟨t, rfl⟩
  · exact New.refl _
  · exact lx_below (Lib.bytesWorld_below _ _ _)
theorem parse_range (w : World) (X : ByteArray) (hX : X.size ≤ 281474976710656) (h : Lib.parseIntB 64 X.data.toList = .range) (he : Env w) :
    Calls Tryd.prog 84 #[.string X, I 10, I 64] w fun e w' => ∃ sat T a, e = .returned (.tuple #[I sat, .iface T (.pointer (some a))]) ∧ New w w' := by
  obtain ⟨_, tp, p, hr⟩ := he
  refine (Tryd.strconv_ParseInt_10_at64_range_var X hX h tp p w hr).mono ?_
  rintro e w' ⟨N, rfl, _, _, hb⟩
  exact ⟨_, _, _, rfl, lx_below hb⟩
def itoaS (n : Int) : ByteArray := ⟨(Lib.itoa n).toArray⟩
theorem fmt_any (w : World) (n : Int) (h0 : -9223372036854775808 ≤ n) (h1 : n ≤ 9223372036854775807) (he : Env w) :
    Calls Tryd.prog 85 #[I n, I 10] w fun e w' => e = .returned (.string (itoaS n)) ∧ New w w' := by
  refine (Tryd.strconv_FormatInt_10 n h0 h1 w he.tab).mono ?_
  rintro e w' ⟨rfl, k, os, rfl⟩
  exact ⟨rfl, ((New.refl w).drewN k).trans (lx_grow _ os)⟩
theorem lx_yes (s : ByteArray) : (s.toList == s.toList) = true := by simp
theorem lx_no {s t : ByteArray} (h : s.data.toList ≠ t.data.toList) : (s.toList == t.toList) = false := by
  rw [beq_eq_false_iff_ne]
  rw [ByteArray.toList_eq, ByteArray.toList_eq]
  exact h
/-- The bytes of a number that stands at a place. -/
def numD (s : ByteArray) (k : Nat) : List UInt8 := byteAt s k :: (s.data.toList.drop (k + 1)).takeWhile isDig
theorem extract_list (s : ByteArray) (i j : Nat) : (s.extract i j).data.toList = (s.data.toList.drop i).take (j - i) := by
  rw [ByteArray.data_extract, Array.toList_extract, List.extract_eq_drop_take]
theorem extract_take (s : ByteArray) (i n : Nat) : (s.extract i (i + n)).data.toList = (s.data.toList.drop i).take n := by
  rw [extract_list, show i + n - i = n by omega]
theorem toList_len (s : ByteArray) : s.data.toList.length = s.size := by simp
set_option maxRecDepth 100000 in
set_option maxHeartbeats 4000000 in
theorem cnum_m_some (w0 w : World) (P : Nat) (s : ByteArray) (k : Nat) (ts : List LTok) (h : Rd w0 w P s k ts) (he : Env w0) (hk : k < s.size) (hs : s.size ≤ 1048576) (hn : ts.length ≤ 1048576)
    (hb : (byteAt s k).toNat = 45) (v : Int) (h0 : -9223372036854775808 ≤ v) (h1 : v ≤ 9223372036854775807) (hp : Lib.parseIntB 64 (numD s k) = .ok v) (hi : Lib.itoa v = numD s k) :
    Calls Tryd.prog 78 #[.pointer (some ⟨P, 0, none⟩), I k] w fun e w' => e = .returned (I 0) ∧ Rd w0 w' P s (k + (numD s k).length) (ts ++ [⟨2, [], v, k⟩]) := by
  have hpk := rpeek0_any w0 w P s k ts h (by omega) (by omega)
  have hdr := dropAt' s k hk
  have hlen := toList_len s
  obtain ⟨n, hn0⟩ : ∃ n, ((s.data.toList.drop (k + 1)).takeWhile isDig).length = n := ⟨_, rfl⟩
  have hle : k + 1 + n ≤ s.size := by
    have := takeWhile_le isDig (s.data.toList.drop (k + 1))
    rw [hn0, List.length_drop] at this; omega
  have hw := fun W R => rwhile_dig w0 W P s (k + 1) ts R (by omega) (by omega)
  rw [hn0] at hw
  obtain ⟨Dg, hDg⟩ : ∃ Dg, s.extract (k + 1) (k + 1 + n) = Dg := ⟨_, rfl⟩
  have hDl : Dg.data.toList = (s.data.toList.drop (k + 1)).takeWhile isDig := by rw [← hDg, extract_take, ← hn0, takeWhile_take]
  have hsz : Dg.size ≤ 1048576 := by rw [← toList_len, hDl, hn0]; omega
  obtain ⟨X, hX⟩ : ∃ X, (⟨#[45]⟩ : ByteArray) ++ Dg = X := ⟨_, rfl⟩
  have h45 : byteAt s k = 45 := UInt8.toNat_inj.1 hb
  have hXl : X.data.toList = numD s k := by
    rw [← hX, ByteArray.data_append, Array.toList_append, hDl]
    unfold numD; rw [h45]; rfl
  have hXs : X.size ≤ 1048577 := by rw [← toList_len, hXl]; unfold numD; rw [List.length_cons, hn0]; omega
  have hadd : ∀ w : World, (Op.stringOp .add (⟨#[45]⟩ : ByteArray) Dg).run Tryd.prog w = .ok (.string X) w := fun w => by
    rw [← hX]; exact run_string_add_sum w _ _ (by show 1 + Dg.size ≤ _; omega)
  have HKL : Hid (k + 1 + n = k + (numD s k).length) := Lib.hid (by unfold numD; rw [List.length_cons, hn0]; omega)
  have e45 : (((byteAt s k).toNat : Int) == 45) = true := by rw [hb]; rfl
  have hpar := fun W => parse_ok W X (by omega) v (by rw [hXl]; exact hp)
  have hfmt := fun W (E : New w0 W) => fmt_any W v h0 h1 (he.new E)
  obtain ⟨F, hF⟩ : ∃ F, itoaS v = F := ⟨_, rfl⟩
  rw [hF] at hfmt
  obtain rfl : F = X := by
    rw [← hF]
    apply ByteArray.ext
    apply Array.toList_inj.1
    rw [hXl, ← hi]
    unfold itoaS
    rfl
  have hcmp := lx_yes F
  have hput := fun W (k1 : Nat) R => cput_any w0 W P s k1 ts R 2 [] v k (by omega)
  clear hF
  obtain ⟨b, hbb⟩ : ∃ b : Int, ((byteAt s k).toNat : Int) = b := ⟨_, rfl⟩
  rw [hbb] at hpk e45
  rw [hDg] at hw
  clear hbb hDg hDl hXl hX hdr hn0 hlen h45 hb hp hi
  go_enter Tryd.func78, Tryd.ntmps78
  go_wp2_with fail
  refine hpk.mono ?_
  rintro e w2 ⟨rfl, n2⟩
  have hR2 := h.new n2
  obtain ⟨_, y0, y1, _, hB2⟩ := hR2.cells
  have HR3 := Lib.hid (hR2.go (k + 1))
  clear hR2 hpk h
  go_wp2_with fail
  refine (hw _ HR3.out).mono ?_
  rintro e w4 ⟨rfl, hR4⟩
  go_wp2_with fail
  refine (hpar _).mono ?_
  rintro e w5 ⟨rfl, n5⟩
  have hR5 := hR4.new n5
  clear hR4
  go_wp2_with fail
  refine (hfmt _ hR5.nw).mono ?_
  rintro e w6 ⟨rfl, n6⟩
  have hR6 := hR5.new n6
  clear hR5
  go_wp2_with fail
  refine (hput _ _ hR6).mono ?_
  rintro e w7 ⟨rfl, hR7⟩
  have HR7 := Lib.hid hR7
  clear hR7 hR6
  go_wp2_with fail
  go_ret
  exact ⟨rfl, by rw [← HKL.out]; exact HR7.out⟩
set_option maxRecDepth 100000 in
set_option maxHeartbeats 4000000 in
theorem cnum_m_differ (w0 w : World) (P : Nat) (s : ByteArray) (k : Nat) (ts : List LTok) (h : Rd w0 w P s k ts) (he : Env w0) (hk : k < s.size) (hs : s.size ≤ 1048576) (hn : ts.length ≤ 1048576)
    (hb : (byteAt s k).toNat = 45) (v : Int) (h0 : -9223372036854775808 ≤ v) (h1 : v ≤ 9223372036854775807) (hp : Lib.parseIntB 64 (numD s k) = .ok v) (hi : Lib.itoa v ≠ numD s k) :
    Calls Tryd.prog 78 #[.pointer (some ⟨P, 0, none⟩), I k] w fun e w' => e = .returned (I 41) ∧ ∃ k', Rd w0 w' P s k' ts := by
  have hpk := rpeek0_any w0 w P s k ts h (by omega) (by omega)
  have hdr := dropAt' s k hk
  have hlen := toList_len s
  obtain ⟨n, hn0⟩ : ∃ n, ((s.data.toList.drop (k + 1)).takeWhile isDig).length = n := ⟨_, rfl⟩
  have hle : k + 1 + n ≤ s.size := by
    have := takeWhile_le isDig (s.data.toList.drop (k + 1))
    rw [hn0, List.length_drop] at this; omega
  have hw := fun W R => rwhile_dig w0 W P s (k + 1) ts R (by omega) (by omega)
  rw [hn0] at hw
  obtain ⟨Dg, hDg⟩ : ∃ Dg, s.extract (k + 1) (k + 1 + n) = Dg := ⟨_, rfl⟩
  have hDl : Dg.data.toList = (s.data.toList.drop (k + 1)).takeWhile isDig := by rw [← hDg, extract_take, ← hn0, takeWhile_take]
  have hsz : Dg.size ≤ 1048576 := by rw [← toList_len, hDl, hn0]; omega
  obtain ⟨X, hX⟩ : ∃ X, (⟨#[45]⟩ : ByteArray) ++ Dg = X := ⟨_, rfl⟩
  have h45 : byteAt s k = 45 := UInt8.toNat_inj.1 hb
  have hXl : X.data.toList = numD s k := by
    rw [← hX, ByteArray.data_append, Array.toList_append, hDl]
    unfold numD; rw [h45]; rfl
  have hXs : X.size ≤ 1048577 := by rw [← toList_len, hXl]; unfold numD; rw [List.length_cons, hn0]; omega
  have hadd : ∀ w : World, (Op.stringOp .add (⟨#[45]⟩ : ByteArray) Dg).run Tryd.prog w = .ok (.string X) w := fun w => by
    rw [← hX]; exact run_string_add_sum w _ _ (by show 1 + Dg.size ≤ _; omega)
  have HKL : Hid (k + 1 + n = k + (numD s k).length) := Lib.hid (by unfold numD; rw [List.length_cons, hn0]; omega)
  have e45 : (((byteAt s k).toNat : Int) == 45) = true := by rw [hb]; rfl
  have hpar := fun W => parse_ok W X (by omega) v (by rw [hXl]; exact hp)
  have hfmt := fun W (E : New w0 W) => fmt_any W v h0 h1 (he.new E)
  obtain ⟨F, hF⟩ : ∃ F, itoaS v = F := ⟨_, rfl⟩
  rw [hF] at hfmt
  have hcmp : (F.toList == X.toList) = false := lx_no (by rw [hXl, ← hF]; exact hi)
  clear hF
  obtain ⟨b, hbb⟩ : ∃ b : Int, ((byteAt s k).toNat : Int) = b := ⟨_, rfl⟩
  rw [hbb] at hpk e45
  rw [hDg] at hw
  clear hbb hDg hDl hXl hX hdr hn0 hlen h45 hb hp hi
  go_enter Tryd.func78, Tryd.ntmps78
  go_wp2_with fail
  refine hpk.mono ?_
  rintro e w2 ⟨rfl, n2⟩
  have hR2 := h.new n2
  obtain ⟨_, y0, y1, _, hB2⟩ := hR2.cells
  have HR3 := Lib.hid (hR2.go (k + 1))
  clear hR2 hpk h
  go_wp2_with fail
  refine (hw _ HR3.out).mono ?_
  rintro e w4 ⟨rfl, hR4⟩
  go_wp2_with fail
  refine (hpar _).mono ?_
  rintro e w5 ⟨rfl, n5⟩
  have hR5 := hR4.new n5
  clear hR4
  go_wp2_with fail
  refine (hfmt _ hR5.nw).mono ?_
  rintro e w6 ⟨rfl, n6⟩
  have hR6 := hR5.new n6
  clear hR5
  have HR6 := Lib.hid hR6
  clear hR6
  go_wp2_with fail
  go_ret
  exact ⟨rfl, _, HR6.out⟩
set_option maxRecDepth 100000 in
set_option maxHeartbeats 4000000 in
theorem cnum_m_range (w0 w : World) (P : Nat) (s : ByteArray) (k : Nat) (ts : List LTok) (h : Rd w0 w P s k ts) (he : Env w0) (hk : k < s.size) (hs : s.size ≤ 1048576) (hn : ts.length ≤ 1048576)
    (hb : (byteAt s k).toNat = 45) (hp : Lib.parseIntB 64 (numD s k) = .range) :
    Calls Tryd.prog 78 #[.pointer (some ⟨P, 0, none⟩), I k] w fun e w' => e = .returned (I 41) ∧ ∃ k', Rd w0 w' P s k' ts := by
  have hpk := rpeek0_any w0 w P s k ts h (by omega) (by omega)
  have hdr := dropAt' s k hk
  have hlen := toList_len s
  obtain ⟨n, hn0⟩ : ∃ n, ((s.data.toList.drop (k + 1)).takeWhile isDig).length = n := ⟨_, rfl⟩
  have hle : k + 1 + n ≤ s.size := by
    have := takeWhile_le isDig (s.data.toList.drop (k + 1))
    rw [hn0, List.length_drop] at this; omega
  have hw := fun W R => rwhile_dig w0 W P s (k + 1) ts R (by omega) (by omega)
  rw [hn0] at hw
  obtain ⟨Dg, hDg⟩ : ∃ Dg, s.extract (k + 1) (k + 1 + n) = Dg := ⟨_, rfl⟩
  have hDl : Dg.data.toList = (s.data.toList.drop (k + 1)).takeWhile isDig := by rw [← hDg, extract_take, ← hn0, takeWhile_take]
  have hsz : Dg.size ≤ 1048576 := by rw [← toList_len, hDl, hn0]; omega
  obtain ⟨X, hX⟩ : ∃ X, (⟨#[45]⟩ : ByteArray) ++ Dg = X := ⟨_, rfl⟩
  have h45 : byteAt s k = 45 := UInt8.toNat_inj.1 hb
  have hXl : X.data.toList = numD s k := by
    rw [← hX, ByteArray.data_append, Array.toList_append, hDl]
    unfold numD; rw [h45]; rfl
  have hXs : X.size ≤ 1048577 := by rw [← toList_len, hXl]; unfold numD; rw [List.length_cons, hn0]; omega
  have hadd : ∀ w : World, (Op.stringOp .add (⟨#[45]⟩ : ByteArray) Dg).run Tryd.prog w = .ok (.string X) w := fun w => by
    rw [← hX]; exact run_string_add_sum w _ _ (by show 1 + Dg.size ≤ _; omega)
  have HKL : Hid (k + 1 + n = k + (numD s k).length) := Lib.hid (by unfold numD; rw [List.length_cons, hn0]; omega)
  have e45 : (((byteAt s k).toNat : Int) == 45) = true := by rw [hb]; rfl
  have hpar := fun W (E : New w0 W) => parse_range W X (by omega) (by rw [hXl]; exact hp) (he.new E)
  obtain ⟨b, hbb⟩ : ∃ b : Int, ((byteAt s k).toNat : Int) = b := ⟨_, rfl⟩
  rw [hbb] at hpk e45
  rw [hDg] at hw
  clear hbb hDg hDl hXl hX hdr hn0 hlen h45 hb hp
  go_enter Tryd.func78, Tryd.ntmps78
  go_wp2_with fail
  refine hpk.mono ?_
  rintro e w2 ⟨rfl, n2⟩
  have hR2 := h.new n2
  obtain ⟨_, y0, y1, _, hB2⟩ := hR2.cells
  have HR3 := Lib.hid (hR2.go (k + 1))
  clear hR2 hpk h
  go_wp2_with fail
  refine (hw _ HR3.out).mono ?_
  rintro e w4 ⟨rfl, hR4⟩
  go_wp2_with fail
  refine (hpar _ hR4.nw).mono ?_
  rintro e w5 ⟨sat, T, a, rfl, n5⟩
  have HR5 := Lib.hid (hR4.new n5)
  clear hR4
  go_wp2_with fail
  go_ret
  exact ⟨rfl, _, HR5.out⟩
set_option maxRecDepth 100000 in
set_option maxHeartbeats 4000000 in
theorem cnum_p_some (w0 w : World) (P : Nat) (s : ByteArray) (k : Nat) (ts : List LTok) (h : Rd w0 w P s k ts) (he : Env w0) (hk : k < s.size) (hs : s.size ≤ 1048576) (hn : ts.length ≤ 1048576)
    (hb : isDig (byteAt s k) = true) (v : Int) (h0 : -9223372036854775808 ≤ v) (h1 : v ≤ 9223372036854775807) (hp : Lib.parseIntB 64 (numD s k) = .ok v) (hi : Lib.itoa v = numD s k) :
    Calls Tryd.prog 78 #[.pointer (some ⟨P, 0, none⟩), I k] w fun e w' => e = .returned (I 0) ∧ Rd w0 w' P s (k + (numD s k).length) (ts ++ [⟨2, [], v, k⟩]) := by
  have hpk := rpeek0_any w0 w P s k ts h (by omega) (by omega)
  have hdr := dropAt' s k hk
  have hlen := toList_len s
  obtain ⟨n, hn0⟩ : ∃ n, ((s.data.toList.drop k).takeWhile isDig).length = n := ⟨_, rfl⟩
  have hle : k + n ≤ s.size := by
    have := takeWhile_le isDig (s.data.toList.drop k)
    rw [hn0, List.length_drop] at this; omega
  have hw := fun W R => rwhile_dig w0 W P s k ts R (by omega) (by omega)
  rw [hn0] at hw
  obtain ⟨Dg, hDg⟩ : ∃ Dg, s.extract k (k + n) = Dg := ⟨_, rfl⟩
  have hD0 : (s.data.toList.drop k).takeWhile isDig = numD s k := by unfold numD; rw [hdr, List.takeWhile_cons, if_pos hb]
  have hDl : Dg.data.toList = numD s k := by rw [← hDg, extract_take, ← hn0, takeWhile_take, hD0]
  have hsz : Dg.size ≤ 1048576 := by rw [← toList_len, hDl, ← hD0, hn0]; omega
  obtain ⟨X, hX⟩ : ∃ X, (⟨#[]⟩ : ByteArray) ++ Dg = X := ⟨_, rfl⟩
  have hXl : X.data.toList = numD s k := by
    rw [← hX, ByteArray.data_append, Array.toList_append, hDl]; rfl
  have hXs : X.size ≤ 1048577 := by rw [← toList_len, hXl, ← hDl, toList_len]; omega
  have hadd : ∀ w : World, (Op.stringOp .add (⟨#[]⟩ : ByteArray) Dg).run Tryd.prog w = .ok (.string X) w := fun w => by
    rw [← hX]; exact run_string_add_sum w _ _ (by show 0 + Dg.size ≤ _; omega)
  have HKL : Hid (k + n = k + (numD s k).length) := Lib.hid (by rw [← hn0, hD0])
  have e45 : (((byteAt s k).toNat : Int) == 45) = false := by
    have := (isDig_iff _).1 hb
    simpa using fun h : ((byteAt s k).toNat : Int) = 45 => by omega
  have hpar := fun W => parse_ok W X (by omega) v (by rw [hXl]; exact hp)
  have hfmt := fun W (E : New w0 W) => fmt_any W v h0 h1 (he.new E)
  obtain ⟨F, hF⟩ : ∃ F, itoaS v = F := ⟨_, rfl⟩
  rw [hF] at hfmt
  obtain rfl : F = X := by
    rw [← hF]
    apply ByteArray.ext
    apply Array.toList_inj.1
    rw [hXl, ← hi]
    unfold itoaS
    rfl
  have hcmp := lx_yes F
  have hput := fun W (k1 : Nat) R => cput_any w0 W P s k1 ts R 2 [] v k (by omega)
  clear hF
  obtain ⟨b, hbb⟩ : ∃ b : Int, ((byteAt s k).toNat : Int) = b := ⟨_, rfl⟩
  rw [hbb] at hpk e45
  rw [hDg] at hw
  clear hbb hDg hDl hXl hX hdr hn0 hlen hD0 hb hp hi
  go_enter Tryd.func78, Tryd.ntmps78
  go_wp2_with fail
  refine hpk.mono ?_
  rintro e w2 ⟨rfl, n2⟩
  have hR2 := h.new n2
  clear hpk h
  go_wp2_with fail
  refine (hw _ hR2).mono ?_
  rintro e w4 ⟨rfl, hR4⟩
  go_wp2_with fail
  refine (hpar _).mono ?_
  rintro e w5 ⟨rfl, n5⟩
  have hR5 := hR4.new n5
  clear hR4
  go_wp2_with fail
  refine (hfmt _ hR5.nw).mono ?_
  rintro e w6 ⟨rfl, n6⟩
  have hR6 := hR5.new n6
  clear hR5
  go_wp2_with fail
  refine (hput _ _ hR6).mono ?_
  rintro e w7 ⟨rfl, hR7⟩
  have HR7 := Lib.hid hR7
  clear hR7 hR6
  go_wp2_with fail
  go_ret
  exact ⟨rfl, by rw [← HKL.out]; exact HR7.out⟩
set_option maxRecDepth 100000 in
set_option maxHeartbeats 4000000 in
theorem cnum_p_differ (w0 w : World) (P : Nat) (s : ByteArray) (k : Nat) (ts : List LTok) (h : Rd w0 w P s k ts) (he : Env w0) (hk : k < s.size) (hs : s.size ≤ 1048576) (hn : ts.length ≤ 1048576)
    (hb : isDig (byteAt s k) = true) (v : Int) (h0 : -9223372036854775808 ≤ v) (h1 : v ≤ 9223372036854775807) (hp : Lib.parseIntB 64 (numD s k) = .ok v) (hi : Lib.itoa v ≠ numD s k) :
    Calls Tryd.prog 78 #[.pointer (some ⟨P, 0, none⟩), I k] w fun e w' => e = .returned (I 41) ∧ ∃ k', Rd w0 w' P s k' ts := by
  have hpk := rpeek0_any w0 w P s k ts h (by omega) (by omega)
  have hdr := dropAt' s k hk
  have hlen := toList_len s
  obtain ⟨n, hn0⟩ : ∃ n, ((s.data.toList.drop k).takeWhile isDig).length = n := ⟨_, rfl⟩
  have hle : k + n ≤ s.size := by
    have := takeWhile_le isDig (s.data.toList.drop k)
    rw [hn0, List.length_drop] at this; omega
  have hw := fun W R => rwhile_dig w0 W P s k ts R (by omega) (by omega)
  rw [hn0] at hw
  obtain ⟨Dg, hDg⟩ : ∃ Dg, s.extract k (k + n) = Dg := ⟨_, rfl⟩
  have hD0 : (s.data.toList.drop k).takeWhile isDig = numD s k := by unfold numD; rw [hdr, List.takeWhile_cons, if_pos hb]
  have hDl : Dg.data.toList = numD s k := by rw [← hDg, extract_take, ← hn0, takeWhile_take, hD0]
  have hsz : Dg.size ≤ 1048576 := by rw [← toList_len, hDl, ← hD0, hn0]; omega
  obtain ⟨X, hX⟩ : ∃ X, (⟨#[]⟩ : ByteArray) ++ Dg = X := ⟨_, rfl⟩
  have hXl : X.data.toList = numD s k := by
    rw [← hX, ByteArray.data_append, Array.toList_append, hDl]; rfl
  have hXs : X.size ≤ 1048577 := by rw [← toList_len, hXl, ← hDl, toList_len]; omega
  have hadd : ∀ w : World, (Op.stringOp .add (⟨#[]⟩ : ByteArray) Dg).run Tryd.prog w = .ok (.string X) w := fun w => by
    rw [← hX]; exact run_string_add_sum w _ _ (by show 0 + Dg.size ≤ _; omega)
  have HKL : Hid (k + n = k + (numD s k).length) := Lib.hid (by rw [← hn0, hD0])
  have e45 : (((byteAt s k).toNat : Int) == 45) = false := by
    have := (isDig_iff _).1 hb
    simpa using fun h : ((byteAt s k).toNat : Int) = 45 => by omega
  have hpar := fun W => parse_ok W X (by omega) v (by rw [hXl]; exact hp)
  have hfmt := fun W (E : New w0 W) => fmt_any W v h0 h1 (he.new E)
  obtain ⟨F, hF⟩ : ∃ F, itoaS v = F := ⟨_, rfl⟩
  rw [hF] at hfmt
  have hcmp : (F.toList == X.toList) = false := lx_no (by rw [hXl, ← hF]; exact hi)
  clear hF
  obtain ⟨b, hbb⟩ : ∃ b : Int, ((byteAt s k).toNat : Int) = b := ⟨_, rfl⟩
  rw [hbb] at hpk e45
  rw [hDg] at hw
  clear hbb hDg hDl hXl hX hdr hn0 hlen hD0 hb hp hi
  go_enter Tryd.func78, Tryd.ntmps78
  go_wp2_with fail
  refine hpk.mono ?_
  rintro e w2 ⟨rfl, n2⟩
  have hR2 := h.new n2
  clear hpk h
  go_wp2_with fail
  refine (hw _ hR2).mono ?_
  rintro e w4 ⟨rfl, hR4⟩
  go_wp2_with fail
  refine (hpar _).mono ?_
  rintro e w5 ⟨rfl, n5⟩
  have hR5 := hR4.new n5
  clear hR4
  go_wp2_with fail
  refine (hfmt _ hR5.nw).mono ?_
  rintro e w6 ⟨rfl, n6⟩
  have hR6 := hR5.new n6
  clear hR5
  have HR6 := Lib.hid hR6
  clear hR6
  go_wp2_with fail
  go_ret
  exact ⟨rfl, _, HR6.out⟩
set_option maxRecDepth 100000 in
set_option maxHeartbeats 4000000 in
theorem cnum_p_range (w0 w : World) (P : Nat) (s : ByteArray) (k : Nat) (ts : List LTok) (h : Rd w0 w P s k ts) (he : Env w0) (hk : k < s.size) (hs : s.size ≤ 1048576) (hn : ts.length ≤ 1048576)
    (hb : isDig (byteAt s k) = true) (hp : Lib.parseIntB 64 (numD s k) = .range) :
    Calls Tryd.prog 78 #[.pointer (some ⟨P, 0, none⟩), I k] w fun e w' => e = .returned (I 41) ∧ ∃ k', Rd w0 w' P s k' ts := by
  have hpk := rpeek0_any w0 w P s k ts h (by omega) (by omega)
  have hdr := dropAt' s k hk
  have hlen := toList_len s
  obtain ⟨n, hn0⟩ : ∃ n, ((s.data.toList.drop k).takeWhile isDig).length = n := ⟨_, rfl⟩
  have hle : k + n ≤ s.size := by
    have := takeWhile_le isDig (s.data.toList.drop k)
    rw [hn0, List.length_drop] at this; omega
  have hw := fun W R => rwhile_dig w0 W P s k ts R (by omega) (by omega)
  rw [hn0] at hw
  obtain ⟨Dg, hDg⟩ : ∃ Dg, s.extract k (k + n) = Dg := ⟨_, rfl⟩
  have hD0 : (s.data.toList.drop k).takeWhile isDig = numD s k := by unfold numD; rw [hdr, List.takeWhile_cons, if_pos hb]
  have hDl : Dg.data.toList = numD s k := by rw [← hDg, extract_take, ← hn0, takeWhile_take, hD0]
  have hsz : Dg.size ≤ 1048576 := by rw [← toList_len, hDl, ← hD0, hn0]; omega
  obtain ⟨X, hX⟩ : ∃ X, (⟨#[]⟩ : ByteArray) ++ Dg = X := ⟨_, rfl⟩
  have hXl : X.data.toList = numD s k := by
    rw [← hX, ByteArray.data_append, Array.toList_append, hDl]; rfl
  have hXs : X.size ≤ 1048577 := by rw [← toList_len, hXl, ← hDl, toList_len]; omega
  have hadd : ∀ w : World, (Op.stringOp .add (⟨#[]⟩ : ByteArray) Dg).run Tryd.prog w = .ok (.string X) w := fun w => by
    rw [← hX]; exact run_string_add_sum w _ _ (by show 0 + Dg.size ≤ _; omega)
  have HKL : Hid (k + n = k + (numD s k).length) := Lib.hid (by rw [← hn0, hD0])
  have e45 : (((byteAt s k).toNat : Int) == 45) = false := by
    have := (isDig_iff _).1 hb
    simpa using fun h : ((byteAt s k).toNat : Int) = 45 => by omega
  have hpar := fun W (E : New w0 W) => parse_range W X (by omega) (by rw [hXl]; exact hp) (he.new E)
  obtain ⟨b, hbb⟩ : ∃ b : Int, ((byteAt s k).toNat : Int) = b := ⟨_, rfl⟩
  rw [hbb] at hpk e45
  rw [hDg] at hw
  clear hbb hDg hDl hXl hX hdr hn0 hlen hD0 hb hp
  go_enter Tryd.func78, Tryd.ntmps78
  go_wp2_with fail
  refine hpk.mono ?_
  rintro e w2 ⟨rfl, n2⟩
  have hR2 := h.new n2
  clear hpk h
  go_wp2_with fail
  refine (hw _ hR2).mono ?_
  rintro e w4 ⟨rfl, hR4⟩
  go_wp2_with fail
  refine (hpar _ hR4.nw).mono ?_
  rintro e w5 ⟨sat, T, a, rfl, n5⟩
  have HR5 := Lib.hid (hR4.new n5)
  clear hR4
  go_wp2_with fail
  go_ret
  exact ⟨rfl, _, HR5.out⟩
/-- A number that stands at a place: its token, or the error. -/
theorem cnum_any (w0 w : World) (P : Nat) (s : ByteArray) (k : Nat) (ts : List LTok) (h : Rd w0 w P s k ts) (he : Env w0) (hk : k < s.size) (hs : s.size ≤ 1048576) (hn : ts.length ≤ 1048576)
    (hb : isDig (byteAt s k) = true ∨ ((byteAt s k).toNat = 45 ∧ isDig (byteAt s (k + 1)) = true)) :
    Calls Tryd.prog 78 #[.pointer (some ⟨P, 0, none⟩), I k] w fun e w' =>
      (∃ v, numB (numD s k) = some v ∧ e = .returned (I 0) ∧ Rd w0 w' P s (k + (numD s k).length) (ts ++ [⟨2, [], v, k⟩])) ∨ (numB (numD s k) = none ∧ e = .returned (I 41) ∧ ∃ k', Rd w0 w' P s k' ts) := by
  have ha := takeWhile_all isDig (s.data.toList.drop (k + 1))
  rcases hb with hb | ⟨hb, hd⟩
  · rcases numB_plain (byteAt s k) ((s.data.toList.drop (k + 1)).takeWhile isDig) (by simp only [List.all_cons, hb, ha, Bool.and_self]) with ⟨v, h1, h2, h3⟩ | ⟨h1, h2 | ⟨v, h2, h3⟩⟩
    · have hr := numB_rng _ _ h1
      exact (cnum_p_some w0 w P s k ts h he hk hs hn hb v hr.1 hr.2 h2 h3).mono fun e w' hp => Or.inl ⟨v, h1, hp⟩
    · exact (cnum_p_range w0 w P s k ts h he hk hs hn hb h2).mono fun e w' hp => Or.inr ⟨h1, hp⟩
    · have hr := Lib.parseIntB_bounds h2
      exact (cnum_p_differ w0 w P s k ts h he hk hs hn hb v (by have := hr.1; simp at this; omega) (by have := hr.2; simp at this; omega) h2 h3).mono fun e w' hp => Or.inr ⟨h1, hp⟩
  · have h45 : byteAt s k = 45 := UInt8.toNat_inj.1 hb
    have hne : (s.data.toList.drop (k + 1)).takeWhile isDig ≠ [] := by
      have hd2 : isDig ((s.data.toList.drop (k + 1)).headD 0) = true := hd
      obtain ⟨r', e⟩ := headD_some _ (fun e => by rw [e] at hd2; exact absurd hd2 (by decide))
      rw [e, List.takeWhile_cons, if_pos hd2]; simp
    have hD : numD s k = 45 :: (s.data.toList.drop (k + 1)).takeWhile isDig := by unfold numD; rw [h45]
    rcases numB_below _ hne ha with ⟨v, h1, h2, h3⟩ | ⟨h1, h2 | ⟨v, h2, h3⟩⟩
    · rw [← hD] at h1 h2 h3
      have hr := numB_rng _ _ h1
      exact (cnum_m_some w0 w P s k ts h he hk hs hn hb v hr.1 hr.2 h2 h3).mono fun e w' hp => Or.inl ⟨v, h1, hp⟩
    · rw [← hD] at h1 h2
      exact (cnum_m_range w0 w P s k ts h he hk hs hn hb h2).mono fun e w' hp => Or.inr ⟨h1, hp⟩
    · rw [← hD] at h1 h2 h3
      have hr := Lib.parseIntB_bounds h2
      exact (cnum_m_differ w0 w P s k ts h he hk hs hn hb v (by have := hr.1; simp at this; omega) (by have := hr.2; simp at this; omega) h2 h3).mono fun e w' hp => Or.inr ⟨h1, hp⟩
end Go.Proofs.YtohalcbhckahmaaDoor
