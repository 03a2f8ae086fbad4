/-
  Layer 20: the program's counts and lists of integers, read.
-/
import Derived.Test.YtfmpjbiaamkobaaDoorCodeR
namespace Go.Proofs.YtfmpjbiaamkobaaDoor
open Go Go.RowKit Go.Joins
set_option linter.all false

theorem whole_lt (last : Int) (frm : Nat) (hl : 0 ≤ last) : ∀ (k i m : Nat) (L : List Int) (v : Nat) (r : List Int), (∀ b ∈ L, 0 ≤ b ∧ b ≤ 255) → wholeG last frm (k + 1) i m L = .ok v r →
    ∃ n, v = m + n * 128 ^ i ∧ n < 128 ^ k * (last.toNat + 1) ∨ (∃ n, v = m + n * 128 ^ i ∧ n < 128 ^ k) := by
  intro k
  induction k with
  | zero =>
    intro i m L v r hb h
    cases L with
    | nil => cases h
    | cons b L =>
      rw [wholeG_cons] at h
      have hb0 := hb b (by simp)
      by_cases h1 : 128 ≤ b
      · rw [if_pos h1] at h; cases h
      · rw [if_neg h1] at h
        by_cases h2 : (b = 0 ∧ 0 < i) ∨ (0 = 0 ∧ last < b)
        · rw [if_pos h2] at h; cases h
        · rw [if_neg h2] at h
          cases h
          refine ⟨b.toNat, .inl ⟨rfl, ?_⟩⟩
          have : ¬ last < b := fun h => h2 (.inr ⟨rfl, h⟩)
          simp; omega
  | succ k ih =>
    intro i m L v r hb h
    cases L with
    | nil => cases h
    | cons b L =>
      rw [wholeG_cons] at h
      have hb0 := hb b (by simp)
      by_cases h1 : 128 ≤ b
      · rw [if_pos h1] at h
        obtain ⟨n, hn⟩ := ih _ _ _ _ _ (fun x hx => hb x (by simp [hx])) h
        have key : ∀ n, m + b.toNat % 128 * 128 ^ i + n * 128 ^ (i + 1) = m + (b.toNat % 128 + 128 * n) * 128 ^ i := by
          intro n
          rw [Nat.add_mul, Nat.pow_succ, Nat.add_assoc]
          congr 2
          rw [Nat.mul_comm (128 ^ i) 128, ← Nat.mul_assoc, Nat.mul_comm n 128]
        rcases hn with ⟨hv, hlt⟩ | ⟨n, hv, hlt⟩
        · refine ⟨b.toNat % 128 + 128 * n, .inl ⟨by rw [hv, key], ?_⟩⟩
          have : 128 ^ (k + 1) * (last.toNat + 1) = 128 * (128 ^ k * (last.toNat + 1)) := pow_split _ _
          rw [this]; omega
        · refine ⟨0, .inr ⟨b.toNat % 128 + 128 * n, by rw [hv, key], ?_⟩⟩
          rw [Nat.pow_succ]; omega
      · rw [if_neg h1] at h
        by_cases h2 : (b = 0 ∧ 0 < i) ∨ (k + 1 = 0 ∧ last < b)
        · rw [if_pos h2] at h; cases h
        · rw [if_neg h2] at h
          cases h
          refine ⟨0, .inr ⟨b.toNat, rfl, ?_⟩⟩
          have : 0 < 128 ^ k := Nat.pow_pos (by decide)
          rw [Nat.pow_succ]; omega
theorem whole10_lt {L : List Int} {v : Nat} {r : List Int} (hb : ∀ b ∈ L, 0 ≤ b ∧ b ≤ 255) (h : wholeR 10 1 L = .ok v r) : v < 18446744073709551616 := by
  obtain ⟨n, ⟨hv, hn⟩ | ⟨n, hv, hn⟩⟩ := whole_lt 1 L.length (by decide) 9 0 0 L v r hb h
  · simp at hv hn; omega
  · simp at hv hn; omega
theorem count_lt {L : List Int} {v : Nat} {r : List Int} (hb : ∀ b ∈ L, 0 ≤ b ∧ b ≤ 255) (h : countR L = .ok v r) : v < 2097152 := by
  obtain ⟨n, hv, hn, _⟩ := back_whole 127 L.length 3 0 0 L v r hb h
  simp at hv hn; omega

theorem ccount_any (w : World) (G : Nat) (s : ByteArray) (r : List Int) (hs : s.size ≤ 9223372036854775807) (hc : CurAt w G s r) :
    Calls Tryd.prog 33 #[.pointer (some ⟨G, 0, none⟩)] w (ReadAs w G s (fun n : Nat => I (n : Int)) (countR r)) := by
  have hu := cwhole_any w G s r 3 127 (by decide) (by decide) (by decide) hs hc
  have hlt : ∀ v r', countR r = .ok v r' → v < 2097152 := fun v r' h => count_lt hc.rng h
  have hcr : countR r = wholeR 3 127 r := rfl
  rw [hcr] at hlt ⊢
  generalize wholeR 3 127 r = res at hu hlt ⊢
  clear hcr hc
  cases res with
  | bad c k =>
    clear hlt
    go_enter Tryd.func33, Tryd.ntmps33
    go_wp2_with fail
    refine hu.mono ?_
    rintro e w' ⟨rfl, hk⟩
    go_wp2
    exact bodyPost_panic rfl ⟨rfl, hk⟩
  | ok v r' =>
    have hv := hlt v r' rfl
    clear hlt
    go_enter Tryd.func33, Tryd.ntmps33
    go_wp2_with fail
    refine hu.mono ?_
    rintro e w' ⟨rfl, hc', hk⟩
    go_wp2
    go_ret
    exact ⟨rfl, hc', hk⟩

theorem cmany_any (w : World) (G : Nat) (s : ByteArray) (r : List Int) (most : Nat) (hm : most ≤ 1000000) (hs : s.size ≤ 9223372036854775807) (hc : CurAt w G s r) :
    Calls Tryd.prog 34 #[.pointer (some ⟨G, 0, none⟩), I (most : Int)] w (ReadAs w G s (fun n : Nat => I (n : Int)) (manyR most r)) := by
  have hu := ccount_any w G s r hs hc
  have hlen := hc.len
  obtain ⟨at_, hat, hd, hg⟩ := hc
  have hfrom : (at_ : Int) = (s.size : Int) - (r.length : Int) := by
    have := congrArg List.length hd
    rw [List.length_drop, bytesOf_len] at this
    omega
  have HF := Lib.hid hfrom
  have c1 := cell_of_block hg 1
  simp only [List.getElem?_toArray, List.getElem?_cons_zero, List.getElem?_cons_succ] at c1
  clear hd hg hat hfrom
  unfold manyR
  generalize countR r = res at hu ⊢
  cases res with
  | bad c k =>
    go_enter Tryd.func34, Tryd.ntmps34
    go_wp2_with fail
    refine hu.mono ?_
    rintro e w' ⟨rfl, hk⟩
    go_wp2
    exact bodyPost_panic rfl ⟨rfl, hk⟩
  | ok v r' =>
    simp only [Rd.bind_ok]
    by_cases hv : most < v
    · rw [if_pos hv]
      go_enter Tryd.func34, Tryd.ntmps34
      go_wp2_with fail
      refine hu.mono ?_
      rintro e w' ⟨rfl, hc', hk⟩
      go_wp2
      exact bodyPost_panic rfl ⟨by rw [HF.out]; rfl, hk⟩
    · rw [if_neg hv]
      go_enter Tryd.func34, Tryd.ntmps34
      go_wp2_with fail
      refine hu.mono ?_
      rintro e w' ⟨rfl, hc', hk⟩
      go_wp2
      go_ret
      exact ⟨rfl, hc', hk⟩

/-- A list of ints that was read, in memory of the call's own. -/
def ReadL (w : World) (G : Nat) (s : ByteArray) (res : Rd (List Int)) (e : Ending) (w' : World) : Prop := match res with
  | .bad c k => ReadBad w G s c k e w'
  | .ok xs r => ∃ a c, e = .returned (.slice a xs.length c) ∧ OwnI w' w.heap.size a c xs ∧ CurAt w' G s r ∧ Keeps (fun k => k = G) w w'
theorem CurAt.lt {w : World} {G : Nat} {s : ByteArray} {r : List Int} (h : CurAt w G s r) : G < w.heap.size := by
  obtain ⟨_, _, _, h⟩ := h; exact (Array.getElem?_eq_some_iff.1 h).1
theorem CurAt.keeps {S : Nat → Prop} {w w' : World} {G : Nat} {s : ByteArray} {r : List Int} (h : CurAt w G s r) (k : Keeps S w w') (hS : ¬ S G) : CurAt w' G s r := by
  obtain ⟨a, h1, h2, h3⟩ := h; exact ⟨a, h1, h2, k.heap h3 hS⟩
theorem xor_unzig (v : Nat) (hv : v < 18446744073709551616) : bits .xor .i64 ((v : Int) / 2) (-((v : Int) % 2)) = unzig v := by
  have hcomm : ∀ a b : Int, bits .xor .i64 a b = bits .xor .i64 b a := by
    intro a b
    show IntKind.i64.wrap ((BitVec.ofInt 64 a ^^^ BitVec.ofInt 64 b).toNat : Int) = IntKind.i64.wrap ((BitVec.ofInt 64 b ^^^ BitVec.ofInt 64 a).toNat : Int)
    rw [BitVec.xor_comm]
  unfold unzig
  by_cases h : v % 2 = 0
  · rw [if_pos h, show -((v : Int) % 2) = 0 by omega, show (v : Int) / 2 = ((v / 2 : Nat) : Int) by omega]
    show IntKind.i64.wrap ((BitVec.ofInt 64 ((v / 2 : Nat) : Int) ^^^ BitVec.ofInt 64 0).toNat : Int) = _
    have e : BitVec.ofInt 64 0 = 0#64 := by decide
    rw [e, BitVec.xor_zero, ofInt_u64 _ (by omega), IntKind.wrap_i64]
    omega
  · rw [if_neg h, show -((v : Int) % 2) = -1 by omega, show (v : Int) / 2 = ((v / 2 : Nat) : Int) by omega, hcomm, Lib.i64_not _ (by omega)]

set_option maxRecDepth 100000 in
set_option maxHeartbeats 4000000 in
theorem cints_any (w : World) (G : Nat) (s : ByteArray) (r : List Int) (most : Nat) (hm : most ≤ 1024) (hs : s.size ≤ 9223372036854775807) (hc : CurAt w G s r) :
    Calls Tryd.prog 36 #[.pointer (some ⟨G, 0, none⟩), I (most : Int)] w (ReadL w G s (intsR most r)) := by
  obtain ⟨i0, hi, hz0, hz1, hz2⟩ := info_parts Tryd.infoInt
  have hu := cmany_any w G s r most (by omega) hs hc
  have hGl := hc.lt
  have hmle : ∀ n r', manyR most r = .ok n r' → n ≤ most := fun n r' h => many_le h
  unfold intsR listR
  generalize manyR most r = res at hu hmle ⊢
  clear hc
  cases res with
  | bad c k =>
    clear hmle
    go_enter Tryd.func36, Tryd.ntmps36
    go_wp2_with fail
    refine hu.mono ?_
    rintro e w' ⟨rfl, hk⟩
    go_wp2
    exact bodyPost_panic rfl ⟨rfl, hk⟩
  | ok n r1 =>
    have hn := hmle n r1 rfl
    clear hmle
    simp only [Rd.bind_ok]
    obtain ⟨res, hre⟩ : ∃ res, timesR sintR n r1 = res := ⟨_, rfl⟩
    rw [hre]
    have hres : (timesR sintR (n - 0) r1).bind (fun l r' => .ok ([] ++ l) r') = res := by
      rw [Nat.sub_zero, hre]
      cases res <;> rfl
    have HRES := Lib.hid hres
    clear hre
    clear hres
    go_enter Tryd.func36, Tryd.ntmps36
    go_wp2_with fail
    refine hu.mono ?_
    rintro e w1 ⟨rfl, hc1, hk1⟩
    clear hu
    go_wp2_with fail
    go_loopw [5, 6, 10] (fun out _ i wr => ∃ (k : Nat) (acc : List Int) (a : Option Addr) (c : Nat) (r : List Int), k ≤ n ∧ i = .int .i64 k ∧ out = .slice a acc.length c ∧ OwnI wr w.heap.size a c acc ∧ acc.length = k ∧ CurAt wr G s r ∧ Keeps (fun k => k = G) w wr ∧ (timesR sintR (n - k) r).bind (fun l r' => .ok (acc ++ l) r') = res) (fun _ _ i _ => n - (intOf i).toNat)
    case atStart => exact ⟨0, [], none, 0, r1, by omega, rfl, rfl, OwnI.nil _ _, rfl, hc1, hk1, HRES.out⟩
    case round =>
      clear hc1 hk1
      obtain ⟨k, acc, a, c, r, hk, rfl, rfl, hown, hal, hcr, hkr, hres⟩ := hrel
      have HAL := Lib.hid hal
      have hal1 : acc.length ≤ k := by omega
      clear hal
      by_cases hkn : k < n
      · have e1 : n - k = (n - (k + 1)) + 1 := by omega
        rw [e1] at hres
        have hv := cwhole_any wr G s r 10 1 (by decide) (by decide) (by decide) hs hcr
        have hrng := hcr.rng
        have h64 : ∀ v r', wholeR 10 1 r = .ok v r' → v < 18446744073709551616 := fun v r' h => whole10_lt hrng h
        have hres2 : ((wholeR 10 1 r).bind fun n' r' => (Rd.ok (unzig n') r').bind fun x r' => (timesR sintR (n - (k + 1)) r').bind fun l r'' => .ok (acc ++ (x :: l)) r'') = res := by
          rw [← hres]
          show _ = (((wholeR 10 1 r).bind fun n r' => .ok (unzig n) r').bind fun x r' => (timesR sintR (n - (k + 1)) r').bind fun l r'' => .ok (x :: l) r'').bind _
          simp only [Rd.bind_assoc, Rd.bind_ok]
        clear hres e1 hrng
        generalize wholeR 10 1 r = rr at hv h64 hres2
        cases rr with
        | bad cc kk =>
          simp only [Rd.bind_bad] at hres2
          subst hres2
          clear h64
          go_wp2_with fail
          refine hv.mono ?_
          rintro e w' ⟨rfl, hkw⟩
          go_wp2
          exact bodyPost_panic rfl ⟨rfl, hkr.trans hkw (fun _ _ h => h)⟩
        | ok v r' =>
          have hv64 := h64 v r' rfl
          simp only [Rd.bind_ok] at hres2
          have HR := Lib.hid hres2
          have hx := xor_unzig v hv64
          have hand : bits .and .u64 (v : Int) 1 = (v : Int) % 2 := Lib.u64_and1 v (by omega) (by omega)
          clear h64 hres2
          have hsz := hkr.size
          go_wp2_with fail
          refine hv.mono ?_
          rintro e w2 ⟨rfl, hc2, hk2⟩
          have hown2 : OwnI w2 w.heap.size a c acc := hk2.owns hown (fun i hi e => by have := (World.ownsRow.lt hown i hi).1; omega)
          have hkr2 := hkr.trans hk2 (fun _ _ h => h)
          have hsz2 := hkr2.size
          clear hown hcr hkr hv hk2
          go_wp2_with (at_builtin; refine wpList_app rfl _ _ 50 rfl w.heap.size 3 i0 (.int .i64 0) 1 8 Tryd.underlying50 hi hz0 hz1 hz2 rfl (by decide) a acc.length c (Is acc) rfl (OwnI.new hown2 (Keeps.alloc _ _)) _ 1 1 [I (unzig v)] rfl rfl (SlAt.lit _ _ _) (oneCell_ints .i64 [unzig v]) (by unfold maxLen; omega) (by omega) (Nat.le_trans hsz2 (by simp)) ?_)
          intro a' c' w3 hown3 hk3 _ _
          have hno : ∀ i, blk a i → i ≠ G := fun i hb e => by have := (own_of_blk hown2 hb).1; omega
          have hc3 : CurAt w3 G s r' := (hc2.keeps (Keeps.alloc (S := fun _ => False) w2 (.cells #[I (unzig v)] 3)) (fun h => h)).keeps hk3 (fun hb => hno G hb rfl)
          have hkr3 : Keeps (fun k => k = G) w w3 := (hkr2.trans (Keeps.alloc (S := fun k => k = G) w2 (.cells #[I (unzig v)] 3)) (fun _ _ h => h)).trans hk3 (fun i hi hb => by have := (own_of_blk hown2 hb).1; omega)
          have hown4 : OwnI w3 w.heap.size a' c' (acc ++ [unzig v]) := by unfold OwnI; simpa using hown3
          clear hown3 hk3 hown2 hc2 hkr2 hx hand
          go_wp2
          go_roundw
          case rel => exact ⟨k + 1, acc ++ [unzig v], a', c', r', by omega, by go_num, by simp, hown4, by have := HAL.out; simp; omega, hc3, hkr3, by rw [← HR.out]; simp⟩
          case measure => simp [intOf]; omega
      · rw [show n - k = 0 by omega] at hres
        have hr2 : Rd.ok acc r = res := by rw [← hres]; simp [timesR]
        subst hr2
        have hk9 : n ≤ k := by omega
        clear hres hk hkn
        go_wp2_with fail
        go_ret
        exact ⟨a, c, rfl, hown, hcr, hkr⟩
end Go.Proofs.YtfmpjbiaamkobaaDoor
