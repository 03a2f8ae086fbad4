/-
  Layer 20: the program's reader.
-/
import Derived.Test.YtfmpjbiaamkobaaDoorCodeQ
import Derived.Recover
namespace Go.Proofs.YtfmpjbiaamkobaaDoor
open Go Go.RowKit Go.Joins
set_option linter.all false

/-- A string's bytes as numbers. -/
def bytesOf (s : ByteArray) : List Int := s.data.toList.map fun b => (b.toNat : Int)
theorem bytesOf_len (s : ByteArray) : (bytesOf s).length = s.size := by unfold bytesOf; rw [List.length_map, Array.length_toList]; rfl
theorem bytesOf_rng (s : ByteArray) : ∀ b ∈ bytesOf s, 0 ≤ b ∧ b ≤ 255 := by
  intro b hb
  simp only [bytesOf, List.mem_map] at hb
  obtain ⟨u, _, rfl⟩ := hb
  have := u.toNat_lt
  omega

theorem bodyPost_panic {P : Program} {fn : Func} {R : Ending → World → Prop} {a : Act} {w : World} {c : List PanicEntry} (hd : a.defers = []) (h : R (.panicked c) w) : bodyPost P fn R (.panic c) a w := by
  first | exact ⟨hd, h⟩ | exact h

/-- The reader at block G: the bytes r are left of s. -/
def CurAt (w : World) (G : Nat) (s : ByteArray) (r : List Int) : Prop :=
  ∃ at_ : Nat, at_ ≤ s.size ∧ (bytesOf s).drop at_ = r ∧ w.heap[G]? = some (.cells #[.string s, I at_] 70 (0, 0))
def ReadOk (w : World) (G : Nat) (s : ByteArray) (v : Value) (r : List Int) (e : Ending) (w' : World) : Prop := e = .returned v ∧ CurAt w' G s r ∧ Keeps (fun k => k = G) w w'
def faultV (s : ByteArray) (c : Int) (k : Nat) : Value := .iface 43 (.agg #[I c, I ((s.size : Int) - k)])
def ReadBad (w : World) (G : Nat) (s : ByteArray) (c : Int) (k : Nat) (e : Ending) (w' : World) : Prop := e = .panicked [{ v := faultV s c k, recovered := false }] ∧ Keeps (fun k => k = G) w w'

theorem cur_step {w : World} {G at_ n m : Nat} {s : ByteArray} (hat : at_ + 1 ≤ s.size) (hg : w.heap[G]? = some (.cells #[.string s, I at_] 70 (0, 0))) :
    CurAt (((w.drewN n).setCell ⟨G, 1, none⟩ (I ((at_ : Int) + 1))).drewN m) G s ((bytesOf s).drop (at_ + 1)) ∧ Keeps (fun k => k = G) w (((w.drewN n).setCell ⟨G, 1, none⟩ (I ((at_ : Int) + 1))).drewN m) := by
  refine ⟨⟨at_ + 1, hat, rfl, ?_⟩, ((Keeps.drewN (S := fun k => k = G) w n).trans (Keeps.setCell (S := fun k => k = G) (w.drewN n) ⟨G, 1, none⟩ _ rfl) (fun _ _ h => h)).trans (Keeps.drewN (S := fun k => k = G) _ m) (fun _ _ h => h)⟩
  have h1 : (w.drewN n).heap[G]? = some (.cells #[.string s, I at_] 70 (0, 0)) := by simpa [World.drewN] using hg
  have h2 := block_setCell (i := 1) h1 (I ((at_ : Int) + 1))
  have h3 : (((w.drewN n).setCell ⟨G, 1, none⟩ (I ((at_ : Int) + 1))).drewN m).heap[G]? = ((w.drewN n).setCell ⟨G, 1, none⟩ (I ((at_ : Int) + 1))).heap[G]? := by simp [World.drewN]
  rw [h3, h2]
  simp

set_option maxRecDepth 100000 in
set_option maxHeartbeats 2000000 in
theorem next_ok (w : World) (G : Nat) (s : ByteArray) (b : Int) (r : List Int) (hs : s.size ≤ 9223372036854775807) (hc : CurAt w G s (b :: r)) :
    Calls Tryd.prog 35 #[.pointer (some ⟨G, 0, none⟩)] w (ReadOk w G s (.int .u8 b) r) := by
  obtain ⟨at_, hat, hd, hg⟩ := hc
  have hlt : at_ < s.size := by
    rcases Nat.lt_or_ge at_ s.size with h | h
    · exact h
    · rw [List.drop_of_length_le (by rw [bytesOf_len]; exact h)] at hd; cases hd
  have hb : (bytesOf s).drop at_ = (s[at_].toNat : Int) :: (bytesOf s).drop (at_ + 1) := by
    rw [List.drop_eq_getElem_cons (by rw [bytesOf_len]; exact hlt)]
    congr 1
    simp [bytesOf]; rfl
  rw [hb] at hd
  have hbr : (s[at_].toNat : Int) = b ∧ (bytesOf s).drop (at_ + 1) = r := by simpa using hd
  obtain ⟨hb1, hr1⟩ := hbr
  have HB := Lib.hid hb1
  have HR := Lib.hid hr1
  have c0 := cell_of_block hg 0
  have c1 := cell_of_block hg 1
  have z0 := unfrozen_of_block hg 0
  have z1 := unfrozen_of_block hg 1
  simp only [List.getElem?_toArray, List.getElem?_cons_zero, List.getElem?_cons_succ] at c0 c1
  have HG := Lib.hid hg
  have hne : ((at_ : Int) == (s.size : Int)) = false := by simp; omega
  have hat1 : at_ + 1 ≤ s.size := hlt
  clear hd hb hb1 hr1 hg
  go_enter Tryd.func35, Tryd.ntmps35
  go_wp2_with fail
  go_quiet (fail)
  obtain ⟨nqa, hnq⟩ : ∃ n, n = nq := ⟨_, rfl⟩
  rw [← hnq]
  clear hnq
  go_wp2_with fail
  go_quiet (fail)
  go_wp2_with fail
  go_ret
  have hfin := cur_step (n := nqa) (m := nq) hat1 HG.out
  rw [HB.out, HR.out] at *
  exact ⟨rfl, hfin.1, hfin.2⟩

set_option maxRecDepth 100000 in
set_option maxHeartbeats 2000000 in
theorem next_bad (w : World) (G : Nat) (s : ByteArray) (hs : s.size ≤ 9223372036854775807) (hc : CurAt w G s []) :
    Calls Tryd.prog 35 #[.pointer (some ⟨G, 0, none⟩)] w (ReadBad w G s 203 0) := by
  obtain ⟨at_, hat, hd, hg⟩ := hc
  obtain rfl : at_ = s.size := by
    have := congrArg List.length hd
    rw [List.length_drop, bytesOf_len] at this
    simp at this; omega
  have c0 := cell_of_block hg 0
  have c1 := cell_of_block hg 1
  simp only [List.getElem?_toArray, List.getElem?_cons_zero, List.getElem?_cons_succ] at c0 c1
  clear hd hg hat
  go_enter Tryd.func35, Tryd.ntmps35
  go_wp2_with fail
  go_quiet (fail)
  go_wp2_with fail
  refine bodyPost_panic rfl ⟨?_, Keeps.drewN _ _⟩
  simp [faultV]

/-- What reading gives, as a call's end. -/
def ReadAs {α : Type} (w : World) (G : Nat) (s : ByteArray) (val : α → Value) (res : Rd α) (e : Ending) (w' : World) : Prop := match res with
  | .bad c k => ReadBad w G s c k e w'
  | .ok x r => ReadOk w G s (val x) r e w'
theorem next_any (w : World) (G : Nat) (s : ByteArray) (r : List Int) (hs : s.size ≤ 9223372036854775807) (hc : CurAt w G s r) :
    Calls Tryd.prog 35 #[.pointer (some ⟨G, 0, none⟩)] w (ReadAs w G s (Value.int .u8) (nextR r)) := by
  cases r with
  | nil => exact next_bad w G s hs hc
  | cons b r => exact next_ok w G s b r hs hc
theorem CurAt.rng {w : World} {G : Nat} {s : ByteArray} {r : List Int} (h : CurAt w G s r) : ∀ b ∈ r, 0 ≤ b ∧ b ≤ 255 := by
  obtain ⟨a, _, rfl, _⟩ := h
  exact fun b hb => bytesOf_rng s b (List.mem_of_mem_drop hb)
theorem CurAt.len {w : World} {G : Nat} {s : ByteArray} {r : List Int} (h : CurAt w G s r) : r.length ≤ s.size := by
  obtain ⟨a, _, rfl, _⟩ := h
  rw [List.length_drop, bytesOf_len]; omega

theorem pow_7 (k : Nat) : (128 : Nat) ^ k = 2 ^ (7 * k) := by rw [show (128 : Nat) = 2 ^ 7 from rfl, Nat.pow_mul]
theorem or_shift (v k : Nat) (b : Int) (hv : v < 128 ^ k) (hb0 : 0 ≤ b) (hb1 : b ≤ 255) (hk : k ≤ 9) :
    ∃ u : Nat, bits .or .u64 (v : Int) (IntKind.u64.wrap (IntKind.u64.wrap (bits .and .u8 b 127) * 2 ^ (7 * k))) = (u : Int) ∧ ((k < 9 ∨ b.toNat % 128 ≤ 1) → u = v + b.toNat % 128 * 128 ^ k) := by
  have h128 : (128 : Nat) ^ k ≤ 2 ^ 63 := by rw [pow_7]; exact Nat.pow_le_pow_right (by decide) (by omega)
  have e1 : bits .and .u8 b 127 = ((b.toNat % 128 : Nat) : Int) := by
    have h := u8_and b 127 hb0 (by omega) (by decide) (by decide)
    rw [h, show (127 : Int).toNat = 127 from rfl, nat_mask7]
  have e2 : IntKind.u64.wrap ((b.toNat % 128 : Nat) : Int) = ((b.toNat % 128 : Nat) : Int) := by rw [IntKind.wrap_u64]; omega
  have e3 : IntKind.u64.wrap (((b.toNat % 128 : Nat) : Int) * 2 ^ (7 * k)) = ((b.toNat % 128 * 2 ^ (7 * k) % 18446744073709551616 : Nat) : Int) := by
    rw [IntKind.wrap_u64]
    simp
  rw [e1, e2, e3]
  have hX : b.toNat % 128 * 2 ^ (7 * k) % 18446744073709551616 < 18446744073709551616 := Nat.mod_lt _ (by decide)
  have hd : (b.toNat % 128 * 2 ^ (7 * k) % 18446744073709551616) % 2 ^ (7 * k) = 0 := by
    rw [show (18446744073709551616 : Nat) = 2 ^ (7 * k) * 2 ^ (64 - 7 * k) by rw [← Nat.pow_add, show 7 * k + (64 - 7 * k) = 64 by omega]]
    rw [Nat.mod_mul_right_mod, Nat.mul_mod_left]
  rw [u64_or_nat v _ (by omega) hX]
  rw [Nat.or_comm, nat_join (7 * k) _ v hd (by rw [← pow_7]; exact hv)]
  refine ⟨_, rfl, fun h => ?_⟩
  have hlt : b.toNat % 128 * 2 ^ (7 * k) < 18446744073709551616 := by
    rcases h with h | h
    · have h1 : (2 : Nat) ^ (7 * k) ≤ 2 ^ 56 := Nat.pow_le_pow_right (by decide) (by omega)
      have h2 : b.toNat % 128 * 2 ^ (7 * k) ≤ 127 * 2 ^ 56 := Nat.mul_le_mul (by omega) h1
      exact Nat.lt_of_le_of_lt h2 (by decide)
    · have h1 : (2 : Nat) ^ (7 * k) ≤ 2 ^ 63 := Nat.pow_le_pow_right (by decide) (by omega)
      have h2 : b.toNat % 128 * 2 ^ (7 * k) ≤ 1 * 2 ^ 63 := Nat.mul_le_mul h h1
      exact Nat.lt_of_le_of_lt h2 (by decide)
  rw [Nat.mod_eq_of_lt hlt, pow_7]; omega

set_option maxRecDepth 100000 in
set_option maxHeartbeats 4000000 in
theorem cwhole_any (w : World) (G : Nat) (s : ByteArray) (r0 : List Int) (bytes : Nat) (last : Int) (hb : 0 < bytes ∧ bytes ≤ 10) (hl : 0 ≤ last ∧ last ≤ 127) (hl9 : bytes = 10 → last ≤ 1) (hs : s.size ≤ 9223372036854775807) (hc : CurAt w G s r0) :
    Calls Tryd.prog 41 #[.pointer (some ⟨G, 0, none⟩), I bytes, .int .u8 last] w (ReadAs w G s (fun n : Nat => Value.int .u64 n) (wholeR bytes last r0)) := by
  have hres : wholeG last r0.length (bytes - 0) 0 0 r0 = wholeR bytes last r0 := rfl
  have HRES := Lib.hid hres
  have hlen := hc.len
  obtain ⟨hb0, hb1⟩ := hb
  obtain ⟨hl0, hl1⟩ := hl
  have H9 := Lib.hid hl9
  generalize wholeR bytes last r0 = res at HRES ⊢
  clear hres hl9
  have hc' := hc
  obtain ⟨at_, hat, hd, hg⟩ := hc
  have hfrom : (at_ : Int) = (s.size : Int) - (r0.length : Int) := by
    have := congrArg List.length hd
    rw [List.length_drop, bytesOf_len] at this
    omega
  have HF := Lib.hid hfrom
  have c1 := cell_of_block hg 1
  simp only [List.getElem?_toArray, List.getElem?_cons_zero, List.getElem?_cons_succ] at c1
  clear hd hg hat hfrom
  go_enter Tryd.func41, Tryd.ntmps41
  go_wp2_with fail
  go_loopw [8, 9, 10, 16] (fun n _ _ i wr => ∃ (k v : Nat) (r : List Int), k ≤ bytes ∧ i = .int .i64 k ∧ n = .int .u64 v ∧ (k < bytes → v < 128 ^ k ∧ wholeG last r0.length (bytes - k) k v r = res) ∧ (k = bytes → res = .bad 41 r0.length) ∧ CurAt wr G s r ∧ Keeps (fun k => k = G) w wr) (fun _ _ _ i _ => bytes - (intOf i).toNat)
  case atStart => exact ⟨0, 0, r0, by omega, rfl, rfl, fun _ => ⟨by decide, HRES.out⟩, fun h => by omega, hc', Keeps.refl _ _⟩
  case round =>
    clear hc' c1
    obtain ⟨k, v, r, hk, rfl, rfl, h1, h2, hcr, hkp⟩ := hrel
    have H1 := Lib.hid h1
    have H2 := Lib.hid h2
    clear h1 h2
    have hrng := hcr.rng
    by_cases hk1 : k < bytes
    · obtain ⟨hv, hres⟩ := H1.out hk1
      have hb2 : bytes - k = (bytes - k - 1) + 1 := by omega
      rw [hb2] at hres
      cases r with
      | nil =>
        have hre : res = .bad 203 0 := hres.symm
        subst hre
        go_wp2_with fail
        refine (next_bad wr G s hs hcr).mono ?_
        rintro e w' ⟨rfl, hkw⟩
        go_wp2
        exact bodyPost_panic rfl ⟨rfl, hkp.trans hkw (fun _ _ h => h)⟩
      | cons b r =>
        have hbr := hrng b (by simp)
        rw [wholeG_cons] at hres
        have HR := Lib.hid hres
        clear hb2 hrng
        obtain ⟨b0, b1⟩ := hbr
        obtain ⟨u, hu, hu2⟩ := or_shift v k b hv b0 b1 (by omega)
        have HU := Lib.hid hu2
        have HV := Lib.hid hv
        clear hres hv hu2
        by_cases h128 : 128 ≤ b
        · go_wp2_with fail
          refine (next_ok wr G s b r hs hcr).mono ?_
          rintro e w' ⟨rfl, hc2, hkw⟩
          go_wp2_with fail
          go_roundw
          case rel =>
            refine ⟨k + 1, u, r, by omega, by go_num, rfl, fun hk2 => ?_, fun hk2 => ?_, hc2, hkp.trans hkw (fun _ _ h => h)⟩
            · have he := HU.out (.inl (by omega))
              have hr := HR.out
              rw [if_pos h128] at hr
              have hv := HV.out
              refine ⟨?_, by rw [he, show bytes - (k + 1) = bytes - k - 1 by omega]; exact hr⟩
              rw [he, Nat.pow_succ]
              have : b.toNat % 128 * 128 ^ k ≤ 127 * 128 ^ k := Nat.mul_le_mul_right _ (by omega)
              omega
            · have hr := HR.out
              rw [if_pos h128, show bytes - k - 1 = 0 by omega] at hr
              exact hr.symm
          case measure => simp [intOf]; omega
        · have hr := HR.out
          rw [if_neg h128] at hr
          by_cases hbad : (b = 0 ∧ 0 < k) ∨ (bytes - k - 1 = 0 ∧ last < b)
          · rw [if_pos hbad] at hr
            subst hr
            have hbad2 : (b = 0 ∧ 0 < k) ∨ (¬ (b = 0 ∧ 0 < k) ∧ (k : Int) = (bytes : Int) - 1 ∧ last < b) := by omega
            clear hbad
            rcases hbad2 with ⟨rfl, hk0⟩ | ⟨hn, hke, hlb⟩
            · go_wp2_with fail
              refine (next_ok wr G s 0 r hs hcr).mono ?_
              rintro e w' ⟨rfl, hc2, hkw⟩
              go_wp2_with fail
              exact bodyPost_panic rfl ⟨by rw [HF.out]; rfl, hkp.trans hkw (fun _ _ h => h)⟩
            · have ek : ((k : Int) == (bytes : Int) - 1) = true := by simpa using hke
              have hlb' : last < b := hlb
              have HK := Lib.hid hke
              clear hke
              by_cases hz : b = 0
              · omega
              · have ez : (b == 0) = false := by simpa using hz
                clear hz hn
                go_wp2_with fail
                refine (next_ok wr G s b r hs hcr).mono ?_
                rintro e w' ⟨rfl, hc2, hkw⟩
                go_wp2_with fail
                exact bodyPost_panic rfl ⟨by rw [HF.out]; rfl, hkp.trans hkw (fun _ _ h => h)⟩
          · rw [if_neg hbad] at hr
            subst hr
            have hval : u = v + b.toNat * 128 ^ k := by
              have h1 : k < 9 ∨ b.toNat % 128 ≤ 1 := by
                by_cases h9 : k < 9
                · exact .inl h9
                · have := H9.out (by omega)
                  right
                  have : ¬ last < b := fun h => hbad (.inr ⟨by omega, h⟩)
                  omega
              rw [HU.out h1, show b.toNat % 128 = b.toNat by omega]
            have HVL := Lib.hid hval
            have hb9 : ¬ ((b = 0 ∧ 0 < k) ∨ ((k : Int) = (bytes : Int) - 1 ∧ last < b)) := by omega
            clear hbad hval
            by_cases hz : b = 0
            · subst hz
              have hk0 : k = 0 := by omega
              subst hk0
              simp only [Nat.mul_zero, Int.pow_zero, Int.mul_one] at hu
              have hll : ¬ last < 0 := by omega
              by_cases hke : (0 : Int) = (bytes : Int) - 1
              · have ek : ((0 : Int) == (bytes : Int) - 1) = true := by simpa using hke
                clear hke hb9
                go_wp2_with fail
                refine (next_ok wr G s 0 r hs hcr).mono ?_
                rintro e w' ⟨rfl, hc2, hkw⟩
                go_wp2_with fail
                go_ret
                rw [HVL.out]
                exact ⟨rfl, hc2, hkp.trans hkw (fun _ _ h => h)⟩
              · have ek : ((0 : Int) == (bytes : Int) - 1) = false := by simpa using hke
                clear hke hb9
                go_wp2_with fail
                refine (next_ok wr G s 0 r hs hcr).mono ?_
                rintro e w' ⟨rfl, hc2, hkw⟩
                go_wp2_with fail
                go_ret
                rw [HVL.out]
                exact ⟨rfl, hc2, hkp.trans hkw (fun _ _ h => h)⟩
            · have ez : (b == 0) = false := by simpa using hz
              by_cases hke : (k : Int) = (bytes : Int) - 1
              · have ek : ((k : Int) == (bytes : Int) - 1) = true := by simpa using hke
                have hll : ¬ last < b := fun h => hb9 (.inr ⟨hke, h⟩)
                clear hke hb9 hz
                go_wp2_with fail
                refine (next_ok wr G s b r hs hcr).mono ?_
                rintro e w' ⟨rfl, hc2, hkw⟩
                go_wp2_with fail
                go_ret
                rw [HVL.out]
                exact ⟨rfl, hc2, hkp.trans hkw (fun _ _ h => h)⟩
              · have ek : ((k : Int) == (bytes : Int) - 1) = false := by simpa using hke
                clear hke hb9 hz
                go_wp2_with fail
                refine (next_ok wr G s b r hs hcr).mono ?_
                rintro e w' ⟨rfl, hc2, hkw⟩
                go_wp2_with fail
                go_ret
                rw [HVL.out]
                exact ⟨rfl, hc2, hkp.trans hkw (fun _ _ h => h)⟩
    · have hke : k = bytes := by omega
      have hr := H2.out hke
      subst hr
      have hk9 : bytes ≤ k := by omega
      clear hke hk hk1
      go_wp2_with fail
      exact bodyPost_panic rfl ⟨by rw [HF.out]; rfl, hkp⟩
end Go.Proofs.YtfmpjbiaamkobaaDoor
