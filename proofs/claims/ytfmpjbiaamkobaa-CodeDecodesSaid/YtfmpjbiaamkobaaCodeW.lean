/-
  Layer 20: the document's reader: a spot, a byte, a number.
-/
import Derived.Test.YtfmpjbiaamkobaaCodeV
namespace Go.Proofs.Ytfmpjbiaamkobaa
open Go Go.RowKit Go.Joins
set_option linter.all false

abbrev SpC (s : ByteArray) (at_ c a : Int) : Array Value := #[.string s, I at_, I c, I a]
abbrev Sp (s : ByteArray) (at_ c a : Int) : Value := .agg (SpC s at_ c a)
/-- What the document's reading gives, as a call's end. -/
def RefAs {α : Type} (w : World) (s : ByteArray) (val : α → Value) (d : Value) (res : Rd α) (e : Ending) (w' : World) : Prop := match res with
  | .ok x r => ∃ at_ : Nat, at_ ≤ s.size ∧ (bytesOf s).drop at_ = r ∧ e = .returned (.tuple #[Sp s at_ 0 0, val x]) ∧ New w w'
  | .bad c k => ∃ at_ : Nat, at_ ≤ s.size ∧ c ≠ 0 ∧ e = .returned (.tuple #[Sp s at_ c ((s.size : Int) - k), d]) ∧ New w w'
/-- A spot in a block. -/
theorem sp_cells {w : World} {B : Nat} {s : ByteArray} {at_ c a : Int} (h : w.heap[B]? = some (.cells (SpC s at_ c a) 74 (0, 0))) :
    w.cell? ⟨B, 0, none⟩ = some (.string s) ∧ w.cell? ⟨B, 1, none⟩ = some (I at_) ∧ w.cell? ⟨B, 2, none⟩ = some (I c) ∧ w.cell? ⟨B, 3, none⟩ = some (I a) ∧
    w.frozen? ⟨B, 0, none⟩ = false ∧ w.frozen? ⟨B, 1, none⟩ = false ∧ w.frozen? ⟨B, 2, none⟩ = false ∧ w.frozen? ⟨B, 3, none⟩ = false := by
  refine ⟨?_, ?_, ?_, ?_, unfrozen_of_block h 0, unfrozen_of_block h 1, unfrozen_of_block h 2, unfrozen_of_block h 3⟩
  · rw [cell_of_block h 0]; simp
  · rw [cell_of_block h 1]; simp
  · rw [cell_of_block h 2]; simp
  · rw [cell_of_block h 3]; simp

/-- A spot written anew. -/
theorem sp_set {w : World} {B : Nat} {s0 : ByteArray} {a0 c0 f0 : Int} (h : w.heap[B]? = some (.cells (SpC s0 a0 c0 f0) 74 (0, 0))) (s : ByteArray) (a c f : Int) :
    ((((w.setCell ⟨B, 0, none⟩ (.string s)).setCell ⟨B, 1, none⟩ (I a)).setCell ⟨B, 2, none⟩ (I c)).setCell ⟨B, 3, none⟩ (I f)).heap[B]? = some (.cells (SpC s a c f) 74 (0, 0)) ∧
    Keeps (fun k => k = B) w ((((w.setCell ⟨B, 0, none⟩ (.string s)).setCell ⟨B, 1, none⟩ (I a)).setCell ⟨B, 2, none⟩ (I c)).setCell ⟨B, 3, none⟩ (I f)) := by
  have h0 := block_setCell (i := 0) h (.string s)
  have h1 := block_setCell (i := 1) h0 (I a)
  have h2 := block_setCell (i := 2) h1 (I c)
  have h3 := block_setCell (i := 3) h2 (I f)
  refine ⟨by rw [h3]; simp, ?_⟩
  exact (((Keeps.setCell (S := fun k => k = B) w ⟨B, 0, none⟩ (.string s) rfl).trans (Keeps.setCell (S := fun k => k = B) _ ⟨B, 1, none⟩ (I a) rfl) (fun _ _ h => h)).trans (Keeps.setCell (S := fun k => k = B) _ ⟨B, 2, none⟩ (I c) rfl) (fun _ _ h => h)).trans (Keeps.setCell (S := fun k => k = B) _ ⟨B, 3, none⟩ (I f) rfl) (fun _ _ h => h)

set_option maxRecDepth 100000 in
set_option maxHeartbeats 2000000 in
theorem fail_any (w : World) (s : ByteArray) (at_ e a : Int) :
    Calls Try.prog 44 #[Sp s at_ 0 0, I e, I a] w fun en w' => en = .returned (Sp s at_ e a) ∧ New w w' := by
  go_enter Try.func44, Try.ntmps44
  go_wp2_with fail
  exact bodyPost_ret (v := Sp s at_ e a) (by simp [results, Try.results44, go_sem]) rfl ⟨rfl, ((New.refl w).alloc _).alloc _⟩

set_option maxRecDepth 100000 in
set_option maxHeartbeats 2000000 in
theorem rone_bad (w : World) (s : ByteArray) (at_ c a : Int) (hc : c ≠ 0) :
    Calls Try.prog 60 #[Sp s at_ c a] w fun e w' => e = .returned (.tuple #[Sp s at_ c a, I 0]) ∧ New w w' := by
  have hc1 : (c != 0) = true := by simpa using hc
  clear hc
  go_enter Try.func60, Try.ntmps60
  go_wp2_with fail
  exact bodyPost_ret (v := .tuple #[Sp s at_ c a, I 0]) (by simp [results, Try.results60, go_sem]) rfl ⟨rfl, ((New.refl w).alloc _).alloc _⟩

set_option maxRecDepth 100000 in
set_option maxHeartbeats 2000000 in
theorem rone_any (w : World) (s : ByteArray) (at_ : Nat) (r : List Int) (hs : s.size ≤ 9223372036854775807) (hat : at_ ≤ s.size) (hr : (bytesOf s).drop at_ = r) :
    Calls Try.prog 60 #[Sp s at_ 0 0] w (RefAs w s I (I 0) (nextR r)) := by
  cases r with
  | nil =>
    obtain rfl : at_ = s.size := by
      have := congrArg List.length hr
      rw [List.length_drop, bytesOf_len] at this
      simp at this; omega
    clear hr
    go_enter Try.func60, Try.ntmps60
    go_wp2_with fail
    have hR : ((w.alloc (.cells (SpC s s.size 0 0) 74)).alloc (.cells #[.string ⟨#[]⟩, I 0, I 0, I 0] 74)).heap[w.heap.size + 1]? = some (.cells (SpC ⟨#[]⟩ 0 0 0) 74 (0, 0)) := by
      have := heap_alloc_new (w.alloc (.cells (SpC s s.size 0 0) 74)) (.cells #[.string ⟨#[]⟩, I 0, I 0, I 0] 74)
      simpa using this
    have hN : New w ((w.alloc (.cells (SpC s s.size 0 0) 74)).alloc (.cells #[.string ⟨#[]⟩, I 0, I 0, I 0] 74)) := ((New.refl w).alloc _).alloc _
    refine (fail_any _ s s.size 203 s.size).mono ?_
    rintro e w2 ⟨rfl, k2⟩
    obtain ⟨c0, c1, c2, c3, z0, z1, z2, z3⟩ := sp_cells (Keeps.heap k2 hR (fun h => h))
    have hN2 := hN.trans k2
    clear hR hN k2
    go_wp2_with fail
    exact bodyPost_ret (v := .tuple #[Sp s s.size 203 s.size, I 0]) (by simp [results, Try.results60, go_sem, c0, c1, c2, c3, z0, z1, z2, z3]) rfl ⟨s.size, Nat.le_refl _, by decide, by simp, (((hN2.setCell (by simp) _).setCell (by simp) _).setCell (by simp) _).setCell (by simp) _⟩
  | cons b r =>
    have hlt : at_ < s.size := by
      rcases Nat.lt_or_ge at_ s.size with h | h
      · exact h
      · rw [List.drop_of_length_le (by rw [bytesOf_len]; exact h)] at hr; cases hr
    have hb : (bytesOf s).drop at_ = (s[at_].toNat : Int) :: (bytesOf s).drop (at_ + 1) := by
      rw [List.drop_eq_getElem_cons (by rw [bytesOf_len]; exact hlt)]
      congr 1
      simp [bytesOf]; rfl
    rw [hb] at hr
    have hbr : (s[at_].toNat : Int) = b ∧ (bytesOf s).drop (at_ + 1) = r := by simpa using hr
    have HB := Lib.hid hbr.1
    have HR := Lib.hid hbr.2
    have h255 : s[at_].toNat < 256 := s[at_].toNat_lt
    clear hr hb hbr
    go_enter Try.func60, Try.ntmps60
    go_wp2_with fail
    rw [← HB.out]
    exact bodyPost_ret (v := .tuple #[Sp s ((at_ : Int) + 1) 0 0, I s[at_].toNat]) (by simp [results, Try.results60, go_sem]) rfl ⟨at_ + 1, hlt, HR.out, by simp, ((New.refl w).alloc _).alloc _⟩
set_option maxRecDepth 100000 in
set_option maxHeartbeats 4000000 in
theorem rwhole_bad (w : World) (s : ByteArray) (at_ c a : Int) (hc : c ≠ 0) (bytes : Nat) (hb : 0 < bytes ∧ bytes ≤ 10) (last : Int) :
    Calls Try.prog 58 #[Sp s at_ c a, I bytes, I last] w fun e w' => e = .returned (.tuple #[Sp s at_ c a, .int .u64 0]) ∧ New w w' := by
  obtain ⟨hb0, hb1⟩ := hb
  have hc1 : (c != 0) = true := by simpa using hc
  have H := Lib.hid hc
  clear hc
  go_enter Try.func58, Try.ntmps58
  go_wp2_with fail
  have hB0 : ((w.alloc (.cells (SpC s at_ c a) 74)).alloc (.cells #[.string ⟨#[]⟩, I 0, I 0, I 0] 74)).heap[w.heap.size]? = some (.cells (SpC s at_ c a) 74 (0, 0)) := Keeps.heap (Keeps.alloc (S := fun _ => False) _ _) (heap_alloc_new w _) (fun h => h)
  have hR : ((w.alloc (.cells (SpC s at_ c a) 74)).alloc (.cells #[.string ⟨#[]⟩, I 0, I 0, I 0] 74)).heap[w.heap.size + 1]? = some (.cells (SpC ⟨#[]⟩ 0 0 0) 74 (0, 0)) := by
    have := heap_alloc_new (w.alloc (.cells (SpC s at_ c a) 74)) (.cells #[.string ⟨#[]⟩, I 0, I 0, I 0] 74)
    simpa using this
  have hN : New w ((w.alloc (.cells (SpC s at_ c a) 74)).alloc (.cells #[.string ⟨#[]⟩, I 0, I 0, I 0] 74)) := ((New.refl w).alloc _).alloc _
  generalize ((w.alloc (.cells (SpC s at_ c a) 74)).alloc (.cells #[.string ⟨#[]⟩, I 0, I 0, I 0] 74)) = wS at hB0 hR hN ⊢
  go_loopw [11] (fun i wr => i = .int .i64 0 ∧ wr = wS) (fun i _ => 0)
  case atStart => exact ⟨rfl, rfl⟩
  case round =>
    obtain ⟨rfl, rfl⟩ := hrel
    obtain ⟨c0, c1, c2, c3, z0, z1, z2, z3⟩ := sp_cells hB0
    have h10 : (0 : Int) < (bytes : Int) := by omega
    go_wp2_with fail
    refine (rone_bad _ s at_ c a H.out).mono ?_
    rintro e w2 ⟨rfl, k2⟩
    have hB2 := Keeps.heap k2 hB0 (fun h => h)
    have hR2 := Keeps.heap k2 hR (fun h => h)
    have hN2 := hN.trans k2
    clear c0 c1 c2 c3 z0 z1 z2 z3
    obtain ⟨c0, c1, c2, c3, z0, z1, z2, z3⟩ := sp_cells hB2
    obtain ⟨r0, r1, r2, r3, y0, y1, y2, y3⟩ := sp_cells hR2
    have hsz : w.heap.size + 1 < w2.heap.size := (Array.getElem?_eq_some_iff.1 hR2).1
    have hsz0 : w.heap.size < w2.heap.size := by omega
    go_wp2_with fail
    exact bodyPost_ret (v := .tuple #[Sp s at_ c a, .int .u64 0]) (by simp [results, Try.results58, go_sem, c0, c1, c2, c3, z0, z1, z2, z3, r0, r1, r2, r3, y0, y1, y2, y3, hsz, hsz0]) rfl ⟨rfl, by repeat (with_reducible first | exact hN2 | refine New.setCell ?_ ?_ _ | refine New.alloc ?_ _ | exact Nat.le_refl _ | (dsimp only; omega))⟩
def two64 : Nat := 18446744073709551616
theorem wrap_nat (n : Nat) : IntKind.u64.wrap (n : Int) = ((n % two64 : Nat) : Int) := by
  rw [IntKind.wrap_u64, Int.natCast_emod, show ((two64 : Nat) : Int) = 18446744073709551616 from rfl]
theorem p56 {k : Nat} (h : k < 9) : (128 : Nat) ^ k ≤ 72057594037927936 := by
  have : (128 : Nat) ^ k ≤ 2 ^ 56 := by rw [pow_7]; exact Nat.pow_le_pow_right (by decide) (by omega)
  simpa using this
theorem p63 {k : Nat} (h : k ≤ 9) : (128 : Nat) ^ k ≤ 9223372036854775808 := by
  have : (128 : Nat) ^ k ≤ 2 ^ 63 := by rw [pow_7]; exact Nat.pow_le_pow_right (by decide) (by omega)
  simpa using this
theorem mod64 {n : Nat} (h : n < 18446744073709551616) : n % two64 = n := Nat.mod_eq_of_lt (by unfold two64; exact h)
theorem mul_add_u64 (v t : Nat) (x : Int) (hx : 0 ≤ x ∧ x < 128) (k : Nat) (hk : k ≤ 9) (hv : v < 128 ^ k) (ht : t = 128 ^ k) :
    ∃ u : Nat, IntKind.u64.wrap ((v : Int) + IntKind.u64.wrap ((t : Int) * x)) = (u : Int) ∧ ((k < 9 ∨ x ≤ 1) → u = v + x.toNat * 128 ^ k) := by
  obtain ⟨X, rfl⟩ := Int.eq_ofNat_of_zero_le hx.1
  have h128 := p63 hk
  have e1 : IntKind.u64.wrap ((t : Int) * (X : Int)) = ((t * X % two64 : Nat) : Int) := by rw [← wrap_nat, Int.natCast_mul]
  have e2 : IntKind.u64.wrap ((v : Int) + ((t * X % two64 : Nat) : Int)) = (((v + t * X % two64) % two64 : Nat) : Int) := by
    have h := wrap_nat (v + t * X % two64)
    rw [Int.natCast_add] at h; exact h
  rw [e1, e2]
  refine ⟨_, rfl, fun h => ?_⟩
  have hX : X < 128 := by omega
  have hm : t * X ≤ 9223372036854775808 := by
    rw [ht]
    rcases h with h | h
    · exact Nat.le_trans (Nat.mul_le_mul (p56 h) (Nat.le_of_lt hX)) (by decide)
    · have h3 : X ≤ 1 := by omega
      exact Nat.le_trans (Nat.mul_le_mul h128 h3) (by decide)
  have hv2 : v < 9223372036854775808 := Nat.lt_of_lt_of_le hv h128
  rw [mod64 (n := t * X) (by omega), mod64 (by omega), Int.toNat_natCast, ht, Nat.mul_comm X]
theorem unit_u64 (t k : Nat) (ht : t = 128 ^ k) (hk : k ≤ 9) : ∃ u : Nat, IntKind.u64.wrap ((t : Int) * 128) = (u : Int) ∧ (k < 9 → u = 128 ^ (k + 1)) := by
  have e1 : IntKind.u64.wrap ((t : Int) * 128) = ((t * 128 % two64 : Nat) : Int) := by rw [← wrap_nat, Int.natCast_mul]; rfl
  refine ⟨_, e1, fun h => ?_⟩
  have h1 := p56 h
  rw [← ht] at h1
  rw [mod64 (by omega), ht, Nat.pow_succ]

set_option maxRecDepth 100000 in
set_option maxHeartbeats 8000000 in
theorem rwhole_any (w : World) (s : ByteArray) (at0 : Nat) (r0 : List Int) (bytes : Nat) (last : Int) (hb : 0 < bytes ∧ bytes ≤ 10) (hl : 0 ≤ last ∧ last ≤ 127) (hl9 : bytes = 10 → last ≤ 1) (hs : s.size ≤ 9223372036854775807) (hat0 : at0 ≤ s.size) (hr0 : (bytesOf s).drop at0 = r0) :
    Calls Try.prog 58 #[Sp s at0 0 0, I bytes, I last] w (RefAs w s (fun n : Nat => Value.int .u64 n) (.int .u64 0) (wholeR bytes last r0)) := by
  have hres : wholeG last r0.length (bytes - 0) 0 0 r0 = wholeR bytes last r0 := rfl
  have HRES := Lib.hid hres
  obtain ⟨hb0, hb1⟩ := hb
  obtain ⟨hl0, hl1⟩ := hl
  have H9 := Lib.hid hl9
  generalize wholeR bytes last r0 = res at HRES ⊢
  clear hres hl9
  have hfrom : (at0 : Int) = (s.size : Int) - (r0.length : Int) := by
    have := congrArg List.length hr0
    rw [List.length_drop, bytesOf_len] at this
    omega
  have HF := Lib.hid hfrom
  have HR0 := Lib.hid hr0
  clear hfrom hr0
  go_enter Try.func58, Try.ntmps58
  go_wp2_with fail
  have hB0 : ((w.alloc (.cells (SpC s at0 0 0) 74)).alloc (.cells #[.string ⟨#[]⟩, I 0, I 0, I 0] 74)).heap[w.heap.size]? = some (.cells (SpC s at0 0 0) 74 (0, 0)) := Keeps.heap (Keeps.alloc (S := fun _ => False) _ _) (heap_alloc_new w _) (fun h => h)
  have hR : ((w.alloc (.cells (SpC s at0 0 0) 74)).alloc (.cells #[.string ⟨#[]⟩, I 0, I 0, I 0] 74)).heap[w.heap.size + 1]? = some (.cells (SpC ⟨#[]⟩ 0 0 0) 74 (0, 0)) := by
    have := heap_alloc_new (w.alloc (.cells (SpC s at0 0 0) 74)) (.cells #[.string ⟨#[]⟩, I 0, I 0, I 0] 74)
    simpa using this
  have hN : New w ((w.alloc (.cells (SpC s at0 0 0) 74)).alloc (.cells #[.string ⟨#[]⟩, I 0, I 0, I 0] 74)) := ((New.refl w).alloc _).alloc _
  generalize ((w.alloc (.cells (SpC s at0 0 0) 74)).alloc (.cells #[.string ⟨#[]⟩, I 0, I 0, I 0] 74)) = wS at hB0 hR hN ⊢
  go_loopw [9, 10, 11, 12, 13] (fun n t i _ _ wr => ∃ (k v u at_ : Nat) (r : List Int), k ≤ bytes ∧ i = .int .i64 k ∧ n = .int .u64 v ∧ t = .int .u64 u ∧ (k < bytes → v < 128 ^ k ∧ u = 128 ^ k ∧ wholeG last r0.length (bytes - k) k v r = res) ∧ (k = bytes → res = .bad 41 r0.length) ∧ at_ ≤ s.size ∧ (bytesOf s).drop at_ = r ∧ wr.heap[w.heap.size]? = some (.cells (SpC s at_ 0 0) 74 (0, 0)) ∧ wr.heap[w.heap.size + 1]? = some (.cells (SpC ⟨#[]⟩ 0 0 0) 74 (0, 0)) ∧ New w wr) (fun _ _ i _ _ _ => bytes - (intOf i).toNat)
  case atStart => exact ⟨0, 0, 1, at0, r0, by omega, rfl, rfl, rfl, fun _ => ⟨by decide, rfl, HRES.out⟩, fun h => by omega, hat0, HR0.out, hB0, hR, hN⟩
  case round =>
    clear hB0 hR hN hat0
    obtain ⟨k, v, u, at_, r, hk, rfl, rfl, rfl, h1, h2, hat, hdr, hB0, hR, hN⟩ := hrel
    have H1 := Lib.hid h1
    have H2 := Lib.hid h2
    have HD := Lib.hid hdr
    clear h1 h2
    obtain ⟨c0, c1, c2, c3, z0, z1, z2, z3⟩ := sp_cells hB0
    obtain ⟨r0, r1, r2, r3, y0, y1, y2, y3⟩ := sp_cells hR
    have hsz : w.heap.size + 1 < wr.heap.size := (Array.getElem?_eq_some_iff.1 hR).1
    have hsz0 : w.heap.size < wr.heap.size := by omega
    by_cases hk1 : k < bytes
    · obtain ⟨hv, ht, hres⟩ := H1.out hk1
      have hb2 : bytes - k = (bytes - k - 1) + 1 := by omega
      rw [hb2] at hres
      have hrng : ∀ b ∈ r, 0 ≤ b ∧ b ≤ 255 := fun b hb => bytesOf_rng s b (by rw [← hdr] at hb; exact List.mem_of_mem_drop hb)
      have hone := rone_any wr s at_ r hs hat hdr
      clear hdr
      cases r with
      | nil =>
        have hre : res = .bad 203 0 := hres.symm
        subst hre
        clear hres ht hb2 hrng
        go_wp2_with fail
        refine hone.mono ?_
        rintro e w2 ⟨at2, hat2, hc0, rfl, k2⟩
        have hB2 := Keeps.heap k2 hB0 (fun h => h)
        have hR2 := Keeps.heap k2 hR (fun h => h)
        have hN2 := hN.trans k2
        clear c0 c1 c2 c3 z0 z1 z2 z3 r0 r1 r2 r3 y0 y1 y2 y3
        obtain ⟨c0, c1, c2, c3, z0, z1, z2, z3⟩ := sp_cells hB2
        obtain ⟨r0, r1, r2, r3, y0, y1, y2, y3⟩ := sp_cells hR2
        have hsz2 : w.heap.size + 1 < w2.heap.size := (Array.getElem?_eq_some_iff.1 hR2).1
        have hsz3 : w.heap.size < w2.heap.size := by omega
        go_wp2_with fail
        exact bodyPost_ret (v := .tuple #[Sp s at2 203 ((s.size : Int) - (0 : Nat)), .int .u64 0]) (by simp [results, Try.results58, go_sem, c0, c1, c2, c3, z0, z1, z2, z3, r0, r1, r2, r3, y0, y1, y2, y3, hsz2, hsz3]) rfl ⟨at2, hat2, by decide, rfl, by repeat (with_reducible first | exact hN2 | refine New.setCell ?_ ?_ _ | refine New.alloc ?_ _ | exact Nat.le_refl _ | (dsimp only; omega))⟩
      | cons b r =>
        have hbr := hrng b (by simp)
        rw [wholeG_cons] at hres
        have HR := Lib.hid hres
        obtain ⟨b0, b1⟩ := hbr
        obtain ⟨x2, hx2, hx3⟩ := mul_add_u64 v u (b % 128) (by omega) k (by omega) hv ht
        obtain ⟨t2, ht2, ht3⟩ := unit_u64 u k ht (by omega)
        have HX := Lib.hid hx3
        have HT := Lib.hid ht3
        have HV := Lib.hid hv
        have hn0 : ((0 : Int) != 0) = false := rfl
        clear hres hv hx3 ht3 ht hb2 hrng
        clear c0 c1 c2 c3 z0 z1 z2 z3 r0 r1 r2 r3 y0 y1 y2 y3
        obtain ⟨c0, c1, c2, c3, z0, z1, z2, z3⟩ := sp_cells hB0
        by_cases h128 : 128 ≤ b
        · skip
          go_wp2_with fail
          refine hone.mono ?_
          rintro e w2 ⟨at2, hat2, hdr2, rfl, k2⟩
          have HD2 := Lib.hid hdr2
          have hB2 := Keeps.heap k2 hB0 (fun h => h)
          have hR2 := Keeps.heap k2 hR (fun h => h)
          have hN2 := hN.trans k2
          clear c0 c1 c2 c3 z0 z1 z2 z3 hdr2
          obtain ⟨c0, c1, c2, c3, z0, z1, z2, z3⟩ := sp_cells hB2
          obtain ⟨r0, r1, r2, r3, y0, y1, y2, y3⟩ := sp_cells hR2
          have hsz2 : w.heap.size + 1 < w2.heap.size := (Array.getElem?_eq_some_iff.1 hR2).1
          have hsz3 : w.heap.size < w2.heap.size := by omega
          have hne : w.heap.size ≠ w.heap.size + 1 := by omega
          have hS := sp_set hB2 s at2 0 0
          have hB3 := Keeps.heap (Keeps.alloc (S := fun _ => False) _ (.cells #[.string s, I at2, I 0, I 0] 74)) hS.1 (fun h => h)
          have hR3 := Keeps.heap (Keeps.alloc (S := fun _ => False) _ (.cells #[.string s, I at2, I 0, I 0] 74)) (hS.2.heap hR2 (by omega)) (fun h => h)
          go_wp2_with fail
          go_roundw
          case rel =>
            refine ⟨k + 1, x2, t2, at2, r, by omega, by go_num, rfl, rfl, fun hk2 => ?_, fun hk2 => ?_, hat2, HD2.out, hB3, hR3, by repeat (with_reducible first | exact hN2 | refine New.setCell ?_ ?_ _ | refine New.alloc ?_ _ | exact Nat.le_refl _ | (dsimp only; omega))⟩
            · have he := HX.out (.inl (by omega))
              have hr := HR.out
              rw [if_pos h128] at hr
              have hv := HV.out
              have e1 : (b % 128).toNat = b.toNat % 128 := by omega
              rw [e1] at he
              refine ⟨?_, HT.out (by omega), by rw [he, show bytes - (k + 1) = bytes - k - 1 by omega]; exact hr⟩
              rw [he, Nat.pow_succ]
              have : b.toNat % 128 * 128 ^ k ≤ 127 * 128 ^ k := Nat.mul_le_mul_right _ (by omega)
              omega
            · have hr := HR.out
              rw [if_pos h128, show bytes - k - 1 = 0 by omega] at hr
              exact hr.symm
          case measure => simp [intOf]; omega
        · have hr := HR.out
          rw [if_neg h128] at hr
          by_cases hbad : (b = 0 ∧ 0 < k) ∨ (bytes - k - 1 = 0 ∧ last < b)
          · rw [if_pos hbad] at hr
            subst hr
            have hbad2 : (b = 0 ∧ 0 < k) ∨ (¬ (b = 0 ∧ 0 < k) ∧ (k : Int) = (bytes : Int) - 1 ∧ last < b) := by omega
            clear hbad
            rcases hbad2 with ⟨rfl, hk0⟩ | ⟨hn, hke, hlb⟩
            · skip
              go_wp2_with fail
              refine hone.mono ?_
              rintro e w2 ⟨at2, hat2, hdr2, rfl, k2⟩
              have HD2 := Lib.hid hdr2
              have hB2 := Keeps.heap k2 hB0 (fun h => h)
              have hR2 := Keeps.heap k2 hR (fun h => h)
              have hN2 := hN.trans k2
              clear c0 c1 c2 c3 z0 z1 z2 z3 hdr2
              obtain ⟨c0, c1, c2, c3, z0, z1, z2, z3⟩ := sp_cells hB2
              obtain ⟨r0, r1, r2, r3, y0, y1, y2, y3⟩ := sp_cells hR2
              have hsz2 : w.heap.size + 1 < w2.heap.size := (Array.getElem?_eq_some_iff.1 hR2).1
              have hsz3 : w.heap.size < w2.heap.size := by omega
              have hne : w.heap.size ≠ w.heap.size + 1 := by omega
              have hS := sp_set hB2 s at2 0 0
              have hB3 := Keeps.heap (Keeps.alloc (S := fun _ => False) _ (.cells #[.string s, I at2, I 0, I 0] 74)) hS.1 (fun h => h)
              have hR3 := Keeps.heap (Keeps.alloc (S := fun _ => False) _ (.cells #[.string s, I at2, I 0, I 0] 74)) (hS.2.heap hR2 (by omega)) (fun h => h)
              go_wp2_with fail
              have hN3 := (hN2.keeps hS.2 (fun i hi e => by omega)).alloc (.cells #[.string s, I at2, I 0, I 0] 74)
              generalize (((((w2.setCell ⟨w.heap.size, 0, none⟩ (.string s)).setCell ⟨w.heap.size, 1, none⟩ (I at2)).setCell ⟨w.heap.size, 2, none⟩ (I 0)).setCell ⟨w.heap.size, 3, none⟩ (I 0))).alloc (.cells #[.string s, I at2, I 0, I 0] 74) = w3 at hB3 hR3 hN3 ⊢
              clear c0 c1 c2 c3 z0 z1 z2 z3 r0 r1 r2 r3 y0 y1 y2 y3
              refine (fail_any _ s at2 41 at0).mono ?_
              rintro e w4 ⟨rfl, k4⟩
              have hR4 := Keeps.heap k4 hR3 (fun h => h)
              have hN4 := hN3.trans k4
              obtain ⟨r0, r1, r2, r3, y0, y1, y2, y3⟩ := sp_cells hR4
              have hsz4 : w.heap.size + 1 < w4.heap.size := (Array.getElem?_eq_some_iff.1 hR4).1
              go_wp2_with fail
              exact bodyPost_ret (v := .tuple #[Sp s at2 41 at0, .int .u64 0]) (by simp [results, Try.results58, go_sem, r0, r1, r2, r3, y0, y1, y2, y3, hsz4]) rfl ⟨at2, hat2, by decide, by rw [HF.out], by repeat (with_reducible first | exact hN4 | refine New.setCell ?_ ?_ _ | refine New.alloc ?_ _ | exact Nat.le_refl _ | (dsimp only; omega))⟩
            · have ek : ((k : Int) == (bytes : Int) - 1) = true := by simpa using hke
              have hlb' : last < b := hlb
              have HK := Lib.hid hke
              clear hke
              by_cases hz : b = 0
              · omega
              · have ez : (b == 0) = false := by simpa using hz
                clear hz hn
                go_wp2_with fail
                refine hone.mono ?_
                rintro e w2 ⟨at2, hat2, hdr2, rfl, k2⟩
                have HD2 := Lib.hid hdr2
                have hB2 := Keeps.heap k2 hB0 (fun h => h)
                have hR2 := Keeps.heap k2 hR (fun h => h)
                have hN2 := hN.trans k2
                clear c0 c1 c2 c3 z0 z1 z2 z3 hdr2
                obtain ⟨c0, c1, c2, c3, z0, z1, z2, z3⟩ := sp_cells hB2
                obtain ⟨r0, r1, r2, r3, y0, y1, y2, y3⟩ := sp_cells hR2
                have hsz2 : w.heap.size + 1 < w2.heap.size := (Array.getElem?_eq_some_iff.1 hR2).1
                have hsz3 : w.heap.size < w2.heap.size := by omega
                have hne : w.heap.size ≠ w.heap.size + 1 := by omega
                have hS := sp_set hB2 s at2 0 0
                have hB3 := Keeps.heap (Keeps.alloc (S := fun _ => False) _ (.cells #[.string s, I at2, I 0, I 0] 74)) hS.1 (fun h => h)
                have hR3 := Keeps.heap (Keeps.alloc (S := fun _ => False) _ (.cells #[.string s, I at2, I 0, I 0] 74)) (hS.2.heap hR2 (by omega)) (fun h => h)
                go_wp2_with fail
                have hN3 := (hN2.keeps hS.2 (fun i hi e => by omega)).alloc (.cells #[.string s, I at2, I 0, I 0] 74)
                generalize (((((w2.setCell ⟨w.heap.size, 0, none⟩ (.string s)).setCell ⟨w.heap.size, 1, none⟩ (I at2)).setCell ⟨w.heap.size, 2, none⟩ (I 0)).setCell ⟨w.heap.size, 3, none⟩ (I 0))).alloc (.cells #[.string s, I at2, I 0, I 0] 74) = w3 at hB3 hR3 hN3 ⊢
                clear c0 c1 c2 c3 z0 z1 z2 z3 r0 r1 r2 r3 y0 y1 y2 y3
                refine (fail_any _ s at2 41 at0).mono ?_
                rintro e w4 ⟨rfl, k4⟩
                have hR4 := Keeps.heap k4 hR3 (fun h => h)
                have hN4 := hN3.trans k4
                obtain ⟨r0, r1, r2, r3, y0, y1, y2, y3⟩ := sp_cells hR4
                have hsz4 : w.heap.size + 1 < w4.heap.size := (Array.getElem?_eq_some_iff.1 hR4).1
                go_wp2_with fail
                exact bodyPost_ret (v := .tuple #[Sp s at2 41 at0, .int .u64 0]) (by simp [results, Try.results58, go_sem, r0, r1, r2, r3, y0, y1, y2, y3, hsz4]) rfl ⟨at2, hat2, by decide, by rw [HF.out], by repeat (with_reducible first | exact hN4 | refine New.setCell ?_ ?_ _ | refine New.alloc ?_ _ | exact Nat.le_refl _ | (dsimp only; omega))⟩
          · rw [if_neg hbad] at hr
            subst hr
            have hval : x2 = v + b.toNat * 128 ^ k := by
              have h1 : k < 9 ∨ b % 128 ≤ 1 := by
                by_cases h9 : k < 9
                · exact .inl h9
                · have := H9.out (by omega)
                  right
                  have : ¬ last < b := fun h => hbad (.inr ⟨by omega, h⟩)
                  omega
              rw [HX.out h1, show (b % 128).toNat = b.toNat by omega]
            have HVL := Lib.hid hval
            have hb9 : ¬ ((b = 0 ∧ 0 < k) ∨ ((k : Int) = (bytes : Int) - 1 ∧ last < b)) := by omega
            clear hbad hval
            by_cases hz : b = 0
            · subst hz
              have hk0 : k = 0 := by omega
              subst hk0
              have hx0 : IntKind.u64.wrap (v : Int) = (x2 : Int) := by
                have h1 := HV.out
                have h2 := HVL.out
                have h3 : v = 0 := by simpa using h1
                subst h3
                rw [h2]; rfl
              have hll : ¬ last < 0 := by omega
              by_cases hke : (0 : Int) = (bytes : Int) - 1
              · have ek : ((0 : Int) == (bytes : Int) - 1) = true := by simpa using hke
                clear hke hb9
                go_wp2_with fail
                refine hone.mono ?_
                rintro e w2 ⟨at2, hat2, hdr2, rfl, k2⟩
                have HD2 := Lib.hid hdr2
                have hB2 := Keeps.heap k2 hB0 (fun h => h)
                have hR2 := Keeps.heap k2 hR (fun h => h)
                have hN2 := hN.trans k2
                clear c0 c1 c2 c3 z0 z1 z2 z3 hdr2
                obtain ⟨c0, c1, c2, c3, z0, z1, z2, z3⟩ := sp_cells hB2
                obtain ⟨r0, r1, r2, r3, y0, y1, y2, y3⟩ := sp_cells hR2
                have hsz2 : w.heap.size + 1 < w2.heap.size := (Array.getElem?_eq_some_iff.1 hR2).1
                have hsz3 : w.heap.size < w2.heap.size := by omega
                have hne : w.heap.size ≠ w.heap.size + 1 := by omega
                have hS := sp_set hB2 s at2 0 0
                have hB3 := Keeps.heap (Keeps.alloc (S := fun _ => False) _ (.cells #[.string s, I at2, I 0, I 0] 74)) hS.1 (fun h => h)
                have hR3 := Keeps.heap (Keeps.alloc (S := fun _ => False) _ (.cells #[.string s, I at2, I 0, I 0] 74)) (hS.2.heap hR2 (by omega)) (fun h => h)
                go_wp2_with fail
                rw [← HVL.out]
                exact bodyPost_ret (v := .tuple #[Sp s at2 0 0, .int .u64 x2]) (by simp [results, Try.results58, go_sem, c0, c1, c2, c3, z0, z1, z2, z3, r0, r1, r2, r3, y0, y1, y2, y3, hsz2, hsz3]) rfl ⟨at2, hat2, HD2.out, rfl, by repeat (with_reducible first | exact hN2 | refine New.setCell ?_ ?_ _ | refine New.alloc ?_ _ | exact Nat.le_refl _ | (dsimp only; omega))⟩
              · have ek : ((0 : Int) == (bytes : Int) - 1) = false := by simpa using hke
                clear hke hb9
                go_wp2_with fail
                refine hone.mono ?_
                rintro e w2 ⟨at2, hat2, hdr2, rfl, k2⟩
                have HD2 := Lib.hid hdr2
                have hB2 := Keeps.heap k2 hB0 (fun h => h)
                have hR2 := Keeps.heap k2 hR (fun h => h)
                have hN2 := hN.trans k2
                clear c0 c1 c2 c3 z0 z1 z2 z3 hdr2
                obtain ⟨c0, c1, c2, c3, z0, z1, z2, z3⟩ := sp_cells hB2
                obtain ⟨r0, r1, r2, r3, y0, y1, y2, y3⟩ := sp_cells hR2
                have hsz2 : w.heap.size + 1 < w2.heap.size := (Array.getElem?_eq_some_iff.1 hR2).1
                have hsz3 : w.heap.size < w2.heap.size := by omega
                have hne : w.heap.size ≠ w.heap.size + 1 := by omega
                have hS := sp_set hB2 s at2 0 0
                have hB3 := Keeps.heap (Keeps.alloc (S := fun _ => False) _ (.cells #[.string s, I at2, I 0, I 0] 74)) hS.1 (fun h => h)
                have hR3 := Keeps.heap (Keeps.alloc (S := fun _ => False) _ (.cells #[.string s, I at2, I 0, I 0] 74)) (hS.2.heap hR2 (by omega)) (fun h => h)
                go_wp2_with fail
                rw [← HVL.out]
                exact bodyPost_ret (v := .tuple #[Sp s at2 0 0, .int .u64 x2]) (by simp [results, Try.results58, go_sem, c0, c1, c2, c3, z0, z1, z2, z3, r0, r1, r2, r3, y0, y1, y2, y3, hsz2, hsz3]) rfl ⟨at2, hat2, HD2.out, rfl, by repeat (with_reducible first | exact hN2 | refine New.setCell ?_ ?_ _ | refine New.alloc ?_ _ | exact Nat.le_refl _ | (dsimp only; omega))⟩
            · have ez : (b == 0) = false := by simpa using hz
              by_cases hke : (k : Int) = (bytes : Int) - 1
              · have ek : ((k : Int) == (bytes : Int) - 1) = true := by simpa using hke
                have hll : ¬ last < b := fun h => hb9 (.inr ⟨hke, h⟩)
                clear hke hb9 hz
                go_wp2_with fail
                refine hone.mono ?_
                rintro e w2 ⟨at2, hat2, hdr2, rfl, k2⟩
                have HD2 := Lib.hid hdr2
                have hB2 := Keeps.heap k2 hB0 (fun h => h)
                have hR2 := Keeps.heap k2 hR (fun h => h)
                have hN2 := hN.trans k2
                clear c0 c1 c2 c3 z0 z1 z2 z3 hdr2
                obtain ⟨c0, c1, c2, c3, z0, z1, z2, z3⟩ := sp_cells hB2
                obtain ⟨r0, r1, r2, r3, y0, y1, y2, y3⟩ := sp_cells hR2
                have hsz2 : w.heap.size + 1 < w2.heap.size := (Array.getElem?_eq_some_iff.1 hR2).1
                have hsz3 : w.heap.size < w2.heap.size := by omega
                have hne : w.heap.size ≠ w.heap.size + 1 := by omega
                have hS := sp_set hB2 s at2 0 0
                have hB3 := Keeps.heap (Keeps.alloc (S := fun _ => False) _ (.cells #[.string s, I at2, I 0, I 0] 74)) hS.1 (fun h => h)
                have hR3 := Keeps.heap (Keeps.alloc (S := fun _ => False) _ (.cells #[.string s, I at2, I 0, I 0] 74)) (hS.2.heap hR2 (by omega)) (fun h => h)
                go_wp2_with fail
                rw [← HVL.out]
                exact bodyPost_ret (v := .tuple #[Sp s at2 0 0, .int .u64 x2]) (by simp [results, Try.results58, go_sem, c0, c1, c2, c3, z0, z1, z2, z3, r0, r1, r2, r3, y0, y1, y2, y3, hsz2, hsz3]) rfl ⟨at2, hat2, HD2.out, rfl, by repeat (with_reducible first | exact hN2 | refine New.setCell ?_ ?_ _ | refine New.alloc ?_ _ | exact Nat.le_refl _ | (dsimp only; omega))⟩
              · have ek : ((k : Int) == (bytes : Int) - 1) = false := by simpa using hke
                clear hke hb9 hz
                go_wp2_with fail
                refine hone.mono ?_
                rintro e w2 ⟨at2, hat2, hdr2, rfl, k2⟩
                have HD2 := Lib.hid hdr2
                have hB2 := Keeps.heap k2 hB0 (fun h => h)
                have hR2 := Keeps.heap k2 hR (fun h => h)
                have hN2 := hN.trans k2
                clear c0 c1 c2 c3 z0 z1 z2 z3 hdr2
                obtain ⟨c0, c1, c2, c3, z0, z1, z2, z3⟩ := sp_cells hB2
                obtain ⟨r0, r1, r2, r3, y0, y1, y2, y3⟩ := sp_cells hR2
                have hsz2 : w.heap.size + 1 < w2.heap.size := (Array.getElem?_eq_some_iff.1 hR2).1
                have hsz3 : w.heap.size < w2.heap.size := by omega
                have hne : w.heap.size ≠ w.heap.size + 1 := by omega
                have hS := sp_set hB2 s at2 0 0
                have hB3 := Keeps.heap (Keeps.alloc (S := fun _ => False) _ (.cells #[.string s, I at2, I 0, I 0] 74)) hS.1 (fun h => h)
                have hR3 := Keeps.heap (Keeps.alloc (S := fun _ => False) _ (.cells #[.string s, I at2, I 0, I 0] 74)) (hS.2.heap hR2 (by omega)) (fun h => h)
                go_wp2_with fail
                rw [← HVL.out]
                exact bodyPost_ret (v := .tuple #[Sp s at2 0 0, .int .u64 x2]) (by simp [results, Try.results58, go_sem, c0, c1, c2, c3, z0, z1, z2, z3, r0, r1, r2, r3, y0, y1, y2, y3, hsz2, hsz3]) rfl ⟨at2, hat2, HD2.out, rfl, by repeat (with_reducible first | exact hN2 | refine New.setCell ?_ ?_ _ | refine New.alloc ?_ _ | exact Nat.le_refl _ | (dsimp only; omega))⟩
    · have hke : k = bytes := by omega
      have hr := H2.out hke
      subst hr
      have hk9 : bytes ≤ k := by omega
      clear hke hk hk1
      go_wp2_with fail
      refine (fail_any _ s at_ 41 at0).mono ?_
      rintro e w2 ⟨rfl, k2⟩
      have hR2 := Keeps.heap k2 hR (fun h => h)
      have hN2 := hN.trans k2
      clear c0 c1 c2 c3 z0 z1 z2 z3 r0 r1 r2 r3 y0 y1 y2 y3
      obtain ⟨r0, r1, r2, r3, y0, y1, y2, y3⟩ := sp_cells hR2
      have hsz2 : w.heap.size + 1 < w2.heap.size := (Array.getElem?_eq_some_iff.1 hR2).1
      go_wp2_with fail
      exact bodyPost_ret (v := .tuple #[Sp s at_ 41 at0, .int .u64 0]) (by simp [results, Try.results58, go_sem, r0, r1, r2, r3, y0, y1, y2, y3, hsz2]) rfl ⟨at_, hat, by decide, by rw [HF.out], by repeat (with_reducible first | exact hN2 | refine New.setCell ?_ ?_ _ | refine New.alloc ?_ _ | exact Nat.le_refl _ | (dsimp only; omega))⟩
end Go.Proofs.Ytfmpjbiaamkobaa
