/-
  Layer 4: the law's awake.
-/
import Derived.Test.YtmmoocbnmjmfeaaDoorLexE
namespace Go.Proofs.YtmmoocbnmjmfeaaDoor
open Go Go.RowKit Go.Joins
set_option linter.all false

theorem lexL_code : ∀ (n p : Nat) (l : List UInt8), l.length ≤ n → ∀ c a, (lexL p l).2 = some (c, a) → c = 40 ∨ c = 41 ∨ c = 42 := by
  intro n
  induction n with
  | zero =>
    intro p l h
    obtain rfl : l = [] := List.eq_nil_of_length_eq_zero (by omega)
    rw [lexL_nil]; simp
  | succ n ih =>
    intro p l h
    cases l with
    | nil => rw [lexL_nil]; simp
    | cons c r =>
      simp only [List.length_cons] at h
      cases h1 : isBlk c with
      | true => rw [lexL_blank _ _ _ h1]; exact ih _ _ (by omega)
      | false =>
        by_cases h2 : c.toNat = 35
        · rw [lexL_hash _ _ _ h2]; exact ih _ _ (by rw [List.length_drop]; omega)
        · cases ht : tokR (c :: r) with
          | bad e =>
            rw [lexL_bad _ _ _ h1 h2 ht]
            intro c a hca
            cases hca
            exact tokR_bad ht
          | good s t m k =>
            have hk := tokR_len ht
            rw [lexL_good _ _ _ h1 h2 ht]
            exact ih _ _ (by rw [List.length_drop, List.length_cons]; omega)
theorem lx_row {w : World} {ao : Option Addr} {l : List LTok} (h : SlAt w ao (l.flatMap tokCells)) (hne : l ≠ []) :
    ∃ b off, ao = some ⟨b, off, none⟩ ∧ ∀ (i : Nat) (hi : i < l.length) (j : Nat), j < 4 → w.cell? ⟨b, off + i * 4 + j, none⟩ = (tokCells l[i])[j]? := by
  have hl := flat_len tokCells 4 tokCells_len l
  have hpos : 0 < l.length := List.length_pos_iff.2 hne
  obtain ⟨b, off, e, _⟩ := h.at (i := 0) (by omega)
  refine ⟨b, off, e, fun i hi j hj => ?_⟩
  have hij : i * 4 + j < l.length * 4 := by omega
  obtain ⟨b2, off2, e2, hc⟩ := h.at (i := i * 4 + j) (by omega)
  rw [e] at e2
  cases e2
  rw [Nat.add_assoc, hc]
  have := flat_at tokCells 4 tokCells_len l i j hi hj
  rw [← this, List.getElem?_eq_getElem (by omega)]
/-- All at a text whose tokens are known. -/
theorem call_good (w : World) (s : ByteArray) (he : Env w) (hs : s.size ≤ 9223372036854775807) (l : List LTok) (h : lexA s.data.toList = (l, 0, 0)) (hne : l ≠ []) (n : Nat) (hn : l.length = n) :
    Calls Tryd.prog 11 #[.string s] w fun e w' => ∃ b off c, e = .returned (.tuple #[.slice (some ⟨b, off, none⟩) n c, .agg #[I 0, I 0]]) ∧ New w w' ∧ ∀ (i : Nat) (hi : i < l.length) (j : Nat), j < 4 → w'.cell? ⟨b, off + i * 4 + j, none⟩ = (tokCells l[i])[j]? := by
  refine (call_any w s he hs).mono ?_
  rintro e w' ⟨a, c, rfl, n1, ho⟩
  rw [h] at ho ⊢
  obtain ⟨b, off, rfl, hc⟩ := lx_row (SlAt.of_owns ho) hne
  simp only at *
  subst hn
  exact ⟨b, off, c, rfl, n1, hc⟩
theorem call_bad (w : World) (s : ByteArray) (he : Env w) (hs : s.size ≤ 9223372036854775807) (c : Int) (k : Nat) (h : lexA s.data.toList = ([], c, k)) :
    Calls Tryd.prog 11 #[.string s] w fun e w' => ∃ a cc, e = .returned (.tuple #[.slice a 0 cc, .agg #[I c, I k]]) ∧ New w w' := by
  refine (call_any w s he hs).mono ?_
  rintro e w' ⟨a, cc, rfl, n1, ho⟩
  rw [h]
  exact ⟨a, cc, rfl, n1⟩

/-- All, at any text. -/
theorem callA (w : World) (s : ByteArray) (he : Env w) (hs : s.size ≤ 9223372036854775807) (l : List LTok) (c : Int) (k : Nat) (h : lexA s.data.toList = (l, c, k)) (n : Nat) (hn : l.length = n) :
    Calls Tryd.prog 11 #[.string s] w fun e w' => ∃ a cc, e = .returned (.tuple #[.slice a n cc, .agg #[I c, I k]]) ∧ New w w' ∧ SlAt w' a (l.flatMap tokCells) := by
  refine (call_any w s he hs).mono ?_
  rintro e w' ⟨a, cc, rfl, n1, ho⟩
  rw [h] at ho ⊢
  simp only at *
  subst hn
  exact ⟨a, cc, rfl, n1, SlAt.of_owns ho⟩
theorem lexA_code {s : List UInt8} {l : List LTok} {c : Int} {k : Nat} (h : lexA s = (l, c, k)) : (c = 0 ∧ k = 0 ∧ l ≠ [] ∧ s.length ≤ 1048576 ∧ ∃ ts, lexL 0 s = (ts, none) ∧ l = ts ++ [⟨0, [], 0, s.length⟩]) ∨ ((c = 2 ∧ 1048576 < s.length ∧ k = 1048576 ∨ (c = 40 ∨ c = 41 ∨ c = 42) ∧ s.length ≤ 1048576 ∧ ∃ ts, lexL 0 s = (ts, some (c, k))) ∧ l = []) := by
  unfold lexA at h
  split at h
  · cases h; exact Or.inr ⟨Or.inl ⟨rfl, by assumption, rfl⟩, rfl⟩
  · rename_i hlen
    cases hx : lexL 0 s with
    | mk ts e =>
      rw [hx] at h
      cases e with
      | none =>
        simp only [Prod.mk.injEq] at h
        obtain ⟨rfl, rfl, rfl⟩ := h
        exact Or.inl ⟨rfl, rfl, by simp, by omega, ts, rfl, rfl⟩
      | some e =>
        obtain ⟨x, y⟩ := e
        simp only [Prod.mk.injEq] at h
        obtain ⟨rfl, rfl, rfl⟩ := h
        exact Or.inr ⟨Or.inr ⟨lexL_code _ _ _ (Nat.le_refl _) _ _ (by rw [hx]), by omega, ts, rfl⟩, rfl⟩

def txt1 : ByteArray := ⟨#[97, 32, 45, 62, 32, 45, 53, 59]⟩
def toks1 : List LTok := [⟨1, [97], 0, 0⟩, ⟨3, [45, 62], 0, 2⟩, ⟨2, [], -5, 5⟩, ⟨3, [59], 0, 7⟩, ⟨0, [], 0, 8⟩]
theorem lex1 : lexA txt1.data.toList = (toks1, 0, 0) := by kernel_rfl
def txt2 : ByteArray := ⟨#[97, 32, 45, 32, 98]⟩
theorem lex2 : lexA txt2.data.toList = ([], 40, 2) := by kernel_rfl

set_option maxRecDepth 100000 in
set_option maxHeartbeats 4000000 in
theorem awake_any (w : World) (he : Env w) : Calls Tryd.prog 14 #[] w fun e w' => e = .returned (.bool true) ∧ New w w' := by
  have h1 : ∀ W, Env W → Calls Tryd.prog 11 #[.string ⟨#[97, 32, 45, 62, 32, 45, 53, 59]⟩] W _ := fun W e => call_good W txt1 e (by decide) toks1 lex1 (by unfold toks1; simp) 5 rfl
  have h2 : ∀ W, Env W → Calls Tryd.prog 11 #[.string ⟨#[97, 32, 45, 32, 98]⟩] W _ := fun W e => call_bad W txt2 e (by decide) 40 2 lex2
  have h3 : ∀ W, Calls Tryd.prog 16 #[.string ⟨#[97, 95, 49]⟩] W fun e w' => e = .returned (.bool true) ∧ New W w' := fun W => by
    have e : nameB ⟨#[97, 95, 49]⟩ = true := by kernel_rfl
    rw [← e]; exact cname_any W _ (by decide)
  have h4 : ∀ W, Calls Tryd.prog 16 #[.string ⟨#[49, 97]⟩] W fun e w' => e = .returned (.bool false) ∧ New W w' := fun W => by
    have e : nameB ⟨#[49, 97]⟩ = false := by kernel_rfl
    rw [← e]; exact cname_any W _ (by decide)
  go_enter Tryd.func14, Tryd.ntmps14
  go_wp2_with fail
  refine (h1 _ he).mono ?_
  rintro e w2 ⟨b, off, c, rfl, n2, hc⟩
  have hZ : ∀ (i : Nat) (v : Value), i < 20 → (toks1.flatMap tokCells)[i]? = some v → w2.cell? ⟨b, off + i, none⟩ = some v := by
    intro i v hi hv
    have := hc (i / 4) (by show i / 4 < 5; omega) (i % 4) (by omega)
    rw [← flat_at tokCells 4 tokCells_len toks1 (i / 4) (i % 4) (by show i / 4 < 5; omega) (by omega)] at this
    rw [show off + i = off + i / 4 * 4 + i % 4 by omega, this, show i / 4 * 4 + i % 4 = i by omega, hv]
  obtain ⟨t, ht⟩ : ∃ t, toks1.flatMap tokCells = t := ⟨_, rfl⟩
  rw [ht] at hZ
  have HT := Lib.hid ht
  clear ht hc
  go_wp2_with fail
  have n3 : New w2 (w2.alloc (.cells #[I 0, I 0] 25)) := (New.refl _).alloc _
  refine (h2 _ (he.new (n2.trans n3))).mono ?_
  rintro e w4 ⟨a4, cc4, rfl, n4⟩
  have f0 : w4.cell? ⟨w2.heap.size, 0, none⟩ = some (I 0) := New.cell n4 (by rw [cell_of_block (heap_alloc_new w2 _) 0]; simp)
  have f1 : w4.cell? ⟨w2.heap.size, 1, none⟩ = some (I 0) := New.cell n4 (by rw [cell_of_block (heap_alloc_new w2 _) 1]; simp)
  have hX : ∀ W, New w4 W → ∀ (i : Nat) (v : Value), i < 20 → t[i]? = some v → W.cell? ⟨b, off + i, none⟩ = some v := fun W n i v hi hv => New.cell (n3.trans (n4.trans n)) (hZ i v hi hv)
  have k0 : w4.cell? ⟨b, off, none⟩ = some (.int .u8 1) := hX w4 (New.refl _) 0 _ (by omega) (by rw [← HT.out]; rfl)
  have k1 := hX w4 (New.refl _) 1 (.string ⟨#[97]⟩) (by omega) (by rw [← HT.out]; rfl)
  have k2 := hX w4 (New.refl _) 2 (I 0) (by omega) (by rw [← HT.out]; rfl)
  have k3 := hX w4 (New.refl _) 3 (I 0) (by omega) (by rw [← HT.out]; rfl)
  have k4 := hX w4 (New.refl _) 4 (.int .u8 3) (by omega) (by rw [← HT.out]; rfl)
  have k5 := hX w4 (New.refl _) 5 (.string ⟨#[45, 62]⟩) (by omega) (by rw [← HT.out]; rfl)
  have k6 := hX w4 (New.refl _) 6 (I 0) (by omega) (by rw [← HT.out]; rfl)
  have k7 := hX w4 (New.refl _) 7 (I 2) (by omega) (by rw [← HT.out]; rfl)
  have k8 := hX w4 (New.refl _) 8 (.int .u8 2) (by omega) (by rw [← HT.out]; rfl)
  have k9 := hX w4 (New.refl _) 9 (.string ⟨#[]⟩) (by omega) (by rw [← HT.out]; rfl)
  have k10 := hX w4 (New.refl _) 10 (I (-5)) (by omega) (by rw [← HT.out]; rfl)
  have k11 := hX w4 (New.refl _) 11 (I 5) (by omega) (by rw [← HT.out]; rfl)
  have k15 := hX w4 (New.refl _) 15 (I 7) (by omega) (by rw [← HT.out]; rfl)
  have k16 := hX w4 (New.refl _) 16 (.int .u8 0) (by omega) (by rw [← HT.out]; rfl)
  have k17 := hX w4 (New.refl _) 17 (.string ⟨#[]⟩) (by omega) (by rw [← HT.out]; rfl)
  have k18 := hX w4 (New.refl _) 18 (I 0) (by omega) (by rw [← HT.out]; rfl)
  have k19 := hX w4 (New.refl _) 19 (I 8) (by omega) (by rw [← HT.out]; rfl)
  have hb4 : b < w4.heap.size := World.block_lt_of_cell? w4 _ k0
  have hf4 : w2.heap.size < w4.heap.size := World.block_lt_of_cell? w4 _ f0
  have hN4 := Lib.hid (n2.trans (n3.trans n4))
  clear hX hZ n2 n3 n4 h1 h2 he
  go_wp2_with fail
  refine (h3 _).mono ?_
  rintro e w5 ⟨rfl, n5⟩
  go_wp2_with fail
  refine (h4 _).mono ?_
  rintro e w6 ⟨rfl, n6⟩
  go_wp2_with fail
  go_ret
  refine ⟨rfl, ?_⟩
  have n7 : New w4 w6 := by
    refine New.trans ?_ n6
    refine New.trans ?_ n5
    exact ((New.refl w4).alloc _)
  exact hN4.out.trans n7
end Go.Proofs.YtmmoocbnmjmfeaaDoor
