/-
  Layer 20: the program's writer.
-/
import Derived.Test.YtfmpjbiaamkobaaDoorCodeM
import Derived.Lib.Zigzag
namespace Go.Proofs.YtfmpjbiaamkobaaDoor
open Go Go.RowKit Go.Joins
set_option linter.all false

/-- A row of bytes that can be appended to: one of the call's own, or one that is full. -/
def RowG (w : World) (B : Nat) (ao : Option Addr) (n c : Nat) (xs : List Int) : Prop :=
  OwnN w B ao n c xs ∨ (n = c ∧ xs.length = n ∧ 0 < n ∧ SlAt w ao (Bs xs) ∧ ∀ k, blk ao k → B ≤ k ∧ k < w.heap.size)
theorem RowG.len {w : World} {B : Nat} {ao : Option Addr} {n c : Nat} {xs : List Int} (h : RowG w B ao n c xs) : xs.length = n := by
  rcases h with h | h
  · have := h.1; simpa using this
  · exact h.2.1
theorem RowG.sl {w : World} {B : Nat} {ao : Option Addr} {n c : Nat} {xs : List Int} (h : RowG w B ao n c xs) : SlAt w ao (Bs xs) := by
  rcases h with h | h
  · exact SlAt.of_owns h
  · exact h.2.2.2.1
theorem RowG.blk {w : World} {B : Nat} {ao : Option Addr} {n c : Nat} {xs : List Int} (h : RowG w B ao n c xs) {k : Nat} (hk : blk ao k) : B ≤ k ∧ k < w.heap.size := by
  rcases h with h | h
  · exact own_of_blk h hk
  · exact h.2.2.2.2 k hk
theorem RowG.keeps {S : Nat → Prop} {w w' : World} {B : Nat} {ao : Option Addr} {n c : Nat} {xs : List Int} (h : RowG w B ao n c xs) (k : Keeps S w w') (hS : ∀ i, Go.Proofs.YtfmpjbiaamkobaaDoor.blk ao i → ¬ S i) : RowG w' B ao n c xs := by
  rcases h with h | ⟨a, b, b0, d, e⟩
  · exact .inl (k.owns h (fun i hi => hS i (blk_of_own hi)))
  · exact .inr ⟨a, b, b0, d.keeps k (fun x hx => hS _ ⟨x, hx, rfl⟩), fun i hi => ⟨(e i hi).1, Nat.lt_of_lt_of_le (e i hi).2 k.size⟩⟩
theorem run_appG (w : World) (B : Nat) (ty : TypeId) (ao : Option Addr) (n c : Nat) (xs : List Int) (h : RowG w B ao n c xs) (ad : Option Addr) (m cc : Nat) (bs : List Int) (hl : bs.length = m) (hm : 0 < m) (hat : SlAt w ad (Bs bs))
    (hb : n + m ≤ 1000000000) (hB : B ≤ w.heap.size) :
    ∃ ao' c' w', (Builtin.append_ #[47, 47] ty #[.slice ao n c, .slice ad m cc]).run Tryd.prog w = .ok (.slice ao' (n + m) c') w' ∧ OwnN w' B ao' (n + m) c' (xs ++ bs) ∧ Keeps (blk ao) w w' ∧ Moved w ao ao' := by
  obtain ⟨i0, hi, hz0, hz1, hz2⟩ := info_parts Tryd.infoU8
  rcases h with h | ⟨rfl, hxl, hn0, hsl, hbl⟩
  · obtain ⟨a', c', w', h1, h2, h3, h4, _⟩ := run_app (P := Tryd.prog) w B 47 ty 5 i0 (.int .u8 0) 1 1 Tryd.underlying47 hi hz0 hz1 hz2 rfl (by decide) ao n c (Bs xs) h ad m cc (Bs bs) (by simp [hl]) hat (oneCell_bs _) (by unfold maxLen; omega) (by omega) hB
    exact ⟨a', c', w', h1, by simpa [OwnN] using h2, h3, h4⟩
  · obtain ⟨b, off, rfl, _⟩ := hat.at (i := 0) (by simp; omega)
    obtain ⟨g, go, rfl, _⟩ := hsl.at (i := 0) (by simp; omega)
    have hnews : ∀ j u, (Bs bs)[j]? = some u → w.cell? ((⟨b, off, none⟩ : Addr).add j) = some u := by
      intro j u hu
      obtain ⟨hj, hju⟩ := List.getElem?_eq_some_iff.1 hu
      obtain ⟨b', off', e', c'⟩ := hat.at hj
      simp only [Option.some.injEq, Addr.mk.injEq, and_true] at e'
      obtain ⟨rfl, rfl⟩ := e'
      rw [Addr.add_lit, c', hju]
    have holds : ∀ j u, (Bs xs)[j]? = some u → w.cell? ((⟨g, go, none⟩ : Addr).add j) = some u := by
      intro j u hu
      obtain ⟨hj, hju⟩ := List.getElem?_eq_some_iff.1 hu
      obtain ⟨b', off', e', c'⟩ := hsl.at hj
      simp only [Option.some.injEq, Addr.mk.injEq, and_true] at e'
      obtain ⟨rfl, rfl⟩ := e'
      rw [Addr.add_lit, c', hju]
    have hr := run_append_grow (P := Tryd.prog) w 47 ty 5 i0 (.int .u8 0) Tryd.underlying47 hi hz0 ⟨g, go, none⟩ n n (Bs xs) (by simp [hxl, hz1]) holds ⟨b, off, none⟩ m cc (Bs bs) (by simp [hl, hz1]) hnews (by omega) (by omega) (growslice_fits (by omega) (by rw [hz2]; omega))
    refine ⟨_, _, _, hr, ⟨?_, .inr ⟨w.heap.size, _, _, rfl, hB, heap_alloc_new w.drew _, grownCap_ge w (n + m) n 5, grownCap_le_maxLen w (n + m) n 5 (by unfold maxLen; omega), ?_, ?_⟩⟩, (Keeps.drew w).trans (Keeps.alloc _ _) (fun _ _ h => h), .inr ⟨_, rfl, Nat.le_refl _⟩⟩
    · simp [hxl, hl]
    · have := grownCap_ge w (n + m) n 5
      have hzc : (Builtin.zeroCells (Value.int IntKind.u8 0).cells (grownCap w (n + m) n 5 - (n + m))).size = (grownCap w (n + m) n 5 - (n + m)) * 1 := size_zeroCells _ _
      simp only [Array.size_append, List.size_toArray, bs_len, hxl, hl, hzc]
      omega
    · simp only [Array.toList_append, List.append_assoc]
      rw [← List.append_assoc]
      have e : (Bs xs ++ Bs bs).length = (n + m) * 1 := by simp [hxl, hl]
      rw [← e]
      simpa using List.take_left (l₁ := Bs xs ++ Bs bs) (l₂ := (Builtin.zeroCells (Value.int IntKind.u8 0).cells (grownCap w (n + m) n 5 - (n + m))).toList)

/-- append, at the walk. -/
theorem wpList_appG {w : World} {ops : Array Oper} {rest : List Oper} {o : Oper} {a : Act} {Q : Exit → Act → World → Prop} (hgd : o.guard = none) (s x : Operand)
    (ho : o.op = .call { callee := .builtin .append, args := #[s, x], argTypes := #[47, 47] }) (B : Nat) (ao : Option Addr) (n c : Nat) (xs : List Int) (hs : a.eval s = .slice ao n c) (hown : RowG w B ao n c xs)
    (ad : Option Addr) (m cc : Nat) (bs : List Int) (hx : a.eval x = .slice ad m cc) (hl : bs.length = m) (hm : 0 < m) (hat : SlAt w ad (Bs bs)) (hb : n + m ≤ 1000000000) (hB : B ≤ w.heap.size)
    (h : ∀ ao' c' w', OwnN w' B ao' (n + m) c' (xs ++ bs) → Keeps (blk ao) w w' → Moved w ao ao' → wpList Tryd.prog ops Q rest (a.put o.dst (.slice ao' (n + m) c')) w') : wpList Tryd.prog ops Q (o :: rest) a w := by
  refine wpList_plain hgd fun K hK => ?_
  obtain ⟨ao', c', w', hr, h2, h3, h4⟩ := run_appG w B o.type ao n c xs hown ad m cc bs hl hm hat hb hB
  unfold Oper.wp execOp
  simp only [ho, resolve, invoke, builtin, Sem.run_bind, Sem.run_pure, Result.andThen_ok, List.map_toArray, List.map_cons, List.map_nil, hs, hx, hr]
  exact hK _ _ (h ao' c' w' h2 h3 h4)

/-- The writer at block G holds the bytes xs in a row from B on. -/
def WAt (w : World) (G B : Nat) (ao : Option Addr) (xs : List Int) : Prop :=
  ∃ n c, w.heap[G]? = some (.cells #[.slice ao n c] 62 (0, 0)) ∧ RowG w B ao n c xs ∧ ¬ blk ao G ∧ B ≤ w.heap.size
/-- A step: the writer and its row change, or the row is a new one. -/
structure WStep (G : Nat) (ao ao' : Option Addr) (w w' : World) : Prop where
  keeps : Keeps (fun k => k = G ∨ blk ao k) w w'
  moved : Moved w ao ao'
theorem WStep.trans {G : Nat} {a b c : Option Addr} {w w' w'' : World} (h : WStep G a b w w') (k : WStep G b c w' w'') : WStep G a c w w'' := by
  refine ⟨h.keeps.trans k.keeps (fun i hi hb => ?_), ?_⟩
  · rcases hb with rfl | hb
    · exact .inl rfl
    · rcases h.moved with rfl | ⟨g, rfl, hg⟩
      · exact .inr hb
      · obtain ⟨x, hx, rfl⟩ := hb
        cases hx
        have : g < w.heap.size := hi
        omega
  · rcases k.moved with rfl | ⟨g, rfl, hg⟩
    · exact h.moved
    · exact .inr ⟨g, rfl, Nat.le_trans h.keeps.size hg⟩
theorem WStep.refl (G : Nat) (a : Option Addr) (w : World) : WStep G a a w w := ⟨Keeps.refl _ _, .inl rfl⟩
theorem WAt.new {w w' : World} {G B : Nat} {ao : Option Addr} {xs : List Int} (h : WAt w G B ao xs) (k : New w w') : WAt w' G B ao xs := by
  obtain ⟨n, c, h1, h2, h3, h4⟩ := h
  exact ⟨n, c, k.heap h1 (fun h => h), h2.keeps k (fun _ _ h => h), h3, Nat.le_trans h4 k.size⟩
theorem WStep.after {G : Nat} {ao ao' : Option Addr} {w v w' : World} (k : New w v) (h : WStep G ao ao' v w') : WStep G ao ao' w w' :=
  ⟨Keeps.trans (S := fun k => k = G ∨ blk ao k) (k.mono (fun _ _ h => h.elim)) h.keeps (fun _ _ h => h), by
    rcases h.moved with rfl | ⟨g, rfl, hg⟩
    · exact .inl rfl
    · exact .inr ⟨g, rfl, Nat.le_trans k.size hg⟩⟩
/-- What the step leaves alone. -/
theorem WStep.new {G B : Nat} {ao ao' : Option Addr} {W w w' : World} {xs : List Int} (h : WStep G ao ao' w w') (hw : WAt w G B ao xs) (hN : New W w) (hG : W.heap.size ≤ G) (hB : W.heap.size ≤ B) : New W w' := by
  obtain ⟨n, c, _, h2, _⟩ := hw
  exact hN.keeps h.keeps (fun i hi hb => by
    rcases hb with rfl | hb
    · omega
    · have := (h2.blk hb).1; omega)
theorem WStep.cell {G B : Nat} {ao ao' : Option Addr} {w w' : World} {xs : List Int} (h : WStep G ao ao' w w') {p : Addr} {v : Value} (hv : w.cell? p = some v) (hG : p.block ≠ G) (hb : ¬ blk ao p.block) : w'.cell? p = some v :=
  h.keeps.cell hv (fun h => h.elim hG hb)

set_option maxRecDepth 100000 in
set_option maxHeartbeats 2000000 in
theorem wbyte_any (w : World) (G B : Nat) (ao : Option Addr) (xs : List Int) (b : Int) (hw : WAt w G B ao xs) (hl : xs.length ≤ 100000000) :
    Calls Tryd.prog 20 #[.pointer (some ⟨G, 0, none⟩), .int .u8 b] w fun e w' => e = .returned (.tuple #[]) ∧ ∃ ao', WAt w' G B ao' (xs ++ [b]) ∧ WStep G ao ao' w w' := by
  obtain ⟨n, c, hg, hr, hn, hB⟩ := hw
  have hc := cell_of_block hg 0
  have hz := unfrozen_of_block hg 0
  simp only [List.getElem?_toArray, List.getElem?_cons_zero] at hc
  have hnl := hr.len
  have hn9 : n ≤ 100000000 := by omega
  have HN := Lib.hid hnl
  have HG := Lib.hid hg
  clear hnl hg
  have hGl := World.block_lt_of_cell? w _ hc
  simp only at hGl
  go_enter Tryd.func20, Tryd.ntmps20
  have hr1 := hr.keeps (Keeps.alloc (S := fun _ => False) w (.cells #[.int .u8 b] 5)) (fun _ _ h => h)
  go_wp2_with (at_builtin; refine wpList_appG rfl _ _ rfl B _ _ _ _ rfl hr1 _ 1 1 [b] rfl rfl (by decide) (SlAt.lit _ _ _) (by omega) (Nat.le_trans hB (by simp)) ?_)
  intro ao' c' w' ho hk hm
  have hkk : Keeps (fun k => k = G ∨ blk ao k) w w' := (Keeps.alloc (S := fun k => k = G ∨ blk ao k) w (.cells #[.int .u8 b] 5)).trans hk (fun i hi h => .inr h)
  have hg1 := hk.heap (Keeps.heap (Keeps.alloc (S := fun _ => False) w (.cells #[.int .u8 b] 5)) HG.out (fun h => h)) hn
  have hc1 := cell_of_block hg1 0
  have hz1 := unfrozen_of_block hg1 0
  simp only [List.getElem?_toArray, List.getElem?_cons_zero] at hc1
  have hg2 := block_setCell (i := 0) hg1 (.slice ao' (n + 1) c')
  have hmv : Moved w ao ao' := by
    rcases hm with rfl | ⟨g, rfl, h2⟩
    · exact .inl rfl
    · exact .inr ⟨g, rfl, Nat.le_trans (by simp) h2⟩
  have hnG : ¬ blk ao' G := by
    rcases hmv with rfl | ⟨g, rfl, h2⟩
    · exact hn
    · intro ⟨x, hx, hxg⟩; cases hx; simp only at hxg; omega
  have hks : Keeps (fun k => k = G) w' (w'.setCell ⟨G, 0, none⟩ (.slice ao' (n + 1) c')) := Keeps.setCell w' _ _ rfl
  have hfin : WAt (w'.setCell ⟨G, 0, none⟩ (.slice ao' (n + 1) c')) G B ao' (xs ++ [b]) := ⟨n + 1, c', by simpa using hg2, .inl (hks.owns ho (fun i hi e => by subst e; exact hnG (blk_of_own hi))), hnG, Nat.le_trans hB (Nat.le_trans hkk.size hks.size)⟩
  have hst : WStep G ao ao' w (w'.setCell ⟨G, 0, none⟩ (.slice ao' (n + 1) c')) := ⟨hkk.trans hks (fun i hi h => .inl h), hmv⟩
  clear hg1 hg2 hks hmv hnG ho hk hm hkk hr hr1 hc
  go_wp2
  go_end0
  exact ⟨rfl, ao', hfin, hst⟩

theorem or128 (m : Nat) : bits .or .u8 ((m : Int) % 256) 128 = (m : Int) % 128 + 128 := by
  rw [show (m : Int) % 256 = ((m % 256 : Nat) : Int) by omega, show (m : Int) % 128 + 128 = ((m % 128 + 128 : Nat) : Int) by omega]
  have h := u8_or_nat (m % 256) 128 (by omega) (by decide)
  rw [show ((128 : Nat) : Int) = 128 from rfl] at h
  rw [h]
  congr 1
  have h1 : m % 256 = m % 128 + 128 * (m % 256 / 128) := by omega
  rw [Nat.or_comm]
  by_cases hx : m % 256 / 128 = 0
  · have e : m % 256 = m % 128 := by omega
    rw [e, nat_join 7 128 (m % 128) (by decide) (by omega)]; omega
  · have e : m % 256 = 128 ||| (m % 128) := by rw [nat_join 7 128 (m % 128) (by decide) (by omega)]; omega
    rw [e, ← Nat.or_assoc, Nat.or_self, nat_join 7 128 (m % 128) (by decide) (by omega)]; omega

theorem xor_zig (y : Int) (y0 : -9223372036854775808 ≤ y) (y1 : y ≤ 9223372036854775807) :
    bits .xor .u64 (IntKind.u64.wrap (IntKind.u64.wrap y * 2)) (IntKind.u64.wrap (y / 9223372036854775808)) = ((zig y : Nat) : Int) := by
  by_cases h : 0 ≤ y
  · have e1 : IntKind.u64.wrap (IntKind.u64.wrap y * 2) = (((2 * y).toNat : Nat) : Int) := by rw [IntKind.wrap_u64, IntKind.wrap_u64]; omega
    have e2 : IntKind.u64.wrap (y / 9223372036854775808) = ((0 : Nat) : Int) := by rw [IntKind.wrap_u64]; omega
    rw [e1, e2, u64_xor_nat _ _ (by omega) (by decide), Nat.xor_zero]
    unfold zig; rw [if_pos h]; omega
  · have e1 : IntKind.u64.wrap (IntKind.u64.wrap y * 2) = (((2 * y + 18446744073709551616).toNat : Nat) : Int) := by rw [IntKind.wrap_u64, IntKind.wrap_u64]; omega
    have e2 : IntKind.u64.wrap (y / 9223372036854775808) = ((2 ^ 64 - 1 : Nat) : Int) := by rw [IntKind.wrap_u64]; omega
    rw [e1, e2, u64_xor_nat _ _ (by omega) (by decide), Nat.xor_comm, Lib.xor_ones64 _ (by omega)]
    unfold zig; rw [if_neg h]; omega

/-- What a method of the writer does: bs is appended. -/
def Wrote (w : World) (G B : Nat) (ao : Option Addr) (xs bs : List Int) (e : Ending) (w' : World) : Prop := e = .returned (.tuple #[]) ∧ ∃ ao', WAt w' G B ao' (xs ++ bs) ∧ WStep G ao ao' w w'

set_option maxRecDepth 100000 in
set_option maxHeartbeats 2000000 in
theorem wwhole_any (w : World) (G B : Nat) (ao : Option Addr) (xs : List Int) (n0 : Nat) (hn0 : n0 < 128 ^ 10) (h64 : n0 < 18446744073709551616) (hw : WAt w G B ao xs) (hl : xs.length ≤ 99999900) :
    Calls Tryd.prog 32 #[.pointer (some ⟨G, 0, none⟩), .int .u64 n0] w (Wrote w G B ao xs (unsB n0)) := by
  have hstart : xs ++ unsF 9 n0 = xs ++ unsB n0 := rfl
  have HS := Lib.hid hstart
  unfold Wrote
  generalize xs ++ unsB n0 = bs at HS ⊢
  clear hstart
  go_enter Tryd.func32, Tryd.ntmps32
  go_wp2_with fail
  go_loopw [1] (fun n wr => ∃ (m f : Nat) (acc : List Int) (a : Option Addr), n = .int .u64 m ∧ m < 18446744073709551616 ∧ m < 128 ^ (f + 1) ∧ WAt wr G B a acc ∧ acc.length + f = xs.length + 9 ∧ acc ++ unsF f m = bs ∧ WStep G ao a w wr) (fun n _ => (intOf n).toNat)
  case atStart => exact ⟨n0, 9, xs, ao, rfl, h64, hn0, hw, rfl, HS.out, WStep.refl _ _ _⟩
  case round =>
    clear hw
    obtain ⟨m, f, acc, a, rfl, hm, hmf, hwa, hlen, hacc, hst⟩ := hrel
    have HL := Lib.hid hlen
    have hl9 : acc.length ≤ xs.length + 9 := by omega
    have HM := Lib.hid hmf
    clear hlen hmf
    by_cases h128 : m < 128
    · rw [unsF_small h128] at hacc
      have HA := Lib.hid hacc
      clear hacc
      go_wp2_with fail
      refine (wbyte_any _ G B a acc m hwa (by omega)).mono ?_
      rintro e w' ⟨rfl, a', hw', hs'⟩
      rw [HA.out] at hw'
      go_wp2
      go_end0
      exact ⟨rfl, a', hw', hst.trans hs'⟩
    · obtain ⟨f, rfl⟩ : ∃ g, f = g + 1 := by
        refine ⟨f - 1, ?_⟩
        rcases Nat.eq_zero_or_pos f with rfl | h0
        · have := HM.out; simp at this; omega
        · omega
      rw [unsF_big h128] at hacc
      have HA := Lib.hid hacc
      clear hacc
      have hor := or128 m
      go_wp2_with fail
      refine (wbyte_any _ G B a acc _ hwa (by omega)).mono ?_
      rintro e w' ⟨rfl, a', hw', hs'⟩
      have hr : acc ++ [(m : Int) % 128 + 128] ++ unsF f (m / 128) = bs := by rw [← HA.out]; simp
      have HR := Lib.hid hr
      clear hr hor
      go_wp2
      go_roundw
      case rel =>
        refine ⟨m / 128, f, acc ++ [(m : Int) % 128 + 128], a', by go_num, by omega, ?_, hw', ?_, HR.out, hst.trans hs'⟩
        · have := HM.out; rw [Nat.pow_succ] at this; exact Nat.div_lt_of_lt_mul (by rw [Nat.mul_comm]; exact this)
        · have := HL.out; simp; omega
      case measure => simp [intOf]; omega

theorem wcount_any (w : World) (G B : Nat) (ao : Option Addr) (xs : List Int) (n : Int) (h0 : 0 ≤ n) (h1 : n ≤ 9223372036854775807) (hw : WAt w G B ao xs) (hl : xs.length ≤ 99999900) :
    Calls Tryd.prog 19 #[.pointer (some ⟨G, 0, none⟩), I n] w (Wrote w G B ao xs (unsB n.toNat)) := by
  have hu := wwhole_any w G B ao xs n.toNat (by have : (9223372036854775808 : Nat) < 128 ^ 10 := by decide
                                                omega) (by omega) hw hl
  have e : ((n.toNat : Nat) : Int) = n := by omega
  rw [e] at hu
  generalize unsB n.toNat = bs at hu ⊢
  clear e
  go_enter Tryd.func19, Tryd.ntmps19
  go_wp2_with fail
  refine hu.mono ?_
  rintro e w' ⟨rfl, a', hw', hs'⟩
  go_wp2
  go_end0
  exact ⟨rfl, a', hw', hs'⟩
theorem wcountN_any (w : World) (G B : Nat) (ao : Option Addr) (xs : List Int) (n : Nat) (h1 : n ≤ 9223372036854775807) (hw : WAt w G B ao xs) (hl : xs.length ≤ 99999900) :
    Calls Tryd.prog 19 #[.pointer (some ⟨G, 0, none⟩), I (n : Int)] w (Wrote w G B ao xs (unsB n)) := by
  have h := wcount_any w G B ao xs (n : Int) (by omega) (by omega) hw hl
  rw [Int.toNat_natCast] at h; exact h

set_option maxRecDepth 100000 in
set_option maxHeartbeats 2000000 in
theorem wints_any (W w : World) (G : Nat) (ao : Option Addr) (xs : List Int) (lo : Option Addr) (lc : Nat) (l : List Int) (hN : New W w) (hG : W.heap.size ≤ G) (hw : WAt w G W.heap.size ao xs) (hx : SlAt W lo (Is l)) (hr : ∀ y ∈ l, i64B y) (hll : l.length ≤ 1024) (hl : xs.length ≤ 99900000) :
    Calls Tryd.prog 21 #[.pointer (some ⟨G, 0, none⟩), .slice lo l.length lc] w (Wrote w G W.heap.size ao xs (intsB l)) := by
  have hstart : (xs ++ unsB l.length) ++ (l.drop 0).flatMap (fun n => unsB (zig n)) = xs ++ intsB l := by simp [intsB]
  have HS := Lib.hid hstart
  have HR := Lib.hid hr
  unfold Wrote
  generalize xs ++ intsB l = bs at HS ⊢
  clear hstart hr
  go_enter Tryd.func21, Tryd.ntmps21
  go_wp2_with fail
  refine (wcountN_any _ _ _ _ _ _ (by omega) hw (by omega)).mono ?_
  rintro e w1 ⟨rfl, a1, hw1, hs1⟩
  have hN1 := hs1.new hw hN hG (Nat.le_refl _)
  have hl1 : (xs ++ unsB l.length).length ≤ xs.length + 10 := by have := unsB_len l.length; simp; omega
  go_wp2_with fail
  go_loopw [5, 12] (fun _ i wr => ∃ (k : Nat) (acc : List Int) (a : Option Addr), k ≤ l.length ∧ i = .int .i64 k ∧ WAt wr G W.heap.size a acc ∧ acc.length ≤ xs.length + 10 + 10 * k ∧ acc ++ (l.drop k).flatMap (fun n => unsB (zig n)) = bs ∧ WStep G ao a w wr ∧ New W wr) (fun _ i _ => l.length - (intOf i).toNat)
  case atStart => exact ⟨0, _, a1, by omega, rfl, hw1, hl1, HS.out, hs1, hN1⟩
  case round =>
    clear hw1 hs1 hN1 hl1
    obtain ⟨k, acc, a, hk, rfl, hwa, hal, hacc, hst, hNr⟩ := hrel
    by_cases hk1 : k < l.length
    · have e : (l.drop k).flatMap (fun n => unsB (zig n)) = unsB (zig l[k]) ++ (l.drop (k + 1)).flatMap (fun n => unsB (zig n)) := by rw [List.drop_eq_getElem_cons hk1, List.flatMap_cons]
      rw [e, ← List.append_assoc] at hacc
      have HA := Lib.hid hacc
      clear hacc e
      have hyr := HR.out _ (List.getElem_mem hk1)
      obtain ⟨b, off, rfl, hq⟩ := Is_at (hx.new hNr) hk1
      generalize l[k] = y at HA hyr hq
      obtain ⟨y0, y1⟩ := hyr
      have hz : zig y < 18446744073709551616 := by unfold zig; split <;> omega
      have hz10 : zig y < 128 ^ 10 := Nat.lt_trans hz (by decide)
      have hu := wwhole_any wr G W.heap.size a acc (zig y) hz10 hz hwa (by omega)
      have hzb := unsB_len (zig y)
      have hzx : bits .xor .u64 (IntKind.u64.wrap (IntKind.u64.wrap y * 2)) (IntKind.u64.wrap (y / 9223372036854775808)) = ((zig y : Nat) : Int) := xor_zig y y0 y1
      clear hz hz10
      go_wp2_with fail
      refine hu.mono ?_
      rintro e w2 ⟨rfl, a2, hw2, hs2⟩
      have hN2 := hs2.new hwa hNr hG (Nat.le_refl _)
      clear hu hzx
      go_wp2
      go_roundw
      case rel => exact ⟨k + 1, acc ++ unsB (zig y), a2, by omega, by go_num, hw2, by simp; omega, HA.out, hst.trans hs2, hN2⟩
      case measure => simp [intOf]; omega
    · rw [List.drop_of_length_le (by omega)] at hacc
      have hk9 : l.length ≤ k := by omega
      have hacc2 : acc = bs := by simpa using hacc
      rw [hacc2] at hwa
      clear hacc hk hk1 hacc2
      go_wp2
      go_end0
      exact ⟨rfl, a, hwa, hst⟩
end Go.Proofs.YtfmpjbiaamkobaaDoor
