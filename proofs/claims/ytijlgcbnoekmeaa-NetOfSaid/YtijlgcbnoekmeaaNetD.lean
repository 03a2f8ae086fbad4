/-
  Layer 10: a State in memory; what it answers.
-/
import Derived.Test.YtijlgcbnoekmeaaNetC
import Derived.Deep.RegionHeld3
namespace Go.Proofs.Ytijlgcbnoekmeaa
open Go Go.RowKit
set_option linter.all false

/-- Where a State lies. -/
structure StD where
  b : Nat
  aa : Option Addr
  ca : Nat
  Li : Nat
  Lo : Nat
  Ai : Nat → Option Addr
  Ni : Nat → Nat
  Ci : Nat → Nat
  Ao : Nat → Option Addr
  No : Nat → Nat
  Co : Nat → Nat
  bt : Nat
  bf : Nat
  lo : Nat
  hi : Nat

def Ns (l : List Nat) : List Value := l.map fun i : Nat => I (i : Int)

/-- A State: its five cells, its arcs, its tables, its two lists. -/
structure St (w : World) (p : StD) (nodes : Nat) (arcs : List ArcD) (s : Mark) : Prop where
  c0 : w.cell? ⟨p.b, 0, none⟩ = some (.slice p.aa arcs.length p.ca)
  c1 : w.cell? ⟨p.b, 1, none⟩ = some (.slice (some ⟨p.Li, 0, none⟩) nodes nodes)
  c2 : w.cell? ⟨p.b, 2, none⟩ = some (.slice (some ⟨p.Lo, 0, none⟩) nodes nodes)
  c3 : w.cell? ⟨p.b, 3, none⟩ = some (.slice (some ⟨p.bt, 0, none⟩) arcs.length arcs.length)
  c4 : w.cell? ⟨p.b, 4, none⟩ = some (.slice (some ⟨p.bf, 0, none⟩) nodes nodes)
  harcs : SlAt w p.aa (arcsCells arcs)
  ti : Tab w 37 3 p.lo p.Li nodes p.Ai p.Ni p.Ci (fun j => Ns (inTo arcs (j : Int)))
  tt : Tab w 37 3 p.lo p.Lo nodes p.Ao p.No p.Co (fun j => Ns (outOf arcs (j : Int)))
  ht : w.ownsRow p.lo 3 1 (.slice (some ⟨p.bt, 0, none⟩) arcs.length arcs.length) arcs.length (Is s.toks)
  hf : w.ownsRow p.lo 3 1 (.slice (some ⟨p.bf, 0, none⟩) nodes nodes) nodes (Is s.fired)
  rb : p.lo ≤ p.b ∧ p.b < p.hi
  ra : ∀ a, p.aa = some a → p.lo ≤ a.block ∧ a.block < p.hi
  ri : ∀ k, tabBlk p.Li nodes p.Ai k → p.lo ≤ k ∧ k < p.hi
  ro : ∀ k, tabBlk p.Lo nodes p.Ao k → p.lo ≤ k ∧ k < p.hi
  rt : p.lo ≤ p.bt ∧ p.bt < p.hi
  rf : p.lo ≤ p.bf ∧ p.bf < p.hi
  stf : p.bt ≠ p.bf
  sb : p.b ≠ p.bt ∧ p.b ≠ p.bf
  sa : ∀ a, p.aa = some a → a.block ≠ p.bt ∧ a.block ≠ p.bf
  si : ∀ k, tabBlk p.Li nodes p.Ai k → k ≠ p.bt ∧ k ≠ p.bf
  so : ∀ k, tabBlk p.Lo nodes p.Ao k → k ≠ p.bt ∧ k ≠ p.bf
  sz : p.hi ≤ w.heap.size

/-- Whatever turns none of its blocks leaves it as it was. -/
theorem St.keeps {S : Nat → Prop} {w w' : World} {p : StD} {nodes : Nat} {arcs : List ArcD} {s : Mark} (h : St w p nodes arcs s) (k : Keeps S w w') (hS : ∀ x, p.lo ≤ x → x < p.hi → ¬ S x) : St w' p nodes arcs s :=
  ⟨k.cell h.c0 (hS _ h.rb.1 h.rb.2), k.cell h.c1 (hS _ h.rb.1 h.rb.2), k.cell h.c2 (hS _ h.rb.1 h.rb.2), k.cell h.c3 (hS _ h.rb.1 h.rb.2), k.cell h.c4 (hS _ h.rb.1 h.rb.2),
    h.harcs.keeps k (fun a ha => hS _ (h.ra a ha).1 (h.ra a ha).2), h.ti.keeps k (fun x hx => hS _ (h.ri x hx).1 (h.ri x hx).2), h.tt.keeps k (fun x hx => hS _ (h.ro x hx).1 (h.ro x hx).2),
    k.owns h.ht (fun x hx => by simp [Value.ownBlock] at hx; subst hx; exact hS _ h.rt.1 h.rt.2), k.owns h.hf (fun x hx => by simp [Value.ownBlock] at hx; subst hx; exact hS _ h.rf.1 h.rf.2),
    h.rb, h.ra, h.ri, h.ro, h.rt, h.rf, h.stf, h.sb, h.sa, h.si, h.so, Nat.le_trans h.sz k.size⟩
theorem St.new {w w' : World} {p : StD} {nodes : Nat} {arcs : List ArcD} {s : Mark} (h : St w p nodes arcs s) (k : New w w') : St w' p nodes arcs s := h.keeps k (fun _ _ _ h => h)

theorem Ns_at {w : World} {ao : Option Addr} {xs : List Nat} (h : SlAt w ao (Ns xs)) {i : Nat} (hi : i < xs.length) :
    ∃ b off, ao = some ⟨b, off, none⟩ ∧ w.cell? ⟨b, off + i, none⟩ = some (.int .i64 (xs[i] : Int)) := by
  obtain ⟨b, off, e, c⟩ := h.at (i := i) (by simpa [Ns] using hi)
  exact ⟨b, off, e, by rw [c]; simp [Ns]⟩

theorem St.niLen {w : World} {p : StD} {nodes : Nat} {arcs : List ArcD} {s : Mark} (h : St w p nodes arcs s) {v : Nat} (hv : v < nodes) : p.Ni v = (inTo arcs (v : Int)).length := by
  have := (h.ti.row v hv).1; simp [Ns] at this; omega
theorem St.noLen {w : World} {p : StD} {nodes : Nat} {arcs : List ArcD} {s : Mark} (h : St w p nodes arcs s) {v : Nat} (hv : v < nodes) : p.No v = (outOf arcs (v : Int)).length := by
  have := (h.tt.row v hv).1; simp [Ns] at this; omega
theorem St.tLen {w : World} {p : StD} {nodes : Nat} {arcs : List ArcD} {s : Mark} (h : St w p nodes arcs s) : s.toks.length = arcs.length := by
  have := h.ht.1; simp at this; omega
theorem St.fLen {w : World} {p : StD} {nodes : Nat} {arcs : List ArcD} {s : Mark} (h : St w p nodes arcs s) : s.fired.length = nodes := by
  have := h.hf.1; simp at this; omega
theorem St.fits {w : World} {p : StD} {nodes : Nat} {arcs : List ArcD} {s : Mark} (h : St w p nodes arcs s) : Fits nodes arcs s := ⟨h.tLen, h.fLen⟩

theorem St.tok {w : World} {p : StD} {nodes : Nat} {arcs : List ArcD} {s : Mark} (h : St w p nodes arcs s) {i : Nat} (hi : i < arcs.length) : w.cell? ⟨p.bt, i, none⟩ = some (I (s.toks.getD i 0)) := by
  rw [h.ht.cellAt i (by omega)]
  have := h.tLen
  simp [show i < s.toks.length by omega]
theorem St.fir {w : World} {p : StD} {nodes : Nat} {arcs : List ArcD} {s : Mark} (h : St w p nodes arcs s) {i : Nat} (hi : i < nodes) : w.cell? ⟨p.bf, i, none⟩ = some (I (s.fired.getD i 0)) := by
  rw [h.hf.cellAt i (by omega)]
  have := h.fLen
  simp [show i < s.fired.length by omega]

theorem has_any (w : World) (p : StD) (nodes : Nat) (arcs : List ArcD) (s : Mark) (v : Int) (h : St w p nodes arcs s) :
    Calls Try.prog 39 #[.pointer (some ⟨p.b, 0, none⟩), I v] w fun e w' => e = .returned (.bool (decide (0 ≤ v ∧ v < nodes))) ∧ w = w' := by
  have c1 := h.c1
  by_cases h1 : 0 ≤ v
  · by_cases h2 : v < nodes
    · go_enter Try.func39, Try.ntmps39
      go_wp2
      go_ret
      exact ⟨ret_b (by simp; omega), rfl⟩
    · go_enter Try.func39, Try.ntmps39
      go_wp2
      go_ret
      exact ⟨ret_b (by simp; omega), rfl⟩
  · go_enter Try.func39, Try.ntmps39
    go_wp2
    go_ret
    exact ⟨ret_b (by simp; omega), rfl⟩

theorem needs_any (w : World) (p : StD) (nodes : Nat) (arcs : List ArcD) (s : Mark) (v : Nat) (h : St w p nodes arcs s) (hv : v < nodes) :
    Calls Try.prog 37 #[.pointer (some ⟨p.b, 0, none⟩), I v] w fun e w' => e = .returned (.slice (p.Ai v) (p.Ni v) (p.Ci v)) ∧ w = w' := by
  have c1 := h.c1
  have q := (h.ti.cell hv).1
  go_enter Try.func37, Try.ntmps37
  go_wp2
  go_ret
  exact ⟨rfl, rfl⟩
theorem feeds_any (w : World) (p : StD) (nodes : Nat) (arcs : List ArcD) (s : Mark) (v : Nat) (h : St w p nodes arcs s) (hv : v < nodes) :
    Calls Try.prog 38 #[.pointer (some ⟨p.b, 0, none⟩), I v] w fun e w' => e = .returned (.slice (p.Ao v) (p.No v) (p.Co v)) ∧ w = w' := by
  have c1 := h.c2
  have q := (h.tt.cell hv).1
  go_enter Try.func38, Try.ntmps38
  go_wp2
  go_ret
  exact ⟨rfl, rfl⟩

theorem St.drewN {w : World} {p : StD} {nodes : Nat} {arcs : List ArcD} {s : Mark} (h : St w p nodes arcs s) (n : Nat) : St (w.drewN n) p nodes arcs s := h.new (Keeps.drewN _ _)

theorem shortOn_hit {arcs : List ArcD} {t : List Int} {l : List Nat} {k : Nat} (hk : k < l.length) (hno : ∀ j (h : j < l.length), j < k → (arcAt arcs l[j]).take ≤ t.getD l[j] 0) (hs : t.getD l[k] 0 < (arcAt arcs l[k]).take) : shortOn arcs t l = (l[k] : Int) := by
  induction l generalizing k with
  | nil => simp at hk
  | cons x r ih =>
    unfold shortOn
    cases k with
    | zero => simp only [List.getElem_cons_zero] at hs ⊢; rw [if_pos hs]
    | succ k =>
      have h0 := hno 0 (by simp) (by omega)
      simp only [List.getElem_cons_zero] at h0
      rw [if_neg (by omega)]
      simp only [List.getElem_cons_succ] at hs ⊢
      exact ih (by simpa using hk) (fun j h hj => by have := hno (j + 1) (by simpa using h) (by omega); simpa using this) hs
theorem shortOn_miss {arcs : List ArcD} {t : List Int} {l : List Nat} (hno : ∀ j (h : j < l.length), (arcAt arcs l[j]).take ≤ t.getD l[j] 0) : shortOn arcs t l = -1 := by
  induction l with
  | nil => rfl
  | cons x r ih =>
    unfold shortOn
    have h0 := hno 0 (by simp)
    simp only [List.getElem_cons_zero] at h0
    rw [if_neg (by omega)]
    exact ih (fun j h => by have := hno (j + 1) (by simpa using h); simpa using this)

set_option maxHeartbeats 1000000 in
theorem short_any (w : World) (p : StD) (nodes : Nat) (arcs : List ArcD) (s : Mark) (v : Int) (h : St w p nodes arcs s) (hm : arcs.length ≤ 96) :
    Calls Try.prog 27 #[.pointer (some ⟨p.b, 0, none⟩), I v] w fun e w' => e = .returned (I (shortS arcs nodes s.toks v)) ∧ ∃ n, w' = w.drewN n := by
  by_cases hv : 0 ≤ v ∧ v < nodes
  · obtain ⟨u, rfl⟩ := Int.eq_ofNat_of_zero_le hv.1
    have hu : u < nodes := by omega
    have hd : decide ((0 : Int) ≤ (u : Int) ∧ (u : Int) < (nodes : Int)) = true := by simpa using hv
    have hs : shortS arcs nodes s.toks u = shortOn arcs s.toks (inTo arcs u) := by unfold shortS; rw [if_pos hv]
    have HS := Lib.hid hs
    have hN := h.niLen hu
    have HN := Lib.hid hN
    have hrow := SlAt.of_owns (h.ti.row u hu)
    have hln := inTo_len arcs (u : Int)
    have hlt : ∀ i ∈ inTo arcs (u : Int), i < arcs.length := fun i hi => inTo_lt hi
    have HLT := Lib.hid hlt
    clear hs hN hv hlt
    generalize inTo arcs (u : Int) = l at HS HN hrow hln HLT
    have hle1 : p.Ni u ≤ l.length := by have := HN.out; omega
    have hle2 : l.length ≤ p.Ni u := by have := HN.out; omega
    have c0 := h.c0
    have c3 := h.c3
    go_enter Try.func27, Try.ntmps27
    go_wp2_with (first
      | (go_at_call 39; refine (has_any w p nodes arcs s _ h).mono ?_; rintro e w' ⟨rfl, rfl⟩)
      | (go_at_call 37; refine (needs_any _ p nodes arcs s _ h hu).mono ?_; rintro e w' ⟨rfl, rfl⟩))
    go_loopw [21] (fun i wr => ∃ k : Nat, k ≤ p.Ni u ∧ i = .int .i64 k ∧ (∀ j (h : j < l.length), j < k → (arcAt arcs l[j]).take ≤ s.toks.getD l[j] 0) ∧ ∃ n, wr = w.drewN n) (fun i _ => p.Ni u - (intOf i).toNat)
    case atStart => exact ⟨0, by omega, rfl, by omega, 0, rfl⟩
    case round =>
      obtain ⟨k, hk, rfl, hall, n, rfl⟩ := hrel
      have HA := Lib.hid hall
      clear hall
      by_cases hk1 : k < p.Ni u
      · have hkl : k < l.length := by omega
        obtain ⟨b1, o1, hb1, q1⟩ := Ns_at hrow hkl
        have hi := HLT.out l[k] (List.getElem_mem _)
        have ht := h.tok hi
        obtain ⟨b2, o2, hb2, _, _, _, q2, _⟩ := arcs_at h.harcs hi
        have hat : arcs[l[k]] = arcAt arcs l[k] := by simp [arcAt, hi]
        rw [hat] at q2
        clear hat
        rw [hb2] at c0
        have hyes := shortOn_hit (arcs := arcs) (t := s.toks) (l := l) (k := k) hkl (fun j h hj => HA.out j h hj)
        have HY := Lib.hid hyes
        have hst : ∀ j (h : j < l.length), j < k + 1 → (arcAt arcs (l[k]'hkl)).take ≤ s.toks.getD (l[k]'hkl) 0 → (arcAt arcs l[j]).take ≤ s.toks.getD l[j] 0 := fun j h hj hl => by
          by_cases e : j < k
          · exact HA.out j h e
          · obtain rfl : j = k := by omega
            exact hl
        have HST := Lib.hid hst
        clear hyes hst
        generalize hik : l[k] = i at q1 hi ht q2 HY HST
        have HIK := Lib.hid hik
        clear hik
        generalize hti : s.toks.getD i 0 = ti at ht HY HST
        generalize hta : (arcAt arcs i).take = ta at q2 HY HST
        have HTI := Lib.hid hti
        have HTA := Lib.hid hta
        clear hti hta hb2
        have hi1 : (i : Int) < (arcs.length : Int) := by omega
        have hi0 : (0 : Int) ≤ (i : Int) := by omega
        rw [hb1]
        go_wp2
        go_quiet (fail)
        go_wp2
        · have hlt : ti < ta := by assumption
          go_ret
          rw [HS.out]
          exact ⟨ret_i (HY.out hlt).symm, n + nq, by simp⟩
        · have hge : ta ≤ ti := by omega
          go_roundw
          case rel => exact ⟨k + 1, by omega, by go_num, fun j h hj => HST.out j h hj hge, _, rfl⟩
          case measure => simp [intOf]; omega
      · go_wp2
        go_ret
        rw [HS.out]
        exact ⟨ret_i (shortOn_miss (fun j h => HA.out j h (by omega))).symm, _, rfl⟩
  · have hs : shortS arcs nodes s.toks v = -1 := by unfold shortS; rw [if_neg hv]
    have HS := Lib.hid hs
    have hd : decide ((0 : Int) ≤ v ∧ v < (nodes : Int)) = false := by simpa using hv
    clear hs hv
    go_enter Try.func27, Try.ntmps27
    go_wp2_with (go_at_call 39; refine (has_any w p nodes arcs s _ h).mono ?_; rintro e w' ⟨rfl, rfl⟩)
    go_ret
    rw [HS.out]
    exact ⟨rfl, 0, rfl⟩

theorem may_any (w : World) (p : StD) (nodes : Nat) (arcs : List ArcD) (s : Mark) (v : Int) (h : St w p nodes arcs s) (hm : arcs.length ≤ 96) :
    Calls Try.prog 26 #[.pointer (some ⟨p.b, 0, none⟩), I v] w fun e w' => e = .returned (.bool (mayS arcs nodes s.toks v)) ∧ ∃ n, w' = w.drewN n := by
  by_cases hv : 0 ≤ v ∧ v < nodes
  · have hs : mayS arcs nodes s.toks v = decide (shortS arcs nodes s.toks v < 0) := by unfold mayS; rw [decide_eq_true hv]; rfl
    have HS := Lib.hid hs
    have hd : decide ((0 : Int) ≤ v ∧ v < (nodes : Int)) = true := by simpa using hv
    clear hs hv
    go_enter Try.func26, Try.ntmps26
    go_wp2_with (first
      | (go_at_call 39; refine (has_any w p nodes arcs s _ h).mono ?_; rintro e w' ⟨rfl, rfl⟩)
      | (go_at_call 27; refine (short_any w p nodes arcs s _ h hm).mono ?_; rintro e w' ⟨rfl, n, rfl⟩))
    go_ret
    rw [HS.out]
    exact ⟨rfl, _, rfl⟩
  · have hs : mayS arcs nodes s.toks v = false := by unfold mayS; rw [decide_eq_false hv]; rfl
    have HS := Lib.hid hs
    have hd : decide ((0 : Int) ≤ v ∧ v < (nodes : Int)) = false := by simpa using hv
    clear hs hv
    go_enter Try.func26, Try.ntmps26
    go_wp2_with (first
      | (go_at_call 39; refine (has_any w p nodes arcs s _ h).mono ?_; rintro e w' ⟨rfl, rfl⟩))
    go_ret
    rw [HS.out]
    exact ⟨rfl, 0, rfl⟩

/-- Counts, Fired: a copy in a row of its own. -/
theorem counts_any (w : World) (p : StD) (nodes : Nat) (arcs : List ArcD) (s : Mark) (h : St w p nodes arcs s) (hm : arcs.length ≤ 96) :
    Calls Try.prog 24 #[.pointer (some ⟨p.b, 0, none⟩)] w fun e w' => ∃ ao' c', e = .returned (.slice ao' s.toks.length c') ∧ OwnI w' w.heap.size ao' c' s.toks ∧ New w w' := by
  obtain ⟨i0, hi, hz0, hz1, hz2⟩ := info_parts Try.infoInt
  have hk : ∀ o, Keeps (fun _ => False) w (w.alloc o) := fun o => Keeps.alloc w o
  have c3 := (hk (.cells #[] 3)).cell h.c3 (fun h => h)
  have hlen := h.tLen
  have HL := Lib.hid hlen
  clear hlen
  have hsl := (SlAt.of_owns h.ht).new (hk (.cells #[] 3))
  go_enter Try.func24, Try.ntmps24
  go_wp2_with ((at_builtin; refine wpList_app rfl _ _ 37 rfl w.heap.size 3 i0 (.int .i64 0) 1 8 Try.underlying37 hi hz0 hz1 hz2 rfl (by decide) _ 0 0 [] rfl ?cc (some ⟨p.bt, 0, none⟩) arcs.length arcs.length (Is s.toks) rfl ?c00 ?c0 ?c1 ?c2 ?c3 ?c4 ?c5))
  case cc => exact World.ownsRow_made (size := 1) _ #[] 0 (Nat.le_refl _) (by decide) (by simp)
  case c00 => have := HL.out; simp; omega
  case c0 => exact hsl
  case c1 => exact ints_oneCell _ _
  case c2 => unfold maxLen; omega
  case c3 => omega
  case c4 => simp
  case c5 =>
    intro ao' c' w' hown' hk' hmv _
    have hn : New w w' := (hk (.cells #[] 3)).trans hk' (fun i hi ⟨a, ha, hb⟩ => by simp only [Option.some.injEq] at ha; subst ha; simp at hb; omega)
    clear c3 hk' hmv
    go_wp2
    go_ret
    refine ⟨ao', c', by rw [HL.out]; simp, by unfold OwnI; rw [HL.out]; simpa using hown', hn⟩
theorem fired_any (w : World) (p : StD) (nodes : Nat) (arcs : List ArcD) (s : Mark) (h : St w p nodes arcs s) (hm : nodes ≤ 32) :
    Calls Try.prog 23 #[.pointer (some ⟨p.b, 0, none⟩)] w fun e w' => ∃ ao' c', e = .returned (.slice ao' s.fired.length c') ∧ OwnI w' w.heap.size ao' c' s.fired ∧ New w w' := by
  obtain ⟨i0, hi, hz0, hz1, hz2⟩ := info_parts Try.infoInt
  have hk : ∀ o, Keeps (fun _ => False) w (w.alloc o) := fun o => Keeps.alloc w o
  have c3 := (hk (.cells #[] 3)).cell h.c4 (fun h => h)
  have hlen := h.fLen
  have HL := Lib.hid hlen
  clear hlen
  have hsl := (SlAt.of_owns h.hf).new (hk (.cells #[] 3))
  go_enter Try.func23, Try.ntmps23
  go_wp2_with ((at_builtin; refine wpList_app rfl _ _ 37 rfl w.heap.size 3 i0 (.int .i64 0) 1 8 Try.underlying37 hi hz0 hz1 hz2 rfl (by decide) _ 0 0 [] rfl ?cc (some ⟨p.bf, 0, none⟩) nodes nodes (Is s.fired) rfl ?c00 ?c0 ?c1 ?c2 ?c3 ?c4 ?c5))
  case cc => exact World.ownsRow_made (size := 1) _ #[] 0 (Nat.le_refl _) (by decide) (by simp)
  case c00 => have := HL.out; simp; omega
  case c0 => exact hsl
  case c1 => exact ints_oneCell _ _
  case c2 => unfold maxLen; omega
  case c3 => omega
  case c4 => simp
  case c5 =>
    intro ao' c' w' hown' hk' hmv _
    have hn : New w w' := (hk (.cells #[] 3)).trans hk' (fun i hi ⟨a, ha, hb⟩ => by simp only [Option.some.injEq] at ha; subst ha; simp at hb; omega)
    clear c3 hk' hmv
    go_wp2
    go_ret
    refine ⟨ao', c', by rw [HL.out]; simp, by unfold OwnI; rw [HL.out]; simpa using hown', hn⟩

end Go.Proofs.Ytijlgcbnoekmeaa
