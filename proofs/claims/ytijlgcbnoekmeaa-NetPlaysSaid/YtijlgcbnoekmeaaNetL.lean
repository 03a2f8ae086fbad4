/-
  Layer 10: a question beside the reference's answer.
-/
import Derived.Test.YtijlgcbnoekmeaaNetJ
import Derived.Test.YtijlgcbnoekmeaaApart2
namespace Go.Proofs.Ytijlgcbnoekmeaa
open Go Go.RowKit
set_option linter.all false

/-- One list in a literal. -/
theorem apart1 (W : World) (g B : Nat) (hg : g = W.heap.size) (a0 : Option Addr) (n0 c0 : Nat) (X0 : List Value)
    (h0 : W.ownsRow B 3 1 (.slice a0 n0 c0) n0 X0) (hB : B ≤ W.heap.size) (b0 : (n0 + 16) * 8 ≤ 140737488355328) :
    Calls Try.prog 34 #[.slice (some ⟨g, 0, none⟩) 1 1] (W.alloc (.cells #[.slice a0 n0 c0] 37)) fun e w' =>
      e = .returned (.bool true) ∧ Keeps (blk a0) W w' := by
  subst hg
  have hk : New W (W.alloc (.cells #[.slice a0 n0 c0] 37)) := Keeps.alloc _ _
  have l0 : ∀ k, blk a0 k → k < W.heap.size := by
    rintro k ⟨x, rfl, rfl⟩
    exact (World.ownsRow.lt h0 x.block rfl).2
  refine (apart_any _ W.heap.size 0 1 1 B (fun _ => a0) (fun _ => n0) (fun _ => c0) (fun _ => X0) ?_ ?_ ?_ ?_ (by simp) (by simp; omega) (by omega) ?_).mono ?_
  · intro j hj
    obtain rfl : j = 0 := by omega
    simp
  · intro j hj; exact hk.owns h0
  · intro i j hi hj e; omega
  · intro j hj k hb; have := l0 k hb; omega
  · intro j hj; exact b0
  · rintro e w' ⟨rfl, hkeep⟩
    refine ⟨rfl, Keeps.trans (S := blk a0) (Keeps.mono hk (fun _ _ h => h.elim)) hkeep ?_⟩
    rintro k _ ⟨j, hj, hb⟩
    exact hb

def opV (ask : Int) (a : Option Addr) (c : Nat) (xs : List Int) : Value := .agg #[I ask, .slice a xs.length c]

section
variable (w : World) (p : StD) (n : Nat) (x0 : List ArcD) (s : Mark) (ao : Option Addr) (c lo bf : Nat) (ask : Int) (a : Option Addr) (ca k : Nat)

set_option maxRecDepth 100000 in
set_option maxHeartbeats 2000000 in
theorem asked_1 (hs : Sound n x0) (hst : St w p n x0 s) (hrs : Rs w n x0 ao lo bf s.fired) (he : EqnW x0 s) :
    Calls Try.prog 18 #[.pointer (some ⟨p.b, 0, none⟩), .agg #[I n, .slice ao x0.length c, .slice (some ⟨bf, 0, none⟩) n n], .agg #[I 1, .slice a k ca]] w fun e w' => e = .returned (.bool true) ∧ New w w' := by
  have hM := hs.m
  have hf := hst.fits
  have HF := Lib.hid hf
  have HE := Lib.hid he
  clear hf he
  go_enter Try.func18, Try.ntmps18
  have kA : New w ((w.alloc (.cells #[I n, .slice ao x0.length c, .slice (some ⟨bf, 0, none⟩) n n] 39)).alloc (.cells #[I 1, .slice a k ca] 42)) := ((New.refl w).alloc _).alloc _
  have b0 : ((w.alloc (.cells #[I n, .slice ao x0.length c, .slice (some ⟨bf, 0, none⟩) n n] 39)).alloc (.cells #[I 1, .slice a k ca] 42)).cell? ⟨w.heap.size, 0, none⟩ = some (I n) := by rw [World.cell?_alloc_past _ _ _ (by simp)]; simp
  have b1 : ((w.alloc (.cells #[I n, .slice ao x0.length c, .slice (some ⟨bf, 0, none⟩) n n] 39)).alloc (.cells #[I 1, .slice a k ca] 42)).cell? ⟨w.heap.size, 1, none⟩ = some (.slice ao x0.length c) := by rw [World.cell?_alloc_past _ _ _ (by simp)]; simp
  have b2 : ((w.alloc (.cells #[I n, .slice ao x0.length c, .slice (some ⟨bf, 0, none⟩) n n] 39)).alloc (.cells #[I 1, .slice a k ca] 42)).cell? ⟨w.heap.size, 2, none⟩ = some (.slice (some ⟨bf, 0, none⟩) n n) := by rw [World.cell?_alloc_past _ _ _ (by simp)]; simp
  go_wp2_with fail
  refine (counts_any _ p n x0 s (hst.new kA) hM).mono ?_
  rintro e w1 ⟨a1, c1, rfl, o1, m1⟩
  have k1 := kA.trans m1
  have b01 := m1.cell b0
  have b11 := m1.cell b1
  have b21 := m1.cell b2
  have hA : w.heap.size ≤ ((w.alloc (.cells #[I n, .slice ao x0.length c, .slice (some ⟨bf, 0, none⟩) n n] 39)).alloc (.cells #[I 1, .slice a k ca] 42)).heap.size := kA.size
  have hfr : ∀ k, blk a1 k → w.heap.size ≤ k := fun k hk => Nat.le_trans hA (own_of_blk o1 hk).1
  clear m1 b0 b1 b2 kA
  go_wp2_with fail
  refine (refCounts_any _ n x0 ao c lo bf s hs (hrs.new k1) HF.out HE.out).mono ?_
  rintro e w2 ⟨g2, rfl, o2, m2⟩
  have hT := HF.out.t
  have HT := Lib.hid hT
  clear hT b01 b11 b21
  go_wp2_with fail
  refine (sameI _ _ _ s.toks s.toks _ _ _ _ true (o1.sl.new m2) (SlAt.of_owns o2) rfl HT.out (by simp) (by rw [HT.out]; omega)).mono ?_
  rintro e w3 ⟨rfl, m3⟩
  have m23 := m2.trans m3
  have o13 := o1.new m23
  have hz13 := m23.size
  have k3 := k1.trans m23
  clear o1 o2 m2 m3 m23 k1
  go_wp2_with fail
  refine (apart1 _ _ w.heap.size (by first | rfl | simp) a1 s.toks.length c1 (Is s.toks) (ownsRow_rebase o13 (fun k hk => hfr k (blk_of_own hk))) k3.size (by rw [HT.out]; omega)).mono ?_
  rintro e w4 ⟨rfl, m4⟩
  go_wp2
  go_ret
  exact ⟨rfl, k3.keeps m4 (fun i hi hb => by have := hfr i hb; omega)⟩

set_option maxRecDepth 100000 in
set_option maxHeartbeats 2000000 in
theorem asked_2 (hs : Sound n x0) (hst : St w p n x0 s) (hrs : Rs w n x0 ao lo bf s.fired) (he : EqnW x0 s) :
    Calls Try.prog 18 #[.pointer (some ⟨p.b, 0, none⟩), .agg #[I n, .slice ao x0.length c, .slice (some ⟨bf, 0, none⟩) n n], .agg #[I 2, .slice a k ca]] w fun e w' => e = .returned (.bool true) ∧ New w w' := by
  have hM := hs.m
  have hf := hst.fits
  have HF := Lib.hid hf
  have HE := Lib.hid he
  clear hf he
  go_enter Try.func18, Try.ntmps18
  have kA : New w ((w.alloc (.cells #[I n, .slice ao x0.length c, .slice (some ⟨bf, 0, none⟩) n n] 39)).alloc (.cells #[I 2, .slice a k ca] 42)) := ((New.refl w).alloc _).alloc _
  have b0 : ((w.alloc (.cells #[I n, .slice ao x0.length c, .slice (some ⟨bf, 0, none⟩) n n] 39)).alloc (.cells #[I 2, .slice a k ca] 42)).cell? ⟨w.heap.size, 0, none⟩ = some (I n) := by rw [World.cell?_alloc_past _ _ _ (by simp)]; simp
  have b1 : ((w.alloc (.cells #[I n, .slice ao x0.length c, .slice (some ⟨bf, 0, none⟩) n n] 39)).alloc (.cells #[I 2, .slice a k ca] 42)).cell? ⟨w.heap.size, 1, none⟩ = some (.slice ao x0.length c) := by rw [World.cell?_alloc_past _ _ _ (by simp)]; simp
  have b2 : ((w.alloc (.cells #[I n, .slice ao x0.length c, .slice (some ⟨bf, 0, none⟩) n n] 39)).alloc (.cells #[I 2, .slice a k ca] 42)).cell? ⟨w.heap.size, 2, none⟩ = some (.slice (some ⟨bf, 0, none⟩) n n) := by rw [World.cell?_alloc_past _ _ _ (by simp)]; simp
  go_wp2_with fail
  refine (fired_any _ p n x0 s (hst.new kA) hs.n2).mono ?_
  rintro e w1 ⟨a1, c1, rfl, o1, m1⟩
  have k1 := kA.trans m1
  have b01 := m1.cell b0
  have b11 := m1.cell b1
  have b21 := m1.cell b2
  have hA : w.heap.size ≤ ((w.alloc (.cells #[I n, .slice ao x0.length c, .slice (some ⟨bf, 0, none⟩) n n] 39)).alloc (.cells #[I 2, .slice a k ca] 42)).heap.size := kA.size
  have hfr : ∀ k, blk a1 k → w.heap.size ≤ k := fun k hk => Nat.le_trans hA (own_of_blk o1 hk).1
  have hT := HF.out.f
  have HT := Lib.hid hT
  have hN := hs.n2
  clear hT b0 b1 b2 kA
  go_wp2_with fail
  refine (sameI _ _ _ s.fired s.fired _ _ _ _ true o1.sl (SlAt.of_owns (hrs.new k1).hf) rfl HT.out (by simp) (by rw [HT.out]; omega)).mono ?_
  rintro e w3 ⟨rfl, m3⟩
  have o13 := o1.new m3
  have hz13 := m3.size
  have k3 := k1.trans m3
  clear o1 m3 k1 b01 b11 b21
  go_wp2_with fail
  refine (apart1 _ _ w.heap.size (by first | rfl | simp) a1 s.fired.length c1 (Is s.fired) (ownsRow_rebase o13 (fun k hk => hfr k (blk_of_own hk))) k3.size (by rw [HT.out]; omega)).mono ?_
  rintro e w4 ⟨rfl, m4⟩
  go_wp2
  go_ret
  exact ⟨rfl, k3.keeps m4 (fun i hi hb => by have := hfr i hb; omega)⟩

set_option maxRecDepth 100000 in
set_option maxHeartbeats 4000000 in
theorem asked_3 (xs : List Int) (hs : Sound n x0) (hst : St w p n x0 s) (hrs : Rs w n x0 ao lo bf s.fired) (he : EqnW x0 s) (hx : SlAt w a (Is xs)) (hl : xs.length ≤ maxLen) (h1 : ask ≠ 1) (h2 : ask ≠ 2) :
    Calls Try.prog 18 #[.pointer (some ⟨p.b, 0, none⟩), .agg #[I n, .slice ao x0.length c, .slice (some ⟨bf, 0, none⟩) n n], .agg #[I ask, .slice a xs.length ca]] w fun e w' => e = .returned (.bool true) ∧ New w w' := by
  have hM := hs.m
  unfold maxLen at hl
  have HE := Lib.hid he
  have e1 : decide (ask = 1) = false := by simpa using h1
  have e2 : decide (ask = 2) = false := by simpa using h2
  have e3 : (ask == 1) = false := by simpa using h1
  have e4 : (ask == 2) = false := by simpa using h2
  clear he h1 h2
  go_enter Try.func18, Try.ntmps18
  have kA : New w ((w.alloc (.cells #[I n, .slice ao x0.length c, .slice (some ⟨bf, 0, none⟩) n n] 39)).alloc (.cells #[I ask, .slice a xs.length ca] 42)) := ((New.refl w).alloc _).alloc _
  have b0 : ((w.alloc (.cells #[I n, .slice ao x0.length c, .slice (some ⟨bf, 0, none⟩) n n] 39)).alloc (.cells #[I ask, .slice a xs.length ca] 42)).cell? ⟨w.heap.size, 0, none⟩ = some (I n) := by rw [World.cell?_alloc_past _ _ _ (by simp)]; simp
  have b1 : ((w.alloc (.cells #[I n, .slice ao x0.length c, .slice (some ⟨bf, 0, none⟩) n n] 39)).alloc (.cells #[I ask, .slice a xs.length ca] 42)).cell? ⟨w.heap.size, 1, none⟩ = some (.slice ao x0.length c) := by rw [World.cell?_alloc_past _ _ _ (by simp)]; simp
  have b2 : ((w.alloc (.cells #[I n, .slice ao x0.length c, .slice (some ⟨bf, 0, none⟩) n n] 39)).alloc (.cells #[I ask, .slice a xs.length ca] 42)).cell? ⟨w.heap.size, 2, none⟩ = some (.slice (some ⟨bf, 0, none⟩) n n) := by rw [World.cell?_alloc_past _ _ _ (by simp)]; simp
  have b3 : ((w.alloc (.cells #[I n, .slice ao x0.length c, .slice (some ⟨bf, 0, none⟩) n n] 39)).alloc (.cells #[I ask, .slice a xs.length ca] 42)).cell? ⟨w.heap.size + 1, 1, none⟩ = some (.slice a xs.length ca) := by simp
  go_wp2
  generalize ((w.alloc (.cells #[I n, .slice ao x0.length c, .slice (some ⟨bf, 0, none⟩) n n] 39)).alloc (.cells #[I ask, .slice a xs.length ca] 42)) = wA at kA b0 b1 b2 b3 ⊢
  go_loopw [11] (fun i wr => ∃ j : Nat, j ≤ xs.length ∧ i = .int .i64 j ∧ New wA wr) (fun i _ => xs.length - (intOf i).toNat)
  case atStart => exact ⟨0, Nat.zero_le _, rfl, New.refl _⟩
  case round =>
    obtain ⟨j, hj, rfl, hn⟩ := hrel
    have b3r := hn.cell b3
    have hnw := kA.trans hn
    by_cases hj1 : j < xs.length
    · obtain ⟨bx, ox, rfl, q⟩ := Is_at (hx.new hnw) hj1
      generalize xs[j] = v at q
      have hj0 : (j : Int) < (xs.length : Int) := by omega
      have b0r := hn.cell b0
      have b1r := hn.cell b1
      have b2r := hn.cell b2
      have hmay : ∀ w1, New wr w1 → Calls Try.prog 26 #[.pointer (some ⟨p.b, 0, none⟩), I v] w1 fun e w' => e = .returned (.bool (mayS x0 n s.toks v)) ∧ New w1 w' :=
        fun w1 k => mayN_any w1 p n x0 s v (hst.new (hnw.trans k)) hM
      have hsho : ∀ w1, New wr w1 → Calls Try.prog 27 #[.pointer (some ⟨p.b, 0, none⟩), I v] w1 fun e w' => e = .returned (I (shortS x0 n s.toks v)) ∧ New w1 w' :=
        fun w1 k => shortN_any w1 p n x0 s v (hst.new (hnw.trans k)) hM
      have hrmay : ∀ w1, New wr w1 → Calls Try.prog 35 #[.agg #[I n, .slice ao x0.length c, .slice (some ⟨bf, 0, none⟩) n n], I v] w1 fun e w' => e = .returned (.bool (mayS x0 n s.toks v)) ∧ New w1 w' :=
        fun w1 k => refMay_any w1 n x0 ao c lo bf s v hs (hrs.new (hnw.trans k)) HE.out
      have hrsho : ∀ w1, New wr w1 → Calls Try.prog 36 #[.agg #[I n, .slice ao x0.length c, .slice (some ⟨bf, 0, none⟩) n n], I v] w1 fun e w' => e = .returned (I (shortS x0 n s.toks v)) ∧ New w1 w' :=
        fun w1 k => refShort_any w1 n x0 ao c lo bf s v hs (hrs.new (hnw.trans k)) HE.out
      generalize mayS x0 n s.toks v = bm at hmay hrmay
      generalize shortS x0 n s.toks v = sh at hsho hrsho
      go_wp2_with fail
      go_region_held3 (fun w' => w'.cell? ⟨w.heap.size, 0, none⟩ = some (I n) ∧ w'.cell? ⟨w.heap.size, 1, none⟩ = some (.slice ao x0.length c) ∧ w'.cell? ⟨w.heap.size, 2, none⟩ = some (.slice (some ⟨bf, 0, none⟩) n n))
        ((refine ⟨New.cell (w := wr) ?_ b0r, New.cell (w := wr) ?_ b1r, New.cell (w := wr) ?_ b2r⟩ <;> (repeat (first | exact New.refl wr | refine New.drew ?_ | refine New.trans ?_ hN4 | refine New.trans ?_ hN3 | refine New.trans ?_ hN2 | refine New.trans ?_ hN1))))
        (first
          | (go_at_call 26; refine (hmay _ (by repeat (first | exact New.refl wr | refine New.drew ?_))).mono ?_; rintro e w2 ⟨rfl, hN1⟩)
          | (go_at_call 35; refine (hrmay _ (by repeat (first | exact New.refl wr | refine New.drew ?_ | refine New.trans ?_ hN1))).mono ?_; rintro e w3 ⟨rfl, hN2⟩)
          | (go_at_call 27; refine (hsho _ (by repeat (first | exact New.refl wr | refine New.drew ?_ | refine New.trans ?_ hN2 | refine New.trans ?_ hN1))).mono ?_; rintro e w4 ⟨rfl, hN3⟩)
          | (go_at_call 36; refine (hrsho _ (by repeat (first | exact New.refl wr | refine New.drew ?_ | refine New.trans ?_ hN3 | refine New.trans ?_ hN2 | refine New.trans ?_ hN1))).mono ?_; rintro e w5 ⟨rfl, hN4⟩))
      all_goals
        have hfin : New wr w5 := by repeat (first | exact New.refl wr | refine New.drew ?_ | refine New.trans ?_ hN4 | refine New.trans ?_ hN3 | refine New.trans ?_ hN2 | refine New.trans ?_ hN1)
        simp only [Exit.then]
        go_wp2
        go_roundw
        case rel => exact ⟨j + 1, by omega, by go_num, hn.trans hfin⟩
        case measure => simp [intOf]; omega
    · go_wp2
      go_ret
      exact ⟨rfl, hnw⟩

theorem asked_any (xs : List Int) (hs : Sound n x0) (hst : St w p n x0 s) (hrs : Rs w n x0 ao lo bf s.fired) (he : EqnW x0 s) (hx : SlAt w a (Is xs)) (hl : xs.length ≤ maxLen) :
    Calls Try.prog 18 #[.pointer (some ⟨p.b, 0, none⟩), .agg #[I n, .slice ao x0.length c, .slice (some ⟨bf, 0, none⟩) n n], .agg #[I ask, .slice a xs.length ca]] w fun e w' => e = .returned (.bool true) ∧ New w w' := by
  by_cases h1 : ask = 1
  · subst h1; exact asked_1 w p n x0 s ao c lo bf a ca _ hs hst hrs he
  · by_cases h2 : ask = 2
    · subst h2; exact asked_2 w p n x0 s ao c lo bf a ca _ hs hst hrs he
    · exact asked_3 w p n x0 s ao c lo bf ask a ca xs hs hst hrs he hx hl h1 h2
end

theorem SlAt.old' {w : World} {ao : Option Addr} {cs : List Value} (h : SlAt w ao cs) (hne : 0 < cs.length) : ∀ a, ao = some a → a.block < w.heap.size := by
  intro a ha
  obtain ⟨b, off, e, c⟩ := h.at hne
  rw [ha] at e; cases e
  exact World.block_lt_of_cell? w _ c

/-- Fire of a list that was there at a, before the reference's row. -/
theorem refFire_old (a w : World) (nodes : Nat) (arcs : List ArcD) (ao vo : Option Addr) (c cv lo bf : Nat) (s : Mark) (vs : List Int) (hs : Sound nodes arcs) (h : Rs w nodes arcs ao lo bf s.fired) (hf : Fits nodes arcs s) (he : EqnW arcs s) (hw : ∀ x ∈ s.fired, wrap64 x = x)
    (hx : SlAt a vo (Is vs)) (ha : New a w) (hl : a.heap.size ≤ bf) (hvl : vs.length ≤ 9000000000000000000) :
    Calls Try.prog 21 #[refV nodes arcs ao c bf, .slice vo vs.length cv] w fun e w' => e = .returned (I ((fireW arcs nodes s vs).1 : Int)) ∧ Rs w' nodes arcs ao lo bf (fireW arcs nodes s vs).2.fired ∧ Keeps (fun k => k = bf) w w' := by
  by_cases hne : vs = []
  · subst hne
    have hn := hs.n2
    unfold refV
    go_enter Try.func21, Try.ntmps21
    go_wp2
    go_loopw [5] (fun i wr => i = .int .i64 0 ∧ wr = (w.alloc (.cells #[I nodes, .slice ao arcs.length c, .slice (some ⟨bf, 0, none⟩) nodes nodes] 39))) (fun i _ => 0)
    case atStart => exact ⟨rfl, rfl⟩
    case round =>
      obtain ⟨rfl, rfl⟩ := hrel
      go_wp2
      go_ret
      exact ⟨rfl, h.new (Keeps.alloc _ _), Keeps.alloc _ _⟩
  · exact refFire_any w nodes arcs ao vo c cv lo bf s vs hs h hf he hw (hx.new ha) (fun x hx' => by have := hx.old' (by simpa using List.length_pos_iff.2 hne) x hx'; omega) hvl
end Go.Proofs.Ytijlgcbnoekmeaa
