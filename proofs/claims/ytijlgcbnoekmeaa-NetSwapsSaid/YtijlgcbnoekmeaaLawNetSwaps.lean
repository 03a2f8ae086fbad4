/-
  'NetSwaps': the law returns true at every input; what it is handed reads afterwards as before.
-/
import Derived.Test.YtijlgcbnoekmeaaRead
import Derived.Test.YtijlgcbnoekmeaaReadNet
import Derived.Test.YtijlgcbnoekmeaaNetJ
namespace Go.Proofs.Ytijlgcbnoekmeaa.netSwaps
open Go Go.RowKit Go.ChangeShapes Go.WideShapes Go.ChangeAt
open Go.ChangeMaps (open_string shut_string)
set_option linter.all false

set_option maxRecDepth 100000 in
set_option maxHeartbeats 2000000 in
theorem bad (w : World) (n0 : Int) (b0 : Option Addr) (c0 : Nat) (x0 : List ArcD) (h0 : SlAt w b0 (arcsCells x0)) (l0 : x0.length ≤ maxLen) (he : netErr n0 x0 ≠ 0) (b1 : Option Addr) (c1 k1 : Nat) (v2 u2 : Int) :
    Calls Try.prog 6 #[.agg #[I n0, .slice b0 x0.length c0], .slice b1 k1 c1, .agg #[I v2, I u2]] w fun e w' => e = .returned (.bool true) ∧ New w w' := by
  have hnew : ∀ w1, New w w1 → Calls Try.prog 14 #[.agg #[I n0, .slice b0 x0.length c0]] w1 fun e w' => e = .returned (.tuple #[.pointer none, I (netErr n0 x0)]) ∧ New w1 w' :=
    fun w1 h => new_bad w1 n0 x0 b0 c0 (h0.new h) (by unfold maxLen at l0; omega) he
  have hne : (netErr n0 x0 != 0) = true := by simpa using he
  generalize netErr n0 x0 = q at hnew hne
  clear he
  go_enter Try.func6, Try.ntmps6
  have kA : New w ((w.alloc (.cells #[I n0, .slice b0 x0.length c0] 24)).alloc (.cells #[I v2, I u2] 53)) := ((New.refl w).alloc _).alloc _
  have a0 : ((w.alloc (.cells #[I n0, .slice b0 x0.length c0] 24)).alloc (.cells #[I v2, I u2] 53)).cell? ⟨w.heap.size, 0, none⟩ = some (I n0) := by rw [World.cell?_alloc_past _ _ _ (by simp)]; simp
  have a1 : ((w.alloc (.cells #[I n0, .slice b0 x0.length c0] 24)).alloc (.cells #[I v2, I u2] 53)).cell? ⟨w.heap.size, 1, none⟩ = some (.slice b0 x0.length c0) := by rw [World.cell?_alloc_past _ _ _ (by simp)]; simp
  have az : ((w.alloc (.cells #[I n0, .slice b0 x0.length c0] 24)).alloc (.cells #[I v2, I u2] 53)).heap.size = w.heap.size + 2 := by simp
  go_wp2_with fail
  refine (hnew _ kA).mono ?_
  rintro e w1 ⟨rfl, m1⟩
  have kB := kA.trans m1
  have a01 := m1.cell a0
  have a11 := m1.cell a1
  clear m1 a0 a1 kA az
  go_wp2_with fail
  refine (hnew _ kB).mono ?_
  rintro e w2 ⟨rfl, m2⟩
  have kC := kB.trans m2
  clear kB a01 a11 hnew m2
  go_wp2_with fail
  refine (awake_any _).mono ?_
  rintro e w3 ⟨rfl, m3⟩
  go_wp2
  go_ret
  exact ⟨rfl, kC.trans m3⟩

set_option maxRecDepth 100000 in
set_option maxHeartbeats 4000000 in
theorem same (w : World) (n : Nat) (b0 : Option Addr) (c0 : Nat) (x0 : List ArcD) (h0 : SlAt w b0 (arcsCells x0)) (hs : Sound n x0) (b1 : Option Addr) (c1 : Nat) (x1 : List Int) (h1 : SlAt w b1 (Is x1)) (l1 : x1.length * 8 ≤ 140737488351232) (k1 : Int) (s1 : Mark) (hk1 : ((fireS x0 n (start x0 n) x1).1 : Int) = k1) (hm1 : (fireS x0 n (start x0 n) x1).2 = s1) (v2 u2 : Int)
    (he : v2 = u2) (b : Bool) (hv : mayS x0 n s1.toks u2 = b) :
    Calls Try.prog 6 #[.agg #[I n, .slice b0 x0.length c0], .slice b1 x1.length c1, .agg #[I v2, I u2]] w fun e w' => e = .returned (.bool true) ∧ New w w' := by
  have hM := hs.m
  subst he
  go_enter Try.func6, Try.ntmps6
  have kA : New w ((w.alloc (.cells #[I n, .slice b0 x0.length c0] 24)).alloc (.cells #[I v2, I v2] 53)) := ((New.refl w).alloc _).alloc _
  have a0 : ((w.alloc (.cells #[I n, .slice b0 x0.length c0] 24)).alloc (.cells #[I v2, I v2] 53)).cell? ⟨w.heap.size, 0, none⟩ = some (I n) := by rw [World.cell?_alloc_past _ _ _ (by simp)]; simp
  have a1 : ((w.alloc (.cells #[I n, .slice b0 x0.length c0] 24)).alloc (.cells #[I v2, I v2] 53)).cell? ⟨w.heap.size, 1, none⟩ = some (.slice b0 x0.length c0) := by rw [World.cell?_alloc_past _ _ _ (by simp)]; simp
  have az : ((w.alloc (.cells #[I n, .slice b0 x0.length c0] 24)).alloc (.cells #[I v2, I v2] 53)).heap.size = w.heap.size + 2 := by simp
  go_wp2_with fail
  refine (new_any _ n x0 _ _ hs (h0.new kA)).mono ?_
  rintro e w1 ⟨p, rfl, sp1, lp, m1⟩
  rw [az] at lp
  have kB := kA.trans m1
  have a01 := m1.cell a0
  have a11 := m1.cell a1
  clear m1 a0 a1 kA az
  go_wp2_with fail
  refine (new_any _ n x0 _ _ hs (h0.new kB)).mono ?_
  rintro e w2 ⟨q, rfl, sq2, lq, m2⟩
  have kC := kB.trans m2
  have sp2 := sp1.new m2
  have hfar : Far p q := .inl (Nat.le_trans sp1.sz lq)
  have lq' : w.heap.size ≤ q.lo := Nat.le_trans kB.size lq
  have lp' : w.heap.size ≤ p.lo := by omega
  have b0s : Bd 256 (start x0 n) := bd_start hs
  clear kB a01 a11 m2 sp1 lp lq
  go_wp2_with fail
  refine (fire_old w _ p n x0 _ b1 c1 x1 256 sp2 hs h1 kC lp' b0s (by omega) (by decide)).mono ?_
  rw [hk1, hm1]
  rintro e w3 ⟨rfl, sp3, ky3, kD, bd1⟩
  have sq3 := sq2.other sp2 hfar ky3
  clear sp2 sq2 ky3 kC
  go_wp2_with fail
  refine (fire_old w _ q n x0 _ b1 c1 x1 256 sq3 hs h1 kD lq' b0s (by omega) (by decide)).mono ?_
  rw [hk1, hm1]
  rintro e w4 ⟨rfl, sq4, ky4, kE, -⟩
  have sp4 := sp3.other sq3 hfar.symm ky4
  clear sq3 sp3 ky4 kD b0s
  go_wp2_with fail
  refine (mayN_any _ p n x0 s1 v2 sp4 hM).mono ?_
  rw [hv]
  rintro e wm0 ⟨rfl, nn⟩
  replace sp4 := sp4.new nn
  replace sq4 := sq4.new nn
  replace kE := kE.trans nn
  clear nn
  go_wp2_with fail
  refine (mayN_any _ q n x0 s1 v2 sq4 hM).mono ?_
  rw [hv]
  rintro e wm1 ⟨rfl, nn⟩
  replace sp4 := sp4.new nn
  replace sq4 := sq4.new nn
  replace kE := kE.trans nn
  clear nn
  go_wp2_with fail
  refine (mayN_any _ p n x0 s1 v2 sp4 hM).mono ?_
  rw [hv]
  rintro e wm2 ⟨rfl, nn⟩
  replace sp4 := sp4.new nn
  replace sq4 := sq4.new nn
  replace kE := kE.trans nn
  clear nn
  go_wp2_with fail
  refine (mayN_any _ q n x0 s1 v2 sq4 hM).mono ?_
  rw [hv]
  rintro e wm3 ⟨rfl, nn⟩
  replace sp4 := sp4.new nn
  replace sq4 := sq4.new nn
  replace kE := kE.trans nn
  clear nn
  go_wp2_with fail
  refine (awake_any _).mono ?_
  rintro e w9 ⟨rfl, m9⟩
  go_wp2
  go_ret
  exact ⟨rfl, kE.trans m9⟩

set_option maxRecDepth 100000 in
set_option maxHeartbeats 4000000 in
theorem noV (w : World) (n : Nat) (b0 : Option Addr) (c0 : Nat) (x0 : List ArcD) (h0 : SlAt w b0 (arcsCells x0)) (hs : Sound n x0) (b1 : Option Addr) (c1 : Nat) (x1 : List Int) (h1 : SlAt w b1 (Is x1)) (l1 : x1.length * 8 ≤ 140737488351232) (k1 : Int) (s1 : Mark) (hk1 : ((fireS x0 n (start x0 n) x1).1 : Int) = k1) (hm1 : (fireS x0 n (start x0 n) x1).2 = s1) (v2 u2 : Int)
    (he : v2 ≠ u2) (b : Bool) (hv : mayS x0 n s1.toks v2 = false) (hu : mayS x0 n s1.toks u2 = b) :
    Calls Try.prog 6 #[.agg #[I n, .slice b0 x0.length c0], .slice b1 x1.length c1, .agg #[I v2, I u2]] w fun e w' => e = .returned (.bool true) ∧ New w w' := by
  have hM := hs.m
  have he1 : (v2 == u2) = false := by simpa using he
  have he2 : decide (v2 = u2) = false := by simpa using he
  clear he
  go_enter Try.func6, Try.ntmps6
  have kA : New w ((w.alloc (.cells #[I n, .slice b0 x0.length c0] 24)).alloc (.cells #[I v2, I u2] 53)) := ((New.refl w).alloc _).alloc _
  have a0 : ((w.alloc (.cells #[I n, .slice b0 x0.length c0] 24)).alloc (.cells #[I v2, I u2] 53)).cell? ⟨w.heap.size, 0, none⟩ = some (I n) := by rw [World.cell?_alloc_past _ _ _ (by simp)]; simp
  have a1 : ((w.alloc (.cells #[I n, .slice b0 x0.length c0] 24)).alloc (.cells #[I v2, I u2] 53)).cell? ⟨w.heap.size, 1, none⟩ = some (.slice b0 x0.length c0) := by rw [World.cell?_alloc_past _ _ _ (by simp)]; simp
  have az : ((w.alloc (.cells #[I n, .slice b0 x0.length c0] 24)).alloc (.cells #[I v2, I u2] 53)).heap.size = w.heap.size + 2 := by simp
  go_wp2_with fail
  refine (new_any _ n x0 _ _ hs (h0.new kA)).mono ?_
  rintro e w1 ⟨p, rfl, sp1, lp, m1⟩
  rw [az] at lp
  have kB := kA.trans m1
  have a01 := m1.cell a0
  have a11 := m1.cell a1
  clear m1 a0 a1 kA az
  go_wp2_with fail
  refine (new_any _ n x0 _ _ hs (h0.new kB)).mono ?_
  rintro e w2 ⟨q, rfl, sq2, lq, m2⟩
  have kC := kB.trans m2
  have sp2 := sp1.new m2
  have hfar : Far p q := .inl (Nat.le_trans sp1.sz lq)
  have lq' : w.heap.size ≤ q.lo := Nat.le_trans kB.size lq
  have lp' : w.heap.size ≤ p.lo := by omega
  have b0s : Bd 256 (start x0 n) := bd_start hs
  clear kB a01 a11 m2 sp1 lp lq
  go_wp2_with fail
  refine (fire_old w _ p n x0 _ b1 c1 x1 256 sp2 hs h1 kC lp' b0s (by omega) (by decide)).mono ?_
  rw [hk1, hm1]
  rintro e w3 ⟨rfl, sp3, ky3, kD, bd1⟩
  have sq3 := sq2.other sp2 hfar ky3
  clear sp2 sq2 ky3 kC
  go_wp2_with fail
  refine (fire_old w _ q n x0 _ b1 c1 x1 256 sq3 hs h1 kD lq' b0s (by omega) (by decide)).mono ?_
  rw [hk1, hm1]
  rintro e w4 ⟨rfl, sq4, ky4, kE, -⟩
  have sp4 := sp3.other sq3 hfar.symm ky4
  clear sq3 sp3 ky4 kD b0s
  go_wp2_with fail
  refine (mayN_any _ p n x0 s1 v2 sp4 hM).mono ?_
  rw [hv]
  rintro e wm0 ⟨rfl, nn⟩
  replace sp4 := sp4.new nn
  replace sq4 := sq4.new nn
  replace kE := kE.trans nn
  clear nn
  go_wp2_with fail
  refine (mayN_any _ p n x0 s1 v2 sp4 hM).mono ?_
  rw [hv]
  rintro e wm1 ⟨rfl, nn⟩
  replace sp4 := sp4.new nn
  replace sq4 := sq4.new nn
  replace kE := kE.trans nn
  clear nn
  go_wp2_with fail
  refine (mayN_any _ q n x0 s1 v2 sq4 hM).mono ?_
  rw [hv]
  rintro e wm2 ⟨rfl, nn⟩
  replace sp4 := sp4.new nn
  replace sq4 := sq4.new nn
  replace kE := kE.trans nn
  clear nn
  go_wp2_with fail
  refine (mayN_any _ p n x0 s1 u2 sp4 hM).mono ?_
  rw [hu]
  rintro e wm3 ⟨rfl, nn⟩
  replace sp4 := sp4.new nn
  replace sq4 := sq4.new nn
  replace kE := kE.trans nn
  clear nn
  go_wp2_with fail
  refine (mayN_any _ q n x0 s1 u2 sq4 hM).mono ?_
  rw [hu]
  rintro e wm4 ⟨rfl, nn⟩
  replace sp4 := sp4.new nn
  replace sq4 := sq4.new nn
  replace kE := kE.trans nn
  clear nn
  go_wp2_with fail
  refine (awake_any _).mono ?_
  rintro e w9 ⟨rfl, m9⟩
  go_wp2
  go_ret
  exact ⟨rfl, kE.trans m9⟩

set_option maxRecDepth 100000 in
set_option maxHeartbeats 4000000 in
theorem noU (w : World) (n : Nat) (b0 : Option Addr) (c0 : Nat) (x0 : List ArcD) (h0 : SlAt w b0 (arcsCells x0)) (hs : Sound n x0) (b1 : Option Addr) (c1 : Nat) (x1 : List Int) (h1 : SlAt w b1 (Is x1)) (l1 : x1.length * 8 ≤ 140737488351232) (k1 : Int) (s1 : Mark) (hk1 : ((fireS x0 n (start x0 n) x1).1 : Int) = k1) (hm1 : (fireS x0 n (start x0 n) x1).2 = s1) (v2 u2 : Int)
    (he : v2 ≠ u2) (hv : mayS x0 n s1.toks v2 = true) (hu : mayS x0 n s1.toks u2 = false) :
    Calls Try.prog 6 #[.agg #[I n, .slice b0 x0.length c0], .slice b1 x1.length c1, .agg #[I v2, I u2]] w fun e w' => e = .returned (.bool true) ∧ New w w' := by
  have hM := hs.m
  have he1 : (v2 == u2) = false := by simpa using he
  have he2 : decide (v2 = u2) = false := by simpa using he
  clear he
  go_enter Try.func6, Try.ntmps6
  have kA : New w ((w.alloc (.cells #[I n, .slice b0 x0.length c0] 24)).alloc (.cells #[I v2, I u2] 53)) := ((New.refl w).alloc _).alloc _
  have a0 : ((w.alloc (.cells #[I n, .slice b0 x0.length c0] 24)).alloc (.cells #[I v2, I u2] 53)).cell? ⟨w.heap.size, 0, none⟩ = some (I n) := by rw [World.cell?_alloc_past _ _ _ (by simp)]; simp
  have a1 : ((w.alloc (.cells #[I n, .slice b0 x0.length c0] 24)).alloc (.cells #[I v2, I u2] 53)).cell? ⟨w.heap.size, 1, none⟩ = some (.slice b0 x0.length c0) := by rw [World.cell?_alloc_past _ _ _ (by simp)]; simp
  have az : ((w.alloc (.cells #[I n, .slice b0 x0.length c0] 24)).alloc (.cells #[I v2, I u2] 53)).heap.size = w.heap.size + 2 := by simp
  go_wp2_with fail
  refine (new_any _ n x0 _ _ hs (h0.new kA)).mono ?_
  rintro e w1 ⟨p, rfl, sp1, lp, m1⟩
  rw [az] at lp
  have kB := kA.trans m1
  have a01 := m1.cell a0
  have a11 := m1.cell a1
  clear m1 a0 a1 kA az
  go_wp2_with fail
  refine (new_any _ n x0 _ _ hs (h0.new kB)).mono ?_
  rintro e w2 ⟨q, rfl, sq2, lq, m2⟩
  have kC := kB.trans m2
  have sp2 := sp1.new m2
  have hfar : Far p q := .inl (Nat.le_trans sp1.sz lq)
  have lq' : w.heap.size ≤ q.lo := Nat.le_trans kB.size lq
  have lp' : w.heap.size ≤ p.lo := by omega
  have b0s : Bd 256 (start x0 n) := bd_start hs
  clear kB a01 a11 m2 sp1 lp lq
  go_wp2_with fail
  refine (fire_old w _ p n x0 _ b1 c1 x1 256 sp2 hs h1 kC lp' b0s (by omega) (by decide)).mono ?_
  rw [hk1, hm1]
  rintro e w3 ⟨rfl, sp3, ky3, kD, bd1⟩
  have sq3 := sq2.other sp2 hfar ky3
  clear sp2 sq2 ky3 kC
  go_wp2_with fail
  refine (fire_old w _ q n x0 _ b1 c1 x1 256 sq3 hs h1 kD lq' b0s (by omega) (by decide)).mono ?_
  rw [hk1, hm1]
  rintro e w4 ⟨rfl, sq4, ky4, kE, -⟩
  have sp4 := sp3.other sq3 hfar.symm ky4
  clear sq3 sp3 ky4 kD b0s
  go_wp2_with fail
  refine (mayN_any _ p n x0 s1 v2 sp4 hM).mono ?_
  rw [hv]
  rintro e wm0 ⟨rfl, nn⟩
  replace sp4 := sp4.new nn
  replace sq4 := sq4.new nn
  replace kE := kE.trans nn
  clear nn
  go_wp2_with fail
  refine (mayN_any _ p n x0 s1 u2 sp4 hM).mono ?_
  rw [hu]
  rintro e wm1 ⟨rfl, nn⟩
  replace sp4 := sp4.new nn
  replace sq4 := sq4.new nn
  replace kE := kE.trans nn
  clear nn
  go_wp2_with fail
  refine (mayN_any _ p n x0 s1 v2 sp4 hM).mono ?_
  rw [hv]
  rintro e wm2 ⟨rfl, nn⟩
  replace sp4 := sp4.new nn
  replace sq4 := sq4.new nn
  replace kE := kE.trans nn
  clear nn
  go_wp2_with fail
  refine (mayN_any _ q n x0 s1 v2 sq4 hM).mono ?_
  rw [hv]
  rintro e wm3 ⟨rfl, nn⟩
  replace sp4 := sp4.new nn
  replace sq4 := sq4.new nn
  replace kE := kE.trans nn
  clear nn
  go_wp2_with fail
  refine (mayN_any _ p n x0 s1 u2 sp4 hM).mono ?_
  rw [hu]
  rintro e wm4 ⟨rfl, nn⟩
  replace sp4 := sp4.new nn
  replace sq4 := sq4.new nn
  replace kE := kE.trans nn
  clear nn
  go_wp2_with fail
  refine (mayN_any _ q n x0 s1 u2 sq4 hM).mono ?_
  rw [hu]
  rintro e wm5 ⟨rfl, nn⟩
  replace sp4 := sp4.new nn
  replace sq4 := sq4.new nn
  replace kE := kE.trans nn
  clear nn
  go_wp2_with fail
  refine (awake_any _).mono ?_
  rintro e w9 ⟨rfl, m9⟩
  go_wp2
  go_ret
  exact ⟨rfl, kE.trans m9⟩

set_option maxRecDepth 100000 in
set_option maxHeartbeats 4000000 in
theorem both (w : World) (n : Nat) (b0 : Option Addr) (c0 : Nat) (x0 : List ArcD) (h0 : SlAt w b0 (arcsCells x0)) (hs : Sound n x0) (b1 : Option Addr) (c1 : Nat) (x1 : List Int) (h1 : SlAt w b1 (Is x1)) (l1 : x1.length * 8 ≤ 140737488351232) (k1 : Int) (s1 : Mark) (hk1 : ((fireS x0 n (start x0 n) x1).1 : Int) = k1) (hm1 : (fireS x0 n (start x0 n) x1).2 = s1) (v2 u2 : Int)
    (he : v2 ≠ u2) (hv : mayS x0 n s1.toks v2 = true) (hu : mayS x0 n s1.toks u2 = true) :
    Calls Try.prog 6 #[.agg #[I n, .slice b0 x0.length c0], .slice b1 x1.length c1, .agg #[I v2, I u2]] w fun e w' => e = .returned (.bool true) ∧ New w w' := by
  have hM := hs.m
  have hsw : Fits n x0 s1 → ((fireS x0 n s1 [v2, u2]).1 = 2 ∧ fireS x0 n s1 [v2, u2] = fireS x0 n s1 [u2, v2]) := fun hf => swaps hs hf hv hu he
  obtain ⟨s2, hs2⟩ : ∃ s2, (fireS x0 n s1 [v2, u2]).2 = s2 := ⟨_, rfl⟩
  have HSW := Lib.hid hsw
  have HS2 := Lib.hid hs2
  have he1 : (v2 == u2) = false := by simpa using he
  have he2 : decide (v2 = u2) = false := by simpa using he
  clear he hsw hs2
  go_enter Try.func6, Try.ntmps6
  have kA : New w ((w.alloc (.cells #[I n, .slice b0 x0.length c0] 24)).alloc (.cells #[I v2, I u2] 53)) := ((New.refl w).alloc _).alloc _
  have a0 : ((w.alloc (.cells #[I n, .slice b0 x0.length c0] 24)).alloc (.cells #[I v2, I u2] 53)).cell? ⟨w.heap.size, 0, none⟩ = some (I n) := by rw [World.cell?_alloc_past _ _ _ (by simp)]; simp
  have a1 : ((w.alloc (.cells #[I n, .slice b0 x0.length c0] 24)).alloc (.cells #[I v2, I u2] 53)).cell? ⟨w.heap.size, 1, none⟩ = some (.slice b0 x0.length c0) := by rw [World.cell?_alloc_past _ _ _ (by simp)]; simp
  have az : ((w.alloc (.cells #[I n, .slice b0 x0.length c0] 24)).alloc (.cells #[I v2, I u2] 53)).heap.size = w.heap.size + 2 := by simp
  go_wp2_with fail
  refine (new_any _ n x0 _ _ hs (h0.new kA)).mono ?_
  rintro e w1 ⟨p, rfl, sp1, lp, m1⟩
  rw [az] at lp
  have kB := kA.trans m1
  have a01 := m1.cell a0
  have a11 := m1.cell a1
  clear m1 a0 a1 kA az
  go_wp2_with fail
  refine (new_any _ n x0 _ _ hs (h0.new kB)).mono ?_
  rintro e w2 ⟨q, rfl, sq2, lq, m2⟩
  have kC := kB.trans m2
  have sp2 := sp1.new m2
  have hfar : Far p q := .inl (Nat.le_trans sp1.sz lq)
  have lq' : w.heap.size ≤ q.lo := Nat.le_trans kB.size lq
  have lp' : w.heap.size ≤ p.lo := by omega
  have b0s : Bd 256 (start x0 n) := bd_start hs
  clear kB a01 a11 m2 sp1 lp lq
  go_wp2_with fail
  refine (fire_old w _ p n x0 _ b1 c1 x1 256 sp2 hs h1 kC lp' b0s (by omega) (by decide)).mono ?_
  rw [hk1, hm1]
  rintro e w3 ⟨rfl, sp3, ky3, kD, bd1⟩
  have sq3 := sq2.other sp2 hfar ky3
  clear sp2 sq2 ky3 kC
  go_wp2_with fail
  refine (fire_old w _ q n x0 _ b1 c1 x1 256 sq3 hs h1 kD lq' b0s (by omega) (by decide)).mono ?_
  rw [hk1, hm1]
  rintro e w4 ⟨rfl, sq4, ky4, kE, -⟩
  have sp4 := sp3.other sq3 hfar.symm ky4
  clear sq3 sp3 ky4 kD b0s
  go_wp2_with fail
  refine (mayN_any _ p n x0 s1 v2 sp4 hM).mono ?_
  rw [hv]
  rintro e wm0 ⟨rfl, nn⟩
  replace sp4 := sp4.new nn
  replace sq4 := sq4.new nn
  replace kE := kE.trans nn
  clear nn
  go_wp2_with fail
  refine (mayN_any _ p n x0 s1 u2 sp4 hM).mono ?_
  rw [hu]
  rintro e wm1 ⟨rfl, nn⟩
  replace sp4 := sp4.new nn
  replace sq4 := sq4.new nn
  replace kE := kE.trans nn
  clear nn
  obtain ⟨e2, e3⟩ := HSW.out sp4.fits
  have z4 := sp4.sz
  have z4' := sq4.sz
  have E2 := Lib.hid (show ((fireS x0 n s1 [v2, u2]).1 : Int) = 2 by rw [e2]; rfl)
  have E3 := Lib.hid (show ((fireS x0 n s1 [u2, v2]).1 : Int) = 2 by rw [← e3, e2]; rfl)
  have E4 := Lib.hid (show (fireS x0 n s1 [u2, v2]).2 = s2 by rw [← e3]; exact HS2.out)
  clear e2 e3
  go_wp2_with fail
  have al5 : New wm1 _ := (New.refl wm1).alloc (.cells #[I v2, I u2] 3)
  refine (fire_is _ p n x0 s1 _ _ 2 [v2, u2] _ 2 s2 (sp4.new al5) hs (SlAt.lit _ _ _) rfl E2.out HS2.out (fun a ha => .inr (by cases ha; exact z4)) bd1 (by omega) (by omega)).mono ?_
  rintro e w6 ⟨rfl, sp6, ky6⟩
  have sq6 := (sq4.new al5).other (sp4.new al5) hfar ky6
  have k6 := (kE.alloc _).fire (sp4.new al5) lp' ky6
  clear sp4 sq4 ky6 al5 kE z4 z4'
  have z6 := sq6.sz
  go_wp2_with fail
  have al7 : New w6 _ := (New.refl w6).alloc (.cells #[I u2, I v2] 3)
  refine (fire_is _ q n x0 s1 _ _ 2 [u2, v2] _ 2 s2 (sq6.new al7) hs (SlAt.lit _ _ _) rfl E3.out E4.out (fun a ha => .inr (by cases ha; exact z6)) bd1 (by omega) (by omega)).mono ?_
  rintro e w8 ⟨rfl, sq8, ky8⟩
  have sp8 := (sp6.new al7).other (sq6.new al7) hfar.symm ky8
  have k8 := (k6.alloc _).fire (sq6.new al7) lq' ky8
  clear sp6 sq6 ky8 al7 k6 z6 bd1
  have hn := hs.n2
  go_wp2_with fail
  refine (counts_any _ p n x0 s2 sp8 hM).mono ?_
  rintro e w9 ⟨a9, c9, rfl, o9, m9⟩
  go_wp2_with fail
  refine (counts_any _ q n x0 s2 (sq8.new m9) hM).mono ?_
  rintro e w10 ⟨a10, c10, rfl, o10, m10⟩
  have LT := Lib.hid sp8.tLen
  have LF := Lib.hid sp8.fLen
  go_wp2_with fail
  refine (sameI _ _ _ s2.toks s2.toks _ _ _ _ true (o9.sl.new m10) o10.sl rfl rfl (by simp) (by have := LT.out; omega)).mono ?_
  rintro e w11 ⟨rfl, m11⟩
  have m := (m9.trans m10).trans m11
  have sp11 := sp8.new m
  have sq11 := sq8.new m
  have k11 := k8.trans m
  clear sp8 sq8 k8 m9 m10 m11 m o9 o10
  go_wp2_with fail
  refine (fired_any _ p n x0 s2 sp11 hn).mono ?_
  rintro e w12 ⟨a12, c12, rfl, o12, m12⟩
  go_wp2_with fail
  refine (fired_any _ q n x0 s2 (sq11.new m12) hn).mono ?_
  rintro e w13 ⟨a13, c13, rfl, o13, m13⟩
  go_wp2_with fail
  refine (sameI _ _ _ s2.fired s2.fired _ _ _ _ true (o12.sl.new m13) o13.sl rfl rfl (by simp) (by have := LF.out; omega)).mono ?_
  rintro e w14 ⟨rfl, m14⟩
  have kE := k11.trans ((m12.trans m13).trans m14)
  clear m12 m13 m14 o12 o13 sp11 sq11 k11
  go_wp2_with fail
  refine (awake_any _).mono ?_
  rintro e w9 ⟨rfl, m9⟩
  go_wp2
  go_ret
  exact ⟨rfl, kE.trans m9⟩

theorem walk (w : World) (n0 : Int) (b0 : Option Addr) (c0 : Nat) (x0 : List ArcD) (h0 : SlAt w b0 (arcsCells x0)) (l0 : x0.length ≤ maxLen) (a1 : Option Addr) (c1 : Nat) (x1 : List Int) (h1 : SlAt w a1 (x1.map (Value.int .i64))) (r1 : ∀ x ∈ x1, (Lit.int .i64 x).wf = true) (l1 : x1.length * 8 ≤ 140737488351232) (v2 u2 : Int) :
    Calls Try.prog 6 #[.agg #[I n0, .slice b0 x0.length c0], .slice a1 x1.length c1, .agg #[I v2, I u2]] w fun e w' => e = .returned (.bool true) ∧ New w w' := by
  by_cases he : netErr n0 x0 = 0
  · obtain ⟨n, rfl, hs⟩ := sound_of he
    by_cases hvu : v2 = u2
    · exact same w n b0 c0 x0 h0 hs a1 c1 x1 h1 l1 _ _ rfl rfl v2 u2 hvu _ rfl
    · cases hv : mayS x0 n (fireS x0 n (start x0 n) x1).2.toks v2 with
      | false => exact noV w n b0 c0 x0 h0 hs a1 c1 x1 h1 l1 _ _ rfl rfl v2 u2 hvu _ hv rfl
      | true => cases hu : mayS x0 n (fireS x0 n (start x0 n) x1).2.toks u2 with
        | false => exact noU w n b0 c0 x0 h0 hs a1 c1 x1 h1 l1 _ _ rfl rfl v2 u2 hvu hv hu
        | true => exact both w n b0 c0 x0 h0 hs a1 c1 x1 h1 l1 _ _ rfl rfl v2 u2 hvu hv hu
  · exact bad w n0 b0 c0 x0 h0 l0 he a1 c1 _ v2 u2
set_option maxRecDepth 100000 in
theorem lifted (os : Os) (started : os.Started) (H : Type) (enc : TypeId × Value → H) :
    ReturnsInHanded {} Try.checked os 6 .any (Rows.netSwapsSpec.pre6 enc Try.prog Try.f6 Rows.netSwapsRow.domain false) (Rows.netSwapsSpec.post enc Try.prog Try.f6 false true false false) := by
  refine returnsInHanded_of_change_sized (C := Try.checked) own started (by kernel_rfl) Try.func6
    (ChangeSpec.witness6 (enc := enc) (C := Try.checked) false ⟨#[], #[.agg #[.int .i64 0, .slice none 0 0], .slice none 0 0, .agg #[.int .i64 0, .int .i64 0]], []⟩ 8 (by kernel_rfl) (by kernel_rfl) (by kernel_rfl) (by kernel_rfl)) ?_
  intro W base args ds gs before hval0 hW hcnd hsz0 _
  have hval : ∀ (j : Nat) t v, Try.f6.params[j]? = some t → args[j]? = some v → Value.okWide Try.prog W .any base t v := hval0
  have hsz : (DataW.weightsEach Try.prog (Try.f6.params.toList ++ Rows.netSwapsSpec.plain.varTypes Try.prog) (ds ++ gs)).all (· ≤ reachBytes) = true := hsz0
  clear hsz0
  have hW' := hW
  obtain ⟨p, q, hA0, hV, rfl, hfz, hnd⟩ := hW
  have hA : DataW.TrodAll enc Try.prog W 0 (fun _ => true) true Try.f6.params.toList args.toList ds p := hA0
  rw [Try.params6] at hA hval hsz
  obtain ⟨v0, vs0, d0, ds0, p0, q0, hargs, rfl, rfl, h0, r0'⟩ := trodAll_cons hA
  obtain ⟨v1, vs1, d1, ds1, p1, q1, rfl, rfl, rfl, h1, r1'⟩ := trodAll_cons r0'
  obtain ⟨v2, vs2, d2, ds2, p2, q2, rfl, rfl, rfl, h2, r2'⟩ := trodAll_cons r1'
  obtain ⟨rfl, rfl, rfl⟩ := trodAll_nil r2'
  obtain rfl : args = #[v0, v1, v2] := by cases args; simp_all
  obtain ⟨rfl, rfl⟩ := trodVars_none hV
  have k0 := h0
  have lt0 : ∀ x ∈ p0, x.block < W.heap.size := by obtain ⟨m, hm⟩ := k0; exact DataW.trod_lt m _ _ _ hm
  have k1 := h1
  have lt1 : ∀ x ∈ p1, x.block < W.heap.size := by obtain ⟨m, hm⟩ := k1; exact DataW.trod_lt m _ _ _ hm
  have k2 := h2
  have lt2 : ∀ x ∈ p2, x.block < W.heap.size := by obtain ⟨m, hm⟩ := k2; exact DataW.trod_lt m _ _ _ hm
  obtain ⟨n0, b0, c0, x0, rfl, w0, sl0, l0, e00, e01, rfl, dd0⟩ := read_net (hval 0 24 v0 rfl rfl) h0
  obtain ⟨a1, n1, c1, rfl⟩ := okWide_slice Try.underlying37 (hval 1 37 v1 rfl rfl)
  obtain ⟨x1, rfl, sl1, r1, l1, _, dd1⟩ := read_ints h1
  have l1' : x1.length * 8 ≤ 140737488351232 := by
    rcases dd1 with ⟨_, rfl⟩ | ⟨spare, rfl⟩
    · simp
    · have := sized_slice hsz (j := 1) (t := 37) (e := 3) rfl rfl Try.underlying37
      rw [show Try.prog.bytesOf 3 = 8 by kernel_rfl] at this
      simp only [lits_len, reachBytes] at this
      omega
  obtain ⟨z20, z21, y20, y21, m2, rfl, rfl, -, t20, t21⟩ := Go.Joins.open_agg2 Try.underlying53 (by kernel_rfl) (by kernel_rfl) (hval 2 53 v2 rfl rfl) h2
  obtain ⟨v2, e20, -, -⟩ := DataW.trod_int Try.underlying3 t20
  obtain ⟨u2, e21, -, -⟩ := DataW.trod_int Try.underlying3 t21
  simp only [List.cons.injEq, and_true] at e20 e21
  subst e20 e21
  clear hA0 hval0
  refine (walk W n0 b0 c0 x0 sl0 l0 a1 c1 x1 sl1 r1 l1' v2 u2).mono fun e W' ⟨he, hnew⟩ => ?_
  have bel := hnew.below
  subst he
  exact ⟨_, rfl, _, _, _, [], _, [], hW', trodAll_mk1 (shut_bool Try.underlying4 _), (trodAll_cons_mk (Below.trod laidOut (by kernel_rfl) (of_decide_eq_true (by kernel_rfl)) k0 bel lt0) (trodAll_cons_mk (Below.trod laidOut (by kernel_rfl) (of_decide_eq_true (by kernel_rfl)) k1 bel lt1) (trodAll_cons_mk (Below.trod laidOut (by kernel_rfl) (of_decide_eq_true (by kernel_rfl)) k2 bel lt2) trodAll_mk0))), rfl, bel.frame _, fun h => by cases h⟩

theorem over : Rows.netSwapsRow.holds Try.pinned (OpenSpec.ofChange Rows.netSwapsSpec) :=
  OpenClaim.holds_of_wide 6 Try.f6 rfl rfl rfl rfl rfl rfl rfl ⟨rfl, rfl, rfl, rfl, rfl⟩ rfl rfl rfl rfl rfl (by kernel_rfl) Try.func6 (by kernel_rfl)
    (of_decide_eq_true (by kernel_rfl)) (by unfold Func.isWrapper; first | (rw [if_pos (by decide +kernel)]; kernel_rfl) | (rw [if_neg (by decide +kernel)]; exact ⟨rfl, rfl⟩))
    (fun os started H enc _ => lifted os started H enc)

/-- THE STATEMENT. -/
theorem proved : Rows.NetSwapsSaid := over
end Go.Proofs.Ytijlgcbnoekmeaa.netSwaps
