/-
  'NetParts': the law returns true at every input, up to the given bulk; what it is handed reads afterwards as before.
-/
import Derived.Test.YtijlgcbnoekmeaaRead
import Derived.Test.YtijlgcbnoekmeaaReadNet
import Derived.Test.YtijlgcbnoekmeaaNetJ
import Derived.Test.YtijlgcbnoekmeaaBulk
import Derived.JoinedCond
namespace Go.Proofs.Ytijlgcbnoekmeaa.netParts
open Go Go.RowKit Go.ChangeShapes Go.WideShapes Go.ChangeAt
open Go.ChangeMaps (open_string shut_string)
set_option linter.all false

set_option maxRecDepth 100000 in
set_option maxHeartbeats 2000000 in
theorem bad (w : World) (n0 : Int) (b0 : Option Addr) (c0 : Nat) (x0 : List ArcD) (h0 : SlAt w b0 (arcsCells x0)) (l0 : x0.length ≤ maxLen) (he : netErr n0 x0 ≠ 0) (b1 b2 : Option Addr) (c1 k1 c2 k2 : Nat) :
    Calls Try.prog 8 #[.agg #[I n0, .slice b0 x0.length c0], .slice b1 k1 c1, .slice b2 k2 c2] w fun e w' => e = .returned (.bool true) ∧ New w w' := by
  have hnew : ∀ w1, New w w1 → Calls Try.prog 14 #[.agg #[I n0, .slice b0 x0.length c0]] w1 fun e w' => e = .returned (.tuple #[.pointer none, I (netErr n0 x0)]) ∧ New w1 w' :=
    fun w1 h => new_bad w1 n0 x0 b0 c0 (h0.new h) (by unfold maxLen at l0; omega) he
  have hne : (netErr n0 x0 != 0) = true := by simpa using he
  generalize netErr n0 x0 = q at hnew hne
  clear he
  go_enter Try.func8, Try.ntmps8
  have kA : New w (w.alloc (.cells #[I n0, .slice b0 x0.length c0] 24)) := (New.refl w).alloc _
  have a0 : (w.alloc (.cells #[I n0, .slice b0 x0.length c0] 24)).cell? ⟨w.heap.size, 0, none⟩ = some (I n0) := by simp
  have a1 : (w.alloc (.cells #[I n0, .slice b0 x0.length c0] 24)).cell? ⟨w.heap.size, 1, none⟩ = some (.slice b0 x0.length c0) := by simp
  have az : (w.alloc (.cells #[I n0, .slice b0 x0.length c0] 24)).heap.size = w.heap.size + 1 := by simp
  go_wp2_with fail
  refine (hnew _ kA).mono ?_
  rintro e w1 ⟨rfl, m1⟩
  have kB := kA.trans m1
  have a01 := m1.cell a0
  have a11 := m1.cell a1
  clear m1 a0 a1 kA az
  go_wp2_with fail
  refine (hnew _ kB).mono ?_
  rintro e w2 ⟨rfl, m2⟩
  have kC := kB.trans m2
  clear kB a01 a11 hnew m2
  go_wp2_with fail
  refine (awake_any _).mono ?_
  rintro e w3 ⟨rfl, m3⟩
  go_wp2
  go_ret
  exact ⟨rfl, kC.trans m3⟩

set_option maxRecDepth 100000 in
set_option maxHeartbeats 4000000 in
theorem full (w : World) (n : Nat) (b0 : Option Addr) (c0 : Nat) (x0 : List ArcD) (h0 : SlAt w b0 (arcsCells x0)) (hs : Sound n x0) (b1 b2 : Option Addr) (c1 c2 : Nat) (x1 x2 : List Int) (h1 : SlAt w b1 (Is x1)) (l1 : x1.length ≤ 1048576) (h2 : SlAt w b2 (Is x2)) (l2 : x2.length ≤ 1048576)
    (hfull : (fireS x0 n (start x0 n) x1).1 = x1.length) :
    Calls Try.prog 8 #[.agg #[I n, .slice b0 x0.length c0], .slice b1 x1.length c1, .slice b2 x2.length c2] w fun e w' => e = .returned (.bool true) ∧ New w w' := by
  have hM := hs.m
  have hN := hs.n2
  obtain ⟨iI, hiI, hzI, hsI, hbI⟩ := info_parts Try.infoInt
  obtain ⟨s1, hs1⟩ : ∃ s1, (fireS x0 n (start x0 n) x1).2 = s1 := ⟨_, rfl⟩
  obtain ⟨s2, hs2⟩ : ∃ s2, (fireS x0 n s1 x2).2 = s2 := ⟨_, rfl⟩
  obtain ⟨j, hj⟩ : ∃ j, (fireS x0 n s1 x2).1 = j := ⟨_, rfl⟩
  have hjl : j ≤ x2.length := by rw [← hj]; exact fireS_le _ _ _ _
  have hall := fire_append x0 n x1 x2 (start x0 n)
  rw [if_pos hfull, hfull, hs1, hj, hs2] at hall
  have HA := Lib.hid hall
  have HF := Lib.hid hfull
  have HS1 := Lib.hid hs1
  have HS2 := Lib.hid hs2
  have HJ := Lib.hid hj
  clear hall hfull hs1 hs2 hj
  go_enter Try.func8, Try.ntmps8
  have kA : New w (w.alloc (.cells #[I n, .slice b0 x0.length c0] 24)) := (New.refl w).alloc _
  have a0 : (w.alloc (.cells #[I n, .slice b0 x0.length c0] 24)).cell? ⟨w.heap.size, 0, none⟩ = some (I n) := by simp
  have a1 : (w.alloc (.cells #[I n, .slice b0 x0.length c0] 24)).cell? ⟨w.heap.size, 1, none⟩ = some (.slice b0 x0.length c0) := by simp
  have az : (w.alloc (.cells #[I n, .slice b0 x0.length c0] 24)).heap.size = w.heap.size + 1 := by simp
  go_wp2_with fail
  refine (new_any _ n x0 _ _ hs (h0.new kA)).mono ?_
  rintro e w1 ⟨p, rfl, sp1, lp, m1⟩
  rw [az] at lp
  have kB := kA.trans m1
  have a01 := m1.cell a0
  have a11 := m1.cell a1
  clear m1 a0 a1 kA az
  go_wp2_with fail
  refine (new_any _ n x0 _ _ hs (h0.new kB)).mono ?_
  rintro e w2 ⟨q, rfl, sq2, lq, m2⟩
  have kC := kB.trans m2
  have sp2 := sp1.new m2
  have hfar : Far p q := .inl (Nat.le_trans sp1.sz lq)
  have lq' : w.heap.size ≤ q.lo := Nat.le_trans kB.size lq
  have lp' : w.heap.size ≤ p.lo := by omega
  have hB2 : w.heap.size ≤ w2.heap.size := kC.size
  have hzp := sp2.sz
  have hzq := sq2.sz
  clear kB a01 a11 m2 sp1 lp lq
  go_wp2_with (at_builtin; refine wpList_app rfl _ _ 37 rfl w.heap.size 3 iI (.int .i64 0) 1 8 Try.underlying37 hiI hzI hsI hbI rfl (by decide) none 0 0 [] rfl (World.ownsRow_nil _ _ _ _) b1 x1.length c1 (Is x1) rfl (by simp) (h1.new kC) (ints_oneCell _ _) (by unfold maxLen; omega) (by omega) hB2 ?_)
  intro a3 c3 w3 hown3 hk3 hmv3 _
  have n23 : New w2 w3 := Keeps.mono hk3 (fun i _ ⟨a, ha, _⟩ => by cases ha)
  have hr3 : w3.ownsRow w.heap.size 3 1 (.slice a3 x1.length c3) x1.length (Is x1) := by simpa using hown3
  have hfar3 : ∀ x, blk a3 x → w2.heap.size ≤ x := by
    rintro x ⟨a, ha, rfl⟩
    rcases hmv3 with e | ⟨g, e, hg⟩
    · rw [ha] at e; cases e
    · rw [ha] at e; cases e; exact hg
  have kD := kC.trans n23
  have sp3 := sp2.new n23
  have sq3 := sq2.new n23
  have hB3 : w.heap.size ≤ w3.heap.size := kD.size
  have h23 := n23.size
  clear hown3 hk3 hmv3 n23 sp2 sq2 kC
  go_wp2_with (at_builtin; refine wpList_app rfl _ _ 37 rfl w.heap.size 3 iI (.int .i64 0) 1 8 Try.underlying37 hiI hzI hsI hbI rfl (by decide) a3 x1.length c3 (Is x1) rfl hr3 b2 x2.length c2 (Is x2) rfl (by simp) (h2.new kD) (ints_oneCell _ _) (by unfold maxLen; omega) (by omega) hB3 ?_)
  intro a4 c4 w4 hown4 hk4 hmv4 _
  have hr4 : w4.ownsRow w.heap.size 3 1 (.slice a4 (x1 ++ x2).length c4) (x1 ++ x2).length (Is (x1 ++ x2)) := by simpa using hown4
  have hfar4 : ∀ a, a4 = some a → w2.heap.size ≤ a.block := by
    intro a ha
    rcases hmv4 with e | ⟨g, e, hg⟩
    · exact hfar3 _ ⟨a, by rw [← e]; exact ha, rfl⟩
    · rw [ha] at e; cases e; have := sp3.sz; simp only; omega
  have kE := kD.keeps hk4 (fun i hi hb => by have := hfar3 i hb; omega)
  have sp4 := sp3.keeps hk4 (fun x _ hx hb => by have := hfar3 x hb; omega)
  have sq4 := sq3.keeps hk4 (fun x _ hx hb => by have := hfar3 x hb; omega)
  have h14 : SlAt w4 a4 (Is (x1 ++ x2)) := SlAt.of_owns hr4
  have b0s : Bd 256 (start x0 n) := bd_start hs
  have hlen : (x1 ++ x2).length = x1.length + x2.length := by simp
  have HLEN := Lib.hid hlen
  have hle : (x1 ++ x2).length ≤ 4194304 := by omega
  obtain ⟨all, hall⟩ : ∃ all, x1 ++ x2 = all := ⟨_, rfl⟩
  have HALL := Lib.hid hall
  rw [hall] at h14 hle
  rw [← hlen, hall]
  clear hlen hall hr4 hk4 hmv4 hown4 hr3 hfar3 sp3 sq3 kD
  have hA1 : ((fireS x0 n (start x0 n) all).1 : Int) = (x1.length : Int) + (j : Int) := by rw [← HALL.out, HA.out]; simp
  have hA2 : (fireS x0 n (start x0 n) all).2 = s2 := by rw [← HALL.out, HA.out]
  have HA1 := Lib.hid hA1
  have HA2 := Lib.hid hA2
  clear hA1 hA2
  go_wp2_with fail
  refine (fire_is _ p n x0 _ _ _ _ all 256 _ s2 sp4 hs h14 rfl HA1.out HA2.out (fun a ha => .inr (by have := hfar4 a ha; omega)) b0s (by omega) (by decide)).mono ?_
  rintro e w5 ⟨rfl, sp5, ky5⟩
  have sq5 := sq4.other sp4 hfar ky5
  have k5 := kE.fire sp4 lp' ky5
  clear sp4 sq4 ky5 kE h14
  go_wp2_with fail
  refine (fire_old w _ q n x0 _ b1 c1 x1 256 sq5 hs h1 k5 lq' b0s (by omega) (by decide)).mono ?_
  rw [HF.out, HS1.out]
  rintro e w6 ⟨rfl, sq6, ky6, k6, bd1⟩
  have sp6 := sp5.other sq5 hfar.symm ky6
  clear sq5 sp5 ky6 k5
  go_wp2_with fail
  refine (fire_old w _ q n x0 _ b2 c2 x2 _ sq6 hs h2 k6 lq' bd1 (by omega) (by omega)).mono ?_
  rw [HJ.out, HS2.out]
  rintro e w8 ⟨rfl, sq8, ky8, k8, -⟩
  have sp8 := sp6.other sq6 hfar.symm ky8
  clear sq6 sp6 ky8 k6 bd1 b0s HLEN HALL
  have LT := Lib.hid sp8.tLen
  have LF := Lib.hid sp8.fLen
  go_wp2_with fail
  refine (counts_any _ p n x0 s2 sp8 hM).mono ?_
  rintro e w9 ⟨a9, c9, rfl, o9, m9⟩
  go_wp2_with fail
  refine (counts_any _ q n x0 s2 (sq8.new m9) hM).mono ?_
  rintro e w10 ⟨a10, c10, rfl, o10, m10⟩
  go_wp2_with fail
  refine (sameI _ _ _ s2.toks s2.toks _ _ _ _ true (o9.sl.new m10) o10.sl rfl rfl (by simp) (by have := LT.out; omega)).mono ?_
  rintro e w11 ⟨rfl, m11⟩
  have m := (m9.trans m10).trans m11
  have sp11 := sp8.new m
  have sq11 := sq8.new m
  have k11 := k8.trans m
  clear sp8 sq8 k8 m9 m10 m11 m o9 o10
  go_wp2_with fail
  refine (fired_any _ p n x0 s2 sp11 hN).mono ?_
  rintro e w12 ⟨a12, c12, rfl, o12, m12⟩
  go_wp2_with fail
  refine (fired_any _ q n x0 s2 (sq11.new m12) hN).mono ?_
  rintro e w13 ⟨a13, c13, rfl, o13, m13⟩
  go_wp2_with fail
  refine (sameI _ _ _ s2.fired s2.fired _ _ _ _ true (o12.sl.new m13) o13.sl rfl rfl (by simp) (by have := LF.out; omega)).mono ?_
  rintro e w14 ⟨rfl, m14⟩
  have kE := k11.trans ((m12.trans m13).trans m14)
  clear m12 m13 m14 o12 o13 sp11 sq11 k11
  go_wp2_with fail
  refine (awake_any _).mono ?_
  rintro e w9 ⟨rfl, m9⟩
  go_wp2
  go_ret
  exact ⟨rfl, kE.trans m9⟩

set_option maxRecDepth 100000 in
set_option maxHeartbeats 4000000 in
theorem part (w : World) (n : Nat) (b0 : Option Addr) (c0 : Nat) (x0 : List ArcD) (h0 : SlAt w b0 (arcsCells x0)) (hs : Sound n x0) (b1 b2 : Option Addr) (c1 c2 : Nat) (x1 x2 : List Int) (h1 : SlAt w b1 (Is x1)) (l1 : x1.length ≤ 1048576) (h2 : SlAt w b2 (Is x2)) (l2 : x2.length ≤ 1048576)
    (hpart : ¬ (fireS x0 n (start x0 n) x1).1 = x1.length) :
    Calls Try.prog 8 #[.agg #[I n, .slice b0 x0.length c0], .slice b1 x1.length c1, .slice b2 x2.length c2] w fun e w' => e = .returned (.bool true) ∧ New w w' := by
  have hM := hs.m
  have hN := hs.n2
  obtain ⟨iI, hiI, hzI, hsI, hbI⟩ := info_parts Try.infoInt
  obtain ⟨s1, hs1⟩ : ∃ s1, (fireS x0 n (start x0 n) x1).2 = s1 := ⟨_, rfl⟩
  obtain ⟨i, hi⟩ : ∃ i, (fireS x0 n (start x0 n) x1).1 = i := ⟨_, rfl⟩
  have hil : i ≤ x1.length := by rw [← hi]; exact fireS_le _ _ _ _
  have hall := fire_append x0 n x1 x2 (start x0 n)
  rw [if_neg hpart] at hall
  rw [hi] at hpart
  have hd1 : decide ((i : Int) = (x1.length : Int)) = false := by simp; omega
  have hd2 : decide (i = x1.length) = false := by simpa using hpart
  have hd3 : ((i : Int) == (x1.length : Int)) = false := by simp; omega
  have HA := Lib.hid hall
  have HS1 := Lib.hid hs1
  have HI := Lib.hid hi
  clear hall hpart hs1 hi
  go_enter Try.func8, Try.ntmps8
  have kA : New w (w.alloc (.cells #[I n, .slice b0 x0.length c0] 24)) := (New.refl w).alloc _
  have a0 : (w.alloc (.cells #[I n, .slice b0 x0.length c0] 24)).cell? ⟨w.heap.size, 0, none⟩ = some (I n) := by simp
  have a1 : (w.alloc (.cells #[I n, .slice b0 x0.length c0] 24)).cell? ⟨w.heap.size, 1, none⟩ = some (.slice b0 x0.length c0) := by simp
  have az : (w.alloc (.cells #[I n, .slice b0 x0.length c0] 24)).heap.size = w.heap.size + 1 := by simp
  go_wp2_with fail
  refine (new_any _ n x0 _ _ hs (h0.new kA)).mono ?_
  rintro e w1 ⟨p, rfl, sp1, lp, m1⟩
  rw [az] at lp
  have kB := kA.trans m1
  have a01 := m1.cell a0
  have a11 := m1.cell a1
  clear m1 a0 a1 kA az
  go_wp2_with fail
  refine (new_any _ n x0 _ _ hs (h0.new kB)).mono ?_
  rintro e w2 ⟨q, rfl, sq2, lq, m2⟩
  have kC := kB.trans m2
  have sp2 := sp1.new m2
  have hfar : Far p q := .inl (Nat.le_trans sp1.sz lq)
  have lq' : w.heap.size ≤ q.lo := Nat.le_trans kB.size lq
  have lp' : w.heap.size ≤ p.lo := by omega
  have hB2 : w.heap.size ≤ w2.heap.size := kC.size
  have hzp := sp2.sz
  have hzq := sq2.sz
  clear kB a01 a11 m2 sp1 lp lq
  go_wp2_with (at_builtin; refine wpList_app rfl _ _ 37 rfl w.heap.size 3 iI (.int .i64 0) 1 8 Try.underlying37 hiI hzI hsI hbI rfl (by decide) none 0 0 [] rfl (World.ownsRow_nil _ _ _ _) b1 x1.length c1 (Is x1) rfl (by simp) (h1.new kC) (ints_oneCell _ _) (by unfold maxLen; omega) (by omega) hB2 ?_)
  intro a3 c3 w3 hown3 hk3 hmv3 _
  have n23 : New w2 w3 := Keeps.mono hk3 (fun i _ ⟨a, ha, _⟩ => by cases ha)
  have hr3 : w3.ownsRow w.heap.size 3 1 (.slice a3 x1.length c3) x1.length (Is x1) := by simpa using hown3
  have hfar3 : ∀ x, blk a3 x → w2.heap.size ≤ x := by
    rintro x ⟨a, ha, rfl⟩
    rcases hmv3 with e | ⟨g, e, hg⟩
    · rw [ha] at e; cases e
    · rw [ha] at e; cases e; exact hg
  have kD := kC.trans n23
  have sp3 := sp2.new n23
  have sq3 := sq2.new n23
  have hB3 : w.heap.size ≤ w3.heap.size := kD.size
  have h23 := n23.size
  clear hown3 hk3 hmv3 n23 sp2 sq2 kC
  go_wp2_with (at_builtin; refine wpList_app rfl _ _ 37 rfl w.heap.size 3 iI (.int .i64 0) 1 8 Try.underlying37 hiI hzI hsI hbI rfl (by decide) a3 x1.length c3 (Is x1) rfl hr3 b2 x2.length c2 (Is x2) rfl (by simp) (h2.new kD) (ints_oneCell _ _) (by unfold maxLen; omega) (by omega) hB3 ?_)
  intro a4 c4 w4 hown4 hk4 hmv4 _
  have hr4 : w4.ownsRow w.heap.size 3 1 (.slice a4 (x1 ++ x2).length c4) (x1 ++ x2).length (Is (x1 ++ x2)) := by simpa using hown4
  have hfar4 : ∀ a, a4 = some a → w2.heap.size ≤ a.block := by
    intro a ha
    rcases hmv4 with e | ⟨g, e, hg⟩
    · exact hfar3 _ ⟨a, by rw [← e]; exact ha, rfl⟩
    · rw [ha] at e; cases e; have := sp3.sz; simp only; omega
  have kE := kD.keeps hk4 (fun i hi hb => by have := hfar3 i hb; omega)
  have sp4 := sp3.keeps hk4 (fun x _ hx hb => by have := hfar3 x hb; omega)
  have sq4 := sq3.keeps hk4 (fun x _ hx hb => by have := hfar3 x hb; omega)
  have h14 : SlAt w4 a4 (Is (x1 ++ x2)) := SlAt.of_owns hr4
  have b0s : Bd 256 (start x0 n) := bd_start hs
  have hlen : (x1 ++ x2).length = x1.length + x2.length := by simp
  have HLEN := Lib.hid hlen
  have hle : (x1 ++ x2).length ≤ 4194304 := by omega
  obtain ⟨all, hall⟩ : ∃ all, x1 ++ x2 = all := ⟨_, rfl⟩
  have HALL := Lib.hid hall
  rw [hall] at h14 hle
  rw [← hlen, hall]
  clear hlen hall hr4 hk4 hmv4 hown4 hr3 hfar3 sp3 sq3 kD
  have hA1 : ((fireS x0 n (start x0 n) all).1 : Int) = (i : Int) := by rw [← HALL.out, HA.out, HI.out]
  have hA2 : (fireS x0 n (start x0 n) all).2 = s1 := by rw [← HALL.out, HA.out, HS1.out]
  have HA1 := Lib.hid hA1
  have HA2 := Lib.hid hA2
  clear hA1 hA2
  go_wp2_with fail
  refine (fire_is _ p n x0 _ _ _ _ all 256 _ s1 sp4 hs h14 rfl HA1.out HA2.out (fun a ha => .inr (by have := hfar4 a ha; omega)) b0s (by omega) (by decide)).mono ?_
  rintro e w5 ⟨rfl, sp5, ky5⟩
  have sq5 := sq4.other sp4 hfar ky5
  have k5 := kE.fire sp4 lp' ky5
  clear sp4 sq4 ky5 kE h14
  go_wp2_with fail
  refine (fire_old w _ q n x0 _ b1 c1 x1 256 sq5 hs h1 k5 lq' b0s (by omega) (by decide)).mono ?_
  rw [HI.out, HS1.out]
  rintro e w8 ⟨rfl, sq8, ky8, k8, bd1⟩
  have sp8 := sp5.other sq5 hfar.symm ky8
  clear sq5 sp5 ky8 k5 bd1 b0s HLEN HALL
  have LT := Lib.hid sp8.tLen
  have LF := Lib.hid sp8.fLen
  go_wp2_with fail
  refine (counts_any _ p n x0 s1 sp8 hM).mono ?_
  rintro e w9 ⟨a9, c9, rfl, o9, m9⟩
  go_wp2_with fail
  refine (counts_any _ q n x0 s1 (sq8.new m9) hM).mono ?_
  rintro e w10 ⟨a10, c10, rfl, o10, m10⟩
  go_wp2_with fail
  refine (sameI _ _ _ s1.toks s1.toks _ _ _ _ true (o9.sl.new m10) o10.sl rfl rfl (by simp) (by have := LT.out; omega)).mono ?_
  rintro e w11 ⟨rfl, m11⟩
  have m := (m9.trans m10).trans m11
  have sp11 := sp8.new m
  have sq11 := sq8.new m
  have k11 := k8.trans m
  clear sp8 sq8 k8 m9 m10 m11 m o9 o10
  go_wp2_with fail
  refine (fired_any _ p n x0 s1 sp11 hN).mono ?_
  rintro e w12 ⟨a12, c12, rfl, o12, m12⟩
  go_wp2_with fail
  refine (fired_any _ q n x0 s1 (sq11.new m12) hN).mono ?_
  rintro e w13 ⟨a13, c13, rfl, o13, m13⟩
  go_wp2_with fail
  refine (sameI _ _ _ s1.fired s1.fired _ _ _ _ true (o12.sl.new m13) o13.sl rfl rfl (by simp) (by have := LF.out; omega)).mono ?_
  rintro e w14 ⟨rfl, m14⟩
  have kE := k11.trans ((m12.trans m13).trans m14)
  clear m12 m13 m14 o12 o13 sp11 sq11 k11
  go_wp2_with fail
  refine (awake_any _).mono ?_
  rintro e w9 ⟨rfl, m9⟩
  go_wp2
  go_ret
  exact ⟨rfl, kE.trans m9⟩

theorem walk (w : World) (n0 : Int) (b0 : Option Addr) (c0 : Nat) (x0 : List ArcD) (h0 : SlAt w b0 (arcsCells x0)) (l0 : x0.length ≤ maxLen) (a1 : Option Addr) (c1 : Nat) (x1 : List Int) (h1 : SlAt w a1 (x1.map (Value.int .i64))) (r1 : ∀ x ∈ x1, (Lit.int .i64 x).wf = true) (l1 : x1.length ≤ 1048576) (a2 : Option Addr) (c2 : Nat) (x2 : List Int) (h2 : SlAt w a2 (x2.map (Value.int .i64))) (r2 : ∀ x ∈ x2, (Lit.int .i64 x).wf = true) (l2 : x2.length ≤ 1048576) :
    Calls Try.prog 8 #[.agg #[I n0, .slice b0 x0.length c0], .slice a1 x1.length c1, .slice a2 x2.length c2] w fun e w' => e = .returned (.bool true) ∧ New w w' := by
  by_cases he : netErr n0 x0 = 0
  · obtain ⟨n, rfl, hs⟩ := sound_of he
    by_cases hf : (fireS x0 n (start x0 n) x1).1 = x1.length
    · exact full w n b0 c0 x0 h0 hs a1 a2 c1 c2 x1 x2 h1 l1 h2 l2 hf
    · exact part w n b0 c0 x0 h0 hs a1 a2 c1 c2 x1 x2 h1 l1 h2 l2 hf
  · exact bad w n0 b0 c0 x0 h0 l0 he a1 a2 c1 _ c2 _
set_option maxRecDepth 100000 in
theorem lifted (os : Os) (started : os.Started) (H : Type) (enc : TypeId × Value → H) (F : Stop.Interp) :
    ReturnsInHanded {} Try.checked os 8 .any ((Rows.OpenSpec.upto Rows.netPartsSpec).pre6 enc Try.prog Try.f8 Rows.netPartsUptoRow.domain false) (((Rows.OpenSpec.upto Rows.netPartsSpec).at F).post enc Try.prog Try.f8 false true false false) := by
  refine returnsInHanded_of_cond (C := Try.checked) (s := Rows.OpenSpec.upto Rows.netPartsSpec) (k := Rows.uptoSmall) rfl own started (by kernel_rfl) Try.func8
    (OpenSpec.witness (enc := enc) (C := Try.checked) (s := Rows.OpenSpec.upto Rows.netPartsSpec) (k := Rows.uptoSmall) rfl false ⟨#[], #[.agg #[.int .i64 0, .slice none 0 0], .slice none 0 0, .slice none 0 0], []⟩ 8 (by kernel_rfl) (by kernel_rfl) (by kernel_rfl)
      (x := ([.agg [.lit (.int .i64 0), .nil], .nil, .nil], [], [])) (by kernel_rfl) rfl (by kernel_rfl)) ?_
  intro W base args ds gs before hval0 hW hcnd hk _
  have hval : ∀ (j : Nat) t v, Try.f8.params[j]? = some t → args[j]? = some v → Value.okWide Try.prog W .any base t v := hval0
  have hW' := hW
  obtain ⟨p, q, hA0, hV, rfl, hfz, hnd⟩ := hW
  have hA : DataW.TrodAll enc Try.prog W 0 (fun _ => true) true Try.f8.params.toList args.toList ds p := hA0
  rw [Try.params8] at hA hval
  obtain ⟨v0, vs0, d0, ds0, p0, q0, hargs, rfl, rfl, h0, r0'⟩ := trodAll_cons hA
  obtain ⟨v1, vs1, d1, ds1, p1, q1, rfl, rfl, rfl, h1, r1'⟩ := trodAll_cons r0'
  obtain ⟨v2, vs2, d2, ds2, p2, q2, rfl, rfl, rfl, h2, r2'⟩ := trodAll_cons r1'
  obtain ⟨rfl, rfl, rfl⟩ := trodAll_nil r2'
  obtain rfl : args = #[v0, v1, v2] := by cases args; simp_all
  obtain ⟨rfl, rfl⟩ := trodVars_none hV
  have bnd := bulks.bound hk
  simp only [List.append_nil] at bnd
  have mem0 : d0 ∈ ([d0, d1, d2] : List (DataW H)) := by simp
  have mem1 : d1 ∈ ([d0, d1, d2] : List (DataW H)) := by simp
  have mem2 : d2 ∈ ([d0, d1, d2] : List (DataW H)) := by simp
  have k0 := h0
  have lt0 : ∀ x ∈ p0, x.block < W.heap.size := by obtain ⟨m, hm⟩ := k0; exact DataW.trod_lt m _ _ _ hm
  have k1 := h1
  have lt1 : ∀ x ∈ p1, x.block < W.heap.size := by obtain ⟨m, hm⟩ := k1; exact DataW.trod_lt m _ _ _ hm
  have k2 := h2
  have lt2 : ∀ x ∈ p2, x.block < W.heap.size := by obtain ⟨m, hm⟩ := k2; exact DataW.trod_lt m _ _ _ hm
  obtain ⟨n0, b0, c0, x0, rfl, w0, sl0, l0, e00, e01, rfl, dd0⟩ := read_net (hval 0 24 v0 rfl rfl) h0
  obtain ⟨a1, n1, c1, rfl⟩ := okWide_slice Try.underlying37 (hval 1 37 v1 rfl rfl)
  obtain ⟨x1, rfl, sl1, r1, l1, _, dd1⟩ := read_ints h1
  have l1' : x1.length ≤ 1048576 := by
    rcases dd1 with ⟨_, rfl⟩ | ⟨spare, rfl⟩
    · simp
    · have hm := bulks.part_le (show DataW.slice (lits .i64 x1) spare ∈ _ from mem1)
      have hs := bulks.slice_le (lits (H := H) .i64 x1) spare
      rw [lits_len] at hs
      omega
  obtain ⟨a2, n2, c2, rfl⟩ := okWide_slice Try.underlying37 (hval 2 37 v2 rfl rfl)
  obtain ⟨x2, rfl, sl2, r2, l2, _, dd2⟩ := read_ints h2
  have l2' : x2.length ≤ 1048576 := by
    rcases dd2 with ⟨_, rfl⟩ | ⟨spare, rfl⟩
    · simp
    · have hm := bulks.part_le (show DataW.slice (lits .i64 x2) spare ∈ _ from mem2)
      have hs := bulks.slice_le (lits (H := H) .i64 x2) spare
      rw [lits_len] at hs
      omega
  clear hA0 hval0
  refine (walk W n0 b0 c0 x0 sl0 l0 a1 c1 x1 sl1 r1 l1' a2 c2 x2 sl2 r2 l2').mono fun e W' ⟨he, hnew⟩ => ?_
  have bel := hnew.below
  subst he
  exact ⟨_, rfl, _, _, _, [], _, [], hW', trodAll_mk1 (shut_bool Try.underlying4 _), (trodAll_cons_mk (Below.trod laidOut (by kernel_rfl) (of_decide_eq_true (by kernel_rfl)) k0 bel lt0) (trodAll_cons_mk (Below.trod laidOut (by kernel_rfl) (of_decide_eq_true (by kernel_rfl)) k1 bel lt1) (trodAll_cons_mk (Below.trod laidOut (by kernel_rfl) (of_decide_eq_true (by kernel_rfl)) k2 bel lt2) trodAll_mk0))), rfl, bel.frame _, fun h => by cases h⟩

theorem over : Rows.netPartsUptoRow.holds Try.pinned (Rows.OpenSpec.upto Rows.netPartsSpec) :=
  OpenClaim.holds_of_cond 8 Try.f8 rfl rfl rfl rfl rfl rfl rfl ⟨rfl, rfl, rfl, rfl, rfl⟩ rfl rfl rfl rfl rfl (by kernel_rfl) Try.func8 (by kernel_rfl)
    (of_decide_eq_true (by kernel_rfl)) (by unfold Func.isWrapper; first | (rw [if_pos (by decide +kernel)]; kernel_rfl) | (rw [if_neg (by decide +kernel)]; exact ⟨rfl, rfl⟩))
    (fun os started H enc _ F => lifted os started H enc F)

/-- THE STATEMENT. -/
theorem proved : Rows.NetPartsUptoSaid := over
end Go.Proofs.Ytijlgcbnoekmeaa.netParts
