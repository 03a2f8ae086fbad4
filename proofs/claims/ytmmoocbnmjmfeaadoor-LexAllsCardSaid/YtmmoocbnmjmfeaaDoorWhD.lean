/-
  The document's whole numbers: size, Cmp, Int.
-/
import Derived.Test.YtmmoocbnmjmfeaaDoorWhC
namespace Go.Proofs.YtmmoocbnmjmfeaaDoor
open Go Go.RowKit Go.Joins
set_option linter.all false

def cmpN (x y : Nat) : Int := if x < y then -1 else if x = y then 0 else 1
theorem nd_lt {x y : Nat} (hx : x < whTop) (hy : y < whTop) (h : nd x < nd y) : x < y := by
  unfold whTop at hx hy
  unfold nd at h
  split at h
  · split at h
    · omega
    · omega
  · split at h
    · split at h
      · omega
      · split at h <;> omega
    · split at h
      · split at h
        · omega
        · split at h
          · omega
          · split at h <;> omega
      · split at h
        · omega
        · split at h
          · omega
          · split at h <;> omega
theorem hiD_lt {x y p : Nat} (h : hiD x p < hiD y p) : x < y := by
  unfold hiD at h
  rcases Nat.lt_or_ge x y with hlt | hge
  · exact hlt
  · have := Nat.div_le_div_right (c := 1073741824 ^ p) hge
    omega
theorem dig_cmp {x y p : Nat} (h : hiD x (p + 1) = hiD y (p + 1)) : (dig x p < dig y p → x < y) ∧ (dig y p < dig x p → y < x) ∧ (dig x p = dig y p → hiD x p = hiD y p) := by
  have ex := hiD_eq x p
  have ey := hiD_eq y p
  rw [h] at ex
  refine ⟨fun hl => hiD_lt (p := p) (by omega), fun hl => hiD_lt (p := p) (by omega), fun he => by omega⟩
set_option maxRecDepth 100000 in
set_option maxHeartbeats 8000000 in
theorem size_any (w : World) (a b : Option Addr) (c d x y : Nat) (hx : SlAt w a (Is (dgs x))) (hy : SlAt w b (Is (dgs y))) (hxt : x < whTop) (hyt : y < whTop) :
    Calls Tryd.prog 51 #[.slice a (nd x) c, .slice b (nd y) d] w fun e w' => e = .returned (I (cmpN x y)) ∧ New w w' := by
  obtain ⟨r, hr⟩ : ∃ r, cmpN x y = r := ⟨_, rfl⟩
  have HR := Lib.hid hr
  rw [hr]
  have hnx := nd_le x
  have hny := nd_le y
  rcases Nat.lt_trichotomy (nd x) (nd y) with h | h | h
  · have hxy := nd_lt hxt hyt h
    obtain rfl : r = -1 := by rw [← hr]; unfold cmpN; rw [if_pos hxy]
    have hI : ((nd x : Int) == (nd y : Int)) = false := by simpa using fun h2 : (nd x : Int) = (nd y : Int) => by omega
    have hI2 : ((nd x : Nat) : Int) < ((nd y : Nat) : Int) := by omega
    generalize nd x = n at hI hI2 hnx ⊢
    generalize nd y = m at hI hI2 hny ⊢
    clear hr h hxy hx hy HR
    go_enter Tryd.func51, Tryd.ntmps51
    go_wp2_with fail
    go_ret
    exact ⟨rfl, New.refl _⟩
  · have HX := Lib.hid hx
    have HY := Lib.hid hy
    unfold dgs at HX HY
    have HXD : Hid (hiD x (nd x) = 0) := Lib.hid (hiD_nd (by unfold whTop at hxt; exact hxt))
    have HYD : Hid (hiD y (nd y) = 0) := Lib.hid (hiD_nd (by unfold whTop at hyt; exact hyt))
    rw [← h] at HY HYD ⊢
    generalize nd x = n at HX HY HXD HYD hnx ⊢
    clear h hr hx hy hny
    go_enter Tryd.func51, Tryd.ntmps51
    have w0 : IntKind.i64.wrap ((n : Int) - 1) = (n : Int) - 1 := IntWalk.i64_in _ (by omega)
    go_wp2_with fail
    go_loopw [5] (fun xi wr => ∃ j : Nat, j ≤ n ∧ xi = .int .i64 ((j : Int) - 1) ∧ Hid (hiD x j = hiD y j) ∧ New w wr) (fun xi _ => (intOf xi + 1).toNat)
    case atStart => exact ⟨n, Nat.le_refl _, rfl, Lib.hid (by rw [HXD.out, HYD.out]), New.refl _⟩
    case round =>
      obtain ⟨j, hj, rfl, HE, hN⟩ := hrel
      cases j with
      | zero =>
        have HD : Hid (r = 0) := Lib.hid (by
          have := HE.out
          rw [hiD_zero, hiD_zero] at this
          rw [← HR.out]; unfold cmpN; rw [if_neg (by omega), if_pos this])
        go_wp2_with fail
        go_ret
        exact ⟨by rw [HD.out]; rfl, hN⟩
      | succ p =>
        obtain ⟨b1, o1, e1, q1⟩ := is_at HX.out (j := p) (by omega)
        obtain ⟨b2, o2, e2, q2⟩ := is_at HY.out (j := p) (by omega)
        replace q1 := New.cell hN q1
        replace q2 := New.cell hN q2
        subst e1 e2
        have l1 := World.block_lt_of_cell? wr _ q1
        have l2 := World.block_lt_of_cell? wr _ q2
        obtain ⟨k1, k2, k3⟩ := dig_cmp HE.out
        have d1 := dig_lt x p
        have d2 := dig_lt y p
        have hcast : (((p + 1 : Nat) : Int) - 1) = (p : Int) := by omega
        rw [hcast]
        have hpI : (p : Int) < (n : Int) := by omega
        have hw : IntKind.i64.wrap ((p : Int) - 1) = (p : Int) - 1 := IntWalk.i64_in _ (by omega)
        obtain ⟨u, hu⟩ : ∃ u, dig x p = u := ⟨_, rfl⟩
        obtain ⟨v, hv⟩ : ∃ v, dig y p = v := ⟨_, rfl⟩
        rw [hu, hv] at k1 k2 k3
        rw [hu] at q1
        rw [hv] at q2
        rcases Nat.lt_trichotomy u v with hc | hc | hc
        · have HD : Hid (r = -1) := Lib.hid (by rw [← HR.out]; unfold cmpN; rw [if_pos (k1 hc)])
          have c1 : decide (u < v) = true := decide_eq_true hc
          clear k1 k2 k3 hu hv hcast d1 d2
          go_wp2_with fail
          go_quiet (fail)
          go_wp2_with fail
          go_ret
          exact ⟨by rw [HD.out]; rfl, by first | exact hN.drewN _ | exact hN⟩
        · subst hc
          have HE2 := Lib.hid (k3 rfl)
          clear k1 k2 k3 hu hv hcast d1 d2
          go_wp2_with fail
          go_quiet (fail)
          go_wp2_with fail
          go_quiet (fail)
          go_wp2_with fail
          go_roundw
          case rel => exact ⟨p, by omega, by first | rfl | (congr 1), HE2, by first | exact (hN.drewN _).drewN _ | exact hN.drewN _ | exact hN⟩
          case measure => simp [intOf]; try omega
        · have HD : Hid (r = 1) := Lib.hid (by rw [← HR.out]; unfold cmpN; rw [if_neg (by have := k2 hc; omega), if_neg (by have := k2 hc; omega)])
          have c1 : decide (u < v) = false := decide_eq_false (by omega)
          have c2 : decide (v < u) = true := decide_eq_true hc
          clear k1 k2 k3 hu hv hcast d1 d2
          go_wp2_with fail
          go_quiet (fail)
          go_wp2_with fail
          go_quiet (fail)
          go_wp2_with fail
          go_ret
          exact ⟨by rw [HD.out]; rfl, by first | exact (hN.drewN _).drewN _ | exact hN.drewN _ | exact hN⟩
  · have hxy := nd_lt hyt hxt h
    obtain rfl : r = 1 := by rw [← hr]; unfold cmpN; rw [if_neg (by omega), if_neg (by omega)]
    have hI : ((nd x : Int) == (nd y : Int)) = false := by simpa using fun h2 : (nd x : Int) = (nd y : Int) => by omega
    have hI2 : ¬ ((nd x : Nat) : Int) < ((nd y : Nat) : Int) := by omega
    have hI3 : decide (nd x < nd y) = false := decide_eq_false (by omega)
    generalize nd x = n at hI hI2 hI3 hnx ⊢
    generalize nd y = m at hI hI2 hI3 hny ⊢
    clear hr h hxy hx hy HR
    go_enter Tryd.func51, Tryd.ntmps51
    go_wp2_with fail
    go_ret
    exact ⟨rfl, New.refl _⟩
def cmpW (b1 : Bool) (x : Nat) (b2 : Bool) (y : Nat) : Int := if b1 = b2 then (if b1 then -(cmpN x y) else cmpN x y) else (if b1 then -1 else 1)
theorem cmpN_rng (x y : Nat) : -1 ≤ cmpN x y ∧ cmpN x y ≤ 1 := by
  unfold cmpN
  split
  · omega
  · split <;> omega
set_option maxRecDepth 100000 in
set_option maxHeartbeats 8000000 in
theorem cmp_any (w : World) (b1 b2 : Bool) (a b : Option Addr) (c d x y : Nat) (hx : SlAt w a (Is (dgs x))) (hy : SlAt w b (Is (dgs y))) (hxt : x < whTop) (hyt : y < whTop) :
    Calls Tryd.prog 54 #[.agg #[.bool b1, .slice a (nd x) c], .agg #[.bool b2, .slice b (nd y) d]] w fun e w' => e = .returned (I (cmpW b1 x b2 y)) ∧ New w w' := by
  have hsz := fun W (n : New w W) => size_any W a b c d x y (hx.new n) (hy.new n) hxt hyt
  obtain ⟨r, hr⟩ : ∃ r, cmpN x y = r := ⟨_, rfl⟩
  have hrr := cmpN_rng x y
  obtain ⟨R, hR⟩ : ∃ R, cmpW b1 x b2 y = R := ⟨_, rfl⟩
  rw [hR]
  unfold cmpW at hR
  rw [hr] at hR hsz hrr
  have hw : IntKind.i64.wrap (-r) = -r := IntWalk.i64_in _ (by omega)
  generalize nd x = n at hsz ⊢
  generalize nd y = m at hsz ⊢
  have k2 : New w ((w.alloc (.cells #[.bool b1, .slice a n c] 64)).alloc (.cells #[.bool b2, .slice b m d] 64)) := ((New.refl w).alloc _).alloc _
  clear hx hy hr hxt hyt
  cases b1 with
  | true =>
    cases b2 with
    | true =>
      obtain rfl : R = -r := by rw [← hR]; rfl
      clear hR
      go_enter Tryd.func54, Tryd.ntmps54
      go_wp2_with fail
      obtain ⟨p0, p1, pB⟩ : ((w.alloc (.cells #[.bool true, .slice a n c] 64)).alloc (.cells #[.bool true, .slice b m d] 64)).cell? ⟨w.heap.size, 0, none⟩ = some (.bool true) ∧ True ∧ w.heap.size < ((w.alloc (.cells #[.bool true, .slice a n c] 64)).alloc (.cells #[.bool true, .slice b m d] 64)).heap.size := by
        refine ⟨?_, trivial, by simp; omega⟩
        exact New.cell ((New.refl _).alloc _) (by rw [cell_of_block (wh_new w _ _) 0]; rfl)
      refine (hsz _ k2).mono ?_
      rintro e w3 ⟨rfl, n3⟩
      replace p0 := New.cell n3 p0
      have HN := Lib.hid (k2.trans n3)
      have hB3 := Nat.lt_of_lt_of_le pB n3.size
      clear k2 n3 hsz
      go_wp2_with fail
      go_ret
      exact ⟨rfl, HN.out⟩
    | false =>
      obtain rfl : R = -1 := by rw [← hR]; rfl
      clear hR hsz
      go_enter Tryd.func54, Tryd.ntmps54
      go_wp2_with fail
      go_ret
      exact ⟨rfl, k2⟩

  | false =>
    cases b2 with
    | true =>
      obtain rfl : R = 1 := by rw [← hR]; rfl
      clear hR hsz
      go_enter Tryd.func54, Tryd.ntmps54
      go_wp2_with fail
      go_ret
      exact ⟨rfl, k2⟩
    | false =>
      obtain rfl : R = r := by rw [← hR]; rfl
      clear hR
      go_enter Tryd.func54, Tryd.ntmps54
      go_wp2_with fail
      obtain ⟨p0, p1, pB⟩ : ((w.alloc (.cells #[.bool false, .slice a n c] 64)).alloc (.cells #[.bool false, .slice b m d] 64)).cell? ⟨w.heap.size, 0, none⟩ = some (.bool false) ∧ True ∧ w.heap.size < ((w.alloc (.cells #[.bool false, .slice a n c] 64)).alloc (.cells #[.bool false, .slice b m d] 64)).heap.size := by
        refine ⟨?_, trivial, by simp; omega⟩
        exact New.cell ((New.refl _).alloc _) (by rw [cell_of_block (wh_new w _ _) 0]; rfl)
      refine (hsz _ k2).mono ?_
      rintro e w3 ⟨rfl, n3⟩
      replace p0 := New.cell n3 p0
      have HN := Lib.hid (k2.trans n3)
      have hB3 := Nat.lt_of_lt_of_le pB n3.size
      clear k2 n3 hsz
      go_wp2_with fail
      go_ret
      exact ⟨rfl, HN.out⟩
end Go.Proofs.YtmmoocbnmjmfeaaDoor
