/-
  Walks, third part: the reference's table of rates.
-/
import Derived.Test.YtijlgcbnoekmeaaShapeB
import Derived.Deep.RegionWith
import Derived.Deep.RegionHeld3
namespace Go.Proofs.Ytijlgcbnoekmeaa
open Go Go.RowKit
set_option linter.all false

theorem refPorts_i (n : Int) (r : Int) (w : World) (hn : 0 ≤ n ∧ n ≤ 64) :
    Calls Try.prog 47 #[I n, I r] w fun e w' => ∃ ao c, e = .returned (.slice ao n.toNat c) ∧ OwnI w' w.heap.size ao c (List.replicate n.toNat r) ∧ New w w' := by
  obtain ⟨k, rfl⟩ := Int.eq_ofNat_of_zero_le hn.1
  exact refPorts_any k r w (by omega)

/-- The table's rates. -/
def rates (tag : Int) (ps : List Int) : List Int × List Int :=
  let n := ps.getD 0 0
  let m := ps.getD 1 0
  if tag = 2 then ([1], [n])
  else if tag = 3 then ([n], [1])
  else if tag = 4 then (List.replicate n.toNat m, [n * m])
  else if tag = 5 then ([n * m], List.replicate n.toNat m)
  else if tag = 6 then (List.replicate n.toNat 1, [1])
  else if tag = 7 then ([1, 1], [1])
  else if tag = 9 then ([1], List.replicate n.toNat 1)
  else if tag = 10 then ([], [1])
  else if tag = 11 then ([n], [])
  else ([1], [1])

/-- What Of answers: the error, the rates. -/
def shapeS (tag : Int) (ps : List Int) : Int × List Int × List Int :=
  if 1 ≤ tag ∧ tag ≤ 11 then (if goodS tag ps then (0, rates tag ps) else (61, [], [])) else (60, [], [])

/-- Two lists of the call's own, apart from one another, and the error. -/
def Rates (w : World) (r : Int × List Int × List Int) (e : Ending) (w' : World) : Prop :=
  ∃ a ca b cb, e = .returned (.tuple #[.slice a r.2.1.length ca, .slice b r.2.2.length cb, I r.1]) ∧ OwnI w' w.heap.size a ca r.2.1 ∧ OwnI w' w.heap.size b cb r.2.2 ∧
    (∀ x y, a = some x → b = some y → x.block ≠ y.block) ∧ New w w'

theorem OwnI.nil (w : World) (B : Nat) : OwnI w B Option.none 0 [] := World.ownsRow_nil _ _ _ _

theorem Rates.none (w w' : World) (k : Int) (h : New w w') : Rates w (k, [], []) (.returned (.tuple #[.slice none 0 0, .slice none 0 0, I k])) w' :=
  ⟨Option.none, 0, Option.none, 0, rfl, World.ownsRow_nil _ _ _ _, World.ownsRow_nil _ _ _ _, (fun x y h => by cases h), h⟩

theorem Rates.mk {w w0 w1 w2 : World} {a b : Option Addr} {ca cb na nb : Nat} {xs ys xs' ys' : List Int} (h0 : New w w0) (ha : OwnI w1 w0.heap.size a ca xs) (h1 : New w0 w1) (hb : OwnI w2 w1.heap.size b cb ys) (h2 : New w1 w2)
    (hxs : xs = xs' ∧ na = xs'.length) (hys : ys = ys' ∧ nb = ys'.length) :
    Rates w (0, xs', ys') (.returned (.tuple #[.slice a na ca, .slice b nb cb, I 0])) w2 := by
  obtain ⟨rfl, rfl⟩ := hxs
  obtain ⟨rfl, rfl⟩ := hys
  have s0 := h0.size
  have s1 := h1.size
  exact ⟨a, ca, b, cb, rfl, ownsRow_rebase (ha.new h2) (fun k hk => by have := World.ownsRow.lt ha k hk; omega), ownsRow_rebase hb (fun k hk => by have := World.ownsRow.lt hb k hk; omega),
    (fun x y hx hy => by have := ha.lt x hx; have := hb.lt y hy; omega), (h0.trans h1).trans h2⟩

theorem Rates.fst {w w0 w1 : World} {a : Option Addr} {ca na : Nat} {xs xs' : List Int} (h0 : New w w0) (ha : OwnI w1 w0.heap.size a ca xs) (h1 : New w0 w1) (hxs : xs = xs' ∧ na = xs'.length) :
    Rates w (0, xs', []) (.returned (.tuple #[.slice a na ca, .slice Option.none 0 0, I 0])) w1 :=
  Rates.mk h0 ha h1 (OwnI.nil _ _) (New.refl w1) hxs ⟨rfl, rfl⟩

theorem Rates.snd {w w0 w1 : World} {a : Option Addr} {ca na : Nat} {xs xs' : List Int} (h0 : New w w0) (ha : OwnI w1 w0.heap.size a ca xs) (h1 : New w0 w1) (hxs : xs = xs' ∧ na = xs'.length) :
    Rates w (0, [], xs') (.returned (.tuple #[.slice Option.none 0 0, .slice a na ca, I 0])) w1 :=
  Rates.mk h0 (OwnI.nil _ _) (New.refl w0) ha h1 ⟨rfl, rfl⟩ hxs


set_option maxHeartbeats 1000000 in
theorem refOf_2 (tag : Int) (ao : Option Addr) (c : Nat) (n : Int) (w : World) (ht : tag = 2) (hx : SlAt w ao (Is [n])) (hn : 1 ≤ n) (hn2 : n ≤ 64) :
    Calls Try.prog 41 #[.int .u8 tag, .slice ao ([n] : List Int).length c] w (Rates w (0, [1], [n])) := by
  have hg : goodS 2 [n] = true := by simp [goodS, oneS, hn, hn2]
  subst ht
  obtain ⟨b, off, rfl, hc⟩ := Is_at hx (i := 0) (by simp)
  simp only [Nat.add_zero, List.getElem_cons_zero] at hc
  go_enter Try.func41, Try.ntmps41
  go_wp2_with (go_at_call 46; refine (good_any _ _ _ [n] _ (by omega) (by omega) hx (by first | omega | simp)).mono ?_; rw [hg]; rintro e w' ⟨rfl, nq, rfl⟩)
  go_region_held3 (fun w' => w'.cell? ⟨b, off, none⟩ = some (.int .i64 n))
    (first | exact hc | assumption)
    (first | (go_at_call 47; refine (refPorts_i _ _ _ (by omega)).mono ?_; rintro e w' ⟨ao', c', rfl, hown', hnew'⟩; have hc2 : w'.cell? ⟨b, off, none⟩ = some (I n) := (by first | exact hnew'.cell hc | exact hnew'.cell (by assumption))))
  all_goals
    go_wp2
    go_ret3
    exact Rates.mk (Keeps.drewN w _) (by assumption) (by assumption) hown' hnew' (by simp) (by simp)

set_option maxHeartbeats 1000000 in
theorem refOf_3 (tag : Int) (ao : Option Addr) (c : Nat) (n : Int) (w : World) (ht : tag = 3) (hx : SlAt w ao (Is [n])) (hn : 1 ≤ n) (hn2 : n ≤ 64) :
    Calls Try.prog 41 #[.int .u8 tag, .slice ao ([n] : List Int).length c] w (Rates w (0, [n], [1])) := by
  have hg : goodS 3 [n] = true := by simp [goodS, oneS, hn, hn2]
  subst ht
  obtain ⟨b, off, rfl, hc⟩ := Is_at hx (i := 0) (by simp)
  simp only [Nat.add_zero, List.getElem_cons_zero] at hc
  go_enter Try.func41, Try.ntmps41
  go_wp2_with (first | (go_at_call 46; refine (good_any _ _ _ [n] _ (by omega) (by omega) hx (by first | omega | simp)).mono ?_; rw [hg]; rintro e w' ⟨rfl, nq, rfl⟩) | (go_at_call 47; refine (refPorts_i _ _ _ (by omega)).mono ?_; rintro e w' ⟨ao', c', rfl, hown', hnew'⟩; have hc2 : w'.cell? ⟨b, off, none⟩ = some (I n) := (by first | exact hnew'.cell hc | exact hnew'.cell (by assumption))))
  all_goals
    go_ret3
    exact Rates.mk (Keeps.drewN w _) (by assumption) (by assumption) hown' hnew' (by simp) (by simp)

set_option maxHeartbeats 1000000 in
theorem refOf_4 (tag : Int) (ao : Option Addr) (c : Nat) (n m : Int) (w : World) (ht : tag = 4) (hx : SlAt w ao (Is [n, m])) (hn : 1 ≤ n) (hn2 : n ≤ 16) (hm : 1 ≤ m) (hm2 : m ≤ 64) (hp1 : 1 ≤ n * m) (hp : n * m ≤ 64) :
    Calls Try.prog 41 #[.int .u8 tag, .slice ao ([n, m] : List Int).length c] w (Rates w (0, List.replicate n.toNat m, [n * m])) := by
  have hg : goodS 4 [n, m] = true := by simp [goodS, twoS, hn, hn2, hm, hm2, hp]
  subst ht
  obtain ⟨b, off, rfl, hc⟩ := Is_at hx (i := 0) (by simp)
  obtain ⟨b', off', e, hd⟩ := Is_at hx (i := 1) (by simp)
  simp only [Option.some.injEq, Addr.mk.injEq, and_true] at e
  obtain ⟨rfl, rfl⟩ := e
  simp only [List.getElem_cons_zero, List.getElem_cons_succ] at hd
  simp only [Nat.add_zero, List.getElem_cons_zero] at hc
  go_enter Try.func41, Try.ntmps41
  have hwr : IntKind.i64.wrap (n * m) = n * m := IntWalk.i64_in _ (by omega)
  go_wp2_with (go_at_call 46; refine (good_any _ _ _ [n, m] _ (by omega) (by omega) hx (by first | omega | simp)).mono ?_; rw [hg]; rintro e w' ⟨rfl, nq, rfl⟩)
  go_region_held3 (fun w' => w'.cell? ⟨b, off, none⟩ = some (.int .i64 n) ∧ w'.cell? ⟨b, off + 1, none⟩ = some (.int .i64 m))
    (first | exact ⟨hc, hd⟩ | exact ⟨by assumption, by assumption⟩)
    (first | (go_at_call 47; refine (refPorts_i _ _ _ (by omega)).mono ?_; rintro e w' ⟨ao', c', rfl, hown', hnew'⟩; have hc2 : w'.cell? ⟨b, off, none⟩ = some (I n) := (by first | exact hnew'.cell hc | exact hnew'.cell (by assumption)); have hd2 : w'.cell? ⟨b, off + 1, none⟩ = some (I m) := (by first | exact hnew'.cell hd | exact hnew'.cell (by assumption))))
  all_goals
    go_wp2
    go_ret3
    exact Rates.mk (Keeps.drewN w _) (by assumption) (by assumption) hown' hnew' (by simp) (by simp)

set_option maxHeartbeats 1000000 in
theorem refOf_5 (tag : Int) (ao : Option Addr) (c : Nat) (n m : Int) (w : World) (ht : tag = 5) (hx : SlAt w ao (Is [n, m])) (hn : 1 ≤ n) (hn2 : n ≤ 16) (hm : 1 ≤ m) (hm2 : m ≤ 64) (hp1 : 1 ≤ n * m) (hp : n * m ≤ 64) :
    Calls Try.prog 41 #[.int .u8 tag, .slice ao ([n, m] : List Int).length c] w (Rates w (0, [n * m], List.replicate n.toNat m)) := by
  have hg : goodS 5 [n, m] = true := by simp [goodS, twoS, hn, hn2, hm, hm2, hp]
  subst ht
  obtain ⟨b, off, rfl, hc⟩ := Is_at hx (i := 0) (by simp)
  obtain ⟨b', off', e, hd⟩ := Is_at hx (i := 1) (by simp)
  simp only [Option.some.injEq, Addr.mk.injEq, and_true] at e
  obtain ⟨rfl, rfl⟩ := e
  simp only [List.getElem_cons_zero, List.getElem_cons_succ] at hd
  simp only [Nat.add_zero, List.getElem_cons_zero] at hc
  go_enter Try.func41, Try.ntmps41
  have hwr : IntKind.i64.wrap (n * m) = n * m := IntWalk.i64_in _ (by omega)
  go_wp2_with (go_at_call 46; refine (good_any _ _ _ [n, m] _ (by omega) (by omega) hx (by first | omega | simp)).mono ?_; rw [hg]; rintro e w' ⟨rfl, nq, rfl⟩)
  go_region_held3 (fun w' => w'.cell? ⟨b, off, none⟩ = some (.int .i64 n) ∧ w'.cell? ⟨b, off + 1, none⟩ = some (.int .i64 m))
    (first | exact ⟨hc, hd⟩ | exact ⟨by assumption, by assumption⟩)
    (first | (go_at_call 47; refine (refPorts_i _ _ _ (by omega)).mono ?_; rintro e w' ⟨ao', c', rfl, hown', hnew'⟩; have hc2 : w'.cell? ⟨b, off, none⟩ = some (I n) := (by first | exact hnew'.cell hc | exact hnew'.cell (by assumption)); have hd2 : w'.cell? ⟨b, off + 1, none⟩ = some (I m) := (by first | exact hnew'.cell hd | exact hnew'.cell (by assumption))))
  all_goals
    go_wp2
    go_ret3
    exact Rates.mk (Keeps.drewN w _) (by assumption) (by assumption) hown' hnew' (by simp) (by simp)

set_option maxHeartbeats 1000000 in
theorem refOf_6 (tag : Int) (ao : Option Addr) (c : Nat) (n : Int) (w : World) (ht : tag = 6) (hx : SlAt w ao (Is [n])) (hn : 1 ≤ n) (hn2 : n ≤ 16) :
    Calls Try.prog 41 #[.int .u8 tag, .slice ao ([n] : List Int).length c] w (Rates w (0, List.replicate n.toNat 1, [1])) := by
  have hg : goodS 6 [n] = true := by simp [goodS, oneS, hn, hn2]
  subst ht
  obtain ⟨b, off, rfl, hc⟩ := Is_at hx (i := 0) (by simp)
  simp only [Nat.add_zero, List.getElem_cons_zero] at hc
  go_enter Try.func41, Try.ntmps41
  go_wp2_with (first | (go_at_call 46; refine (good_any _ _ _ [n] _ (by omega) (by omega) hx (by first | omega | simp)).mono ?_; rw [hg]; rintro e w' ⟨rfl, nq, rfl⟩) | (go_at_call 47; refine (refPorts_i _ _ _ (by omega)).mono ?_; rintro e w' ⟨ao', c', rfl, hown', hnew'⟩; have hc2 : w'.cell? ⟨b, off, none⟩ = some (I n) := (by first | exact hnew'.cell hc | exact hnew'.cell (by assumption))))
  all_goals
    go_ret3
    exact Rates.mk (Keeps.drewN w _) (by assumption) (by assumption) hown' hnew' (by simp) (by simp)

set_option maxHeartbeats 1000000 in
theorem refOf_9 (tag : Int) (ao : Option Addr) (c : Nat) (n : Int) (w : World) (ht : tag = 9) (hx : SlAt w ao (Is [n])) (hn : 1 ≤ n) (hn2 : n ≤ 16) :
    Calls Try.prog 41 #[.int .u8 tag, .slice ao ([n] : List Int).length c] w (Rates w (0, [1], List.replicate n.toNat 1)) := by
  have hg : goodS 9 [n] = true := by simp [goodS, oneS, hn, hn2]
  subst ht
  obtain ⟨b, off, rfl, hc⟩ := Is_at hx (i := 0) (by simp)
  simp only [Nat.add_zero, List.getElem_cons_zero] at hc
  go_enter Try.func41, Try.ntmps41
  go_wp2_with (go_at_call 46; refine (good_any _ _ _ [n] _ (by omega) (by omega) hx (by first | omega | simp)).mono ?_; rw [hg]; rintro e w' ⟨rfl, nq, rfl⟩)
  go_region_held3 (fun w' => w'.cell? ⟨b, off, none⟩ = some (.int .i64 n))
    (first | exact hc | assumption)
    (first | (go_at_call 47; refine (refPorts_i _ _ _ (by omega)).mono ?_; rintro e w' ⟨ao', c', rfl, hown', hnew'⟩; have hc2 : w'.cell? ⟨b, off, none⟩ = some (I n) := (by first | exact hnew'.cell hc | exact hnew'.cell (by assumption))))
  all_goals
    go_wp2
    go_ret3
    exact Rates.mk (Keeps.drewN w _) (by assumption) (by assumption) hown' hnew' (by simp) (by simp)

set_option maxHeartbeats 1000000 in
theorem refOf_11 (tag : Int) (ao : Option Addr) (c : Nat) (n : Int) (w : World) (ht : tag = 11) (hx : SlAt w ao (Is [n])) (hn : 1 ≤ n) (hn2 : n ≤ 64) :
    Calls Try.prog 41 #[.int .u8 tag, .slice ao ([n] : List Int).length c] w (Rates w (0, [n], [])) := by
  have hg : goodS 11 [n] = true := by simp [goodS, oneS, hn, hn2]
  subst ht
  obtain ⟨b, off, rfl, hc⟩ := Is_at hx (i := 0) (by simp)
  simp only [Nat.add_zero, List.getElem_cons_zero] at hc
  go_enter Try.func41, Try.ntmps41
  go_wp2_with (first | (go_at_call 46; refine (good_any _ _ _ [n] _ (by omega) (by omega) hx (by first | omega | simp)).mono ?_; rw [hg]; rintro e w' ⟨rfl, nq, rfl⟩) | (go_at_call 47; refine (refPorts_i _ _ _ (by omega)).mono ?_; rintro e w' ⟨ao', c', rfl, hown', hnew'⟩; have hc2 : w'.cell? ⟨b, off, none⟩ = some (I n) := (by first | exact hnew'.cell hc | exact hnew'.cell (by assumption))))
  all_goals
    go_ret3
    exact Rates.fst (Keeps.drewN w _) hown' hnew' (by simp)

set_option maxHeartbeats 1000000 in
theorem refOf_7 (tag : Int) (ao : Option Addr) (c : Nat)  (w : World) (ht : tag = 7) (hx : SlAt w ao (Is []))  :
    Calls Try.prog 41 #[.int .u8 tag, .slice ao ([] : List Int).length c] w (Rates w (0, [1, 1], [1])) := by
  have hg : goodS 7 [] = true := by rfl
  subst ht
  go_enter Try.func41, Try.ntmps41
  go_wp2_with (first | (go_at_call 46; refine (good_any _ _ _ [] _ (by omega) (by omega) hx (by first | omega | simp)).mono ?_; rw [hg]; rintro e w' ⟨rfl, nq, rfl⟩) | (go_at_call 47; refine (refPorts_i _ _ _ (by omega)).mono ?_; rintro e w' ⟨ao', c', rfl, hown', hnew'⟩))
  all_goals
    go_ret3
    exact Rates.mk (Keeps.drewN w _) (by assumption) (by assumption) hown' hnew' (by simp) (by simp)

set_option maxHeartbeats 1000000 in
theorem refOf_8 (tag : Int) (ao : Option Addr) (c : Nat)  (w : World) (ht : tag = 8) (hx : SlAt w ao (Is []))  :
    Calls Try.prog 41 #[.int .u8 tag, .slice ao ([] : List Int).length c] w (Rates w (0, [1], [1])) := by
  have hg : goodS 8 [] = true := by rfl
  subst ht
  go_enter Try.func41, Try.ntmps41
  go_wp2_with (first | (go_at_call 46; refine (good_any _ _ _ [] _ (by omega) (by omega) hx (by first | omega | simp)).mono ?_; rw [hg]; rintro e w' ⟨rfl, nq, rfl⟩) | (go_at_call 47; refine (refPorts_i _ _ _ (by omega)).mono ?_; rintro e w' ⟨ao', c', rfl, hown', hnew'⟩))
  all_goals
    go_ret3
    exact Rates.mk (Keeps.drewN w _) (by assumption) (by assumption) hown' hnew' (by simp) (by simp)

set_option maxHeartbeats 1000000 in
theorem refOf_1 (tag : Int) (ao : Option Addr) (c : Nat) (ps : List Int) (w : World) (ht : tag = 1) (hx : SlAt w ao (Is ps)) (hl1 : 1 ≤ ps.length) (hl2 : ps.length ≤ 16) :
    Calls Try.prog 41 #[.int .u8 tag, .slice ao (ps : List Int).length c] w (Rates w (0, [1], [1])) := by
  have hg : goodS 1 ps = true := by simp [goodS, hl1, hl2]
  subst ht
  go_enter Try.func41, Try.ntmps41
  go_wp2_with (first | (go_at_call 46; refine (good_any _ _ _ ps _ (by omega) (by omega) hx (by first | omega | simp)).mono ?_; rw [hg]; rintro e w' ⟨rfl, nq, rfl⟩) | (go_at_call 47; refine (refPorts_i _ _ _ (by omega)).mono ?_; rintro e w' ⟨ao', c', rfl, hown', hnew'⟩))
  all_goals
    go_ret3
    exact Rates.mk (Keeps.drewN w _) (by assumption) (by assumption) hown' hnew' (by simp) (by simp)

set_option maxHeartbeats 1000000 in
theorem refOf_10 (tag : Int) (ao : Option Addr) (c : Nat) (ps : List Int) (w : World) (ht : tag = 10) (hx : SlAt w ao (Is ps)) (hl1 : 2 ≤ ps.length) (hl2 : ps.length ≤ 2) :
    Calls Try.prog 41 #[.int .u8 tag, .slice ao (ps : List Int).length c] w (Rates w (0, [], [1])) := by
  have hg : goodS 10 ps = true := by simp [goodS]; omega
  subst ht
  go_enter Try.func41, Try.ntmps41
  go_wp2_with (first | (go_at_call 46; refine (good_any _ _ _ ps _ (by omega) (by omega) hx (by first | omega | simp)).mono ?_; rw [hg]; rintro e w' ⟨rfl, nq, rfl⟩) | (go_at_call 47; refine (refPorts_i _ _ _ (by omega)).mono ?_; rintro e w' ⟨ao', c', rfl, hown', hnew'⟩))
  all_goals
    go_ret3
    exact Rates.snd (Keeps.drewN w _) hown' hnew' (by simp)

end Go.Proofs.Ytijlgcbnoekmeaa
