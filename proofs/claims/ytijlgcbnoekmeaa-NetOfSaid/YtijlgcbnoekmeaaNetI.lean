/-
  Layer 10: a nil State; the example that every law ends with.
-/
import Derived.Test.YtijlgcbnoekmeaaNetH
import Derived.Test.YtijlgcbnoekmeaaNetR2
namespace Go.Proofs.Ytijlgcbnoekmeaa
open Go Go.RowKit
set_option linter.all false

theorem mayNil_any (w : World) (v : Int) : Calls Try.prog 26 #[.pointer none, I v] w fun e w' => e = .returned (.bool false) ∧ w = w' := by
  go_enter Try.func26, Try.ntmps26
  go_wp2
  go_ret
  exact ⟨rfl, rfl⟩
theorem shortNil_any (w : World) (v : Int) : Calls Try.prog 27 #[.pointer none, I v] w fun e w' => e = .returned (I 0) ∧ w = w' := by
  go_enter Try.func27, Try.ntmps27
  go_wp2
  go_ret
  exact ⟨rfl, rfl⟩
theorem fireNil_any (w : World) (v : Value) : Calls Try.prog 20 #[.pointer none, v] w fun e w' => e = .returned (I 0) ∧ w = w' := by
  go_enter Try.func20, Try.ntmps20
  go_wp2
  go_ret
  exact ⟨rfl, rfl⟩
theorem countsNil_any (w : World) : Calls Try.prog 24 #[.pointer none] w fun e w' => e = .returned (.slice none 0 0) ∧ w = w' := by
  go_enter Try.func24, Try.ntmps24
  go_wp2
  go_ret
  exact ⟨rfl, rfl⟩
theorem firedNil_any (w : World) : Calls Try.prog 23 #[.pointer none] w fun e w' => e = .returned (.slice none 0 0) ∧ w = w' := by
  go_enter Try.func23, Try.ntmps23
  go_wp2
  go_ret
  exact ⟨rfl, rfl⟩

/-- A firing turns nothing that was there before the State. -/
theorem New.fire {a w w' : World} {p : StD} {nodes : Nat} {arcs : List ArcD} {s : Mark} (h : New a w) (hst : St w p nodes arcs s) (hl : a.heap.size ≤ p.lo) (k : Keeps (fun k => k = p.bt ∨ k = p.bf) w w') : New a w' :=
  h.keeps k (fun i hi e => by have h1 := hst.rt; have h2 := hst.rf; omega)

theorem fire_is (w : World) (p : StD) (nodes : Nat) (arcs : List ArcD) (s : Mark) (ao : Option Addr) (c n : Nat) (vs : List Int) (M : Int) (k : Int) (s' : Mark) (h : St w p nodes arcs s) (hs : Sound nodes arcs) (hx : SlAt w ao (Is vs)) (hn : vs.length = n)
    (hk : ((fireS arcs nodes s vs).1 : Int) = k) (hs' : (fireS arcs nodes s vs).2 = s') (hsep : ∀ a, ao = some a → a.block < p.lo ∨ p.hi ≤ a.block) (hb : Bd M s) (hM2 : M + 12288 * n ≤ 8000000000000000000) (hM : 0 ≤ M) :
    Calls Try.prog 20 #[.pointer (some ⟨p.b, 0, none⟩), .slice ao n c] w fun e w' => e = .returned (I k) ∧ St w' p nodes arcs s' ∧ Keeps (fun k => k = p.bt ∨ k = p.bf) w w' := by
  subst hn hk hs'
  exact fire_any w p nodes arcs s ao c vs M h hs hx hsep hb hM2 hM
theorem sameI (w : World) (ao bo : Option Addr) (xs ys : List Int) (n m c d : Nat) (r : Bool) (hx : SlAt w ao (Is xs)) (hy : SlAt w bo (Is ys)) (hn : xs.length = n) (hm : ys.length = m) (hr : decide (xs = ys) = r) (lx : n ≤ 9223372036854775807) :
    Calls Try.prog 25 #[.slice ao n c, .slice bo m d] w fun e w' => e = .returned (.bool r) ∧ New w w' := by
  subst hn hm hr
  exact (sameInts_any w ao bo xs ys c d hx hy lx).mono fun e w' ⟨h, n, hw⟩ => ⟨h, hw ▸ (New.refl w).drewN n⟩

def arcs0 : List ArcD := [⟨0, 1, 2, 3, 0⟩]
theorem sound0 : Sound 2 arcs0 := by
  constructor <;> first | decide | (intro a ha; simp [arcs0] at ha; subst ha; simp)
def mark1 : Mark := ⟨[2], [1, 0]⟩
def mark2 : Mark := ⟨[1], [2, 1]⟩
theorem run1 : fireS arcs0 2 (start arcs0 2) [0, 1] = (1, mark1) := by rfl
theorem run2 : fireS arcs0 2 mark1 [0, 1] = (2, mark2) := by rfl
theorem short1 : shortS arcs0 2 mark1.toks 1 = 0 := by decide

set_option maxRecDepth 100000 in
set_option maxHeartbeats 2000000 in
theorem awake_any (w : World) : Calls Try.prog 16 #[] w fun e w' => e = .returned (.bool true) ∧ New w w' := by
  go_enter Try.func16, Try.ntmps16
  go_wp2_with fail
  refine (new_any _ 2 arcs0 _ _ sound0 (SlAt.lit _ _ _)).mono ?_
  rintro e w1 ⟨p, rfl, hst, hlo, n1⟩
  have k1 : New w w1 := ((New.refl w).alloc _).trans n1
  have hl1 : w.heap.size ≤ p.lo := by simp at hlo; omega
  have hz1 := hst.sz
  have b0 : Bd 256 (start arcs0 2) := bd_start sound0
  clear n1 hlo
  go_wp2_with fail
  refine (fire_is _ p 2 arcs0 _ _ _ 2 [0, 1] 256 1 mark1 (hst.new ((New.refl w1).alloc _)) sound0 (SlAt.lit _ _ _) rfl (by rw [run1]; rfl) (by rw [run1]) (fun a ha => .inr (by cases ha; exact hz1)) b0 (by decide) (by decide)).mono ?_
  rintro e w2 ⟨rfl, hst2, hk2⟩
  have k2 : New w w2 := (k1.alloc _).fire (hst.new ((New.refl w1).alloc _)) hl1 hk2
  clear hst k1 hk2 b0
  go_wp2_with fail
  refine (short_any _ p 2 arcs0 mark1 1 hst2 (by decide)).mono ?_
  rw [short1]
  rintro e w3 ⟨rfl, n3, rfl⟩
  have hst3 := hst2.drewN n3
  have k3 := k2.drewN n3
  clear hst2 k2
  generalize w2.drewN n3 = w3 at *
  have hz3 := hst3.sz
  have b1 : Bd 256 mark1 := by constructor <;> intro x hx <;> simp [mark1] at hx <;> omega
  go_wp2_with fail
  refine (fire_is _ p 2 arcs0 _ _ _ 2 [0, 1] 256 2 mark2 (hst3.new ((New.refl w3).alloc _)) sound0 (SlAt.lit _ _ _) rfl (by rw [run2]; rfl) (by rw [run2]) (fun a ha => .inr (by cases ha; exact hz3)) b1 (by decide) (by decide)).mono ?_
  rintro e w4 ⟨rfl, hst4, hk4⟩
  have k4 : New w w4 := (k3.alloc _).fire (hst3.new ((New.refl w3).alloc _)) hl1 hk4
  clear hst3 k3 hk4 b1
  go_wp2_with fail
  refine (counts_any _ p 2 arcs0 mark2 hst4 (by decide)).mono ?_
  rintro e w5 ⟨a5, c5, rfl, o5, n5⟩
  have hst5 := hst4.new n5
  have k5 := k4.trans n5
  go_wp2_with fail
  refine (sameI _ _ _ [1] [1] _ _ _ _ true (o5.sl.new ((New.refl w5).alloc _)) (SlAt.lit _ _ _) rfl rfl rfl (by decide)).mono ?_
  rintro e w6 ⟨rfl, n6⟩
  have hst6 := (hst5.new ((New.refl w5).alloc _)).new n6
  have k6 := (k5.alloc _).trans n6
  clear hst5 hst4 k5 k4 o5
  go_wp2_with fail
  refine (fired_any _ p 2 arcs0 mark2 hst6 (by decide)).mono ?_
  rintro e w7 ⟨a7, c7, rfl, o7, n7⟩
  have k7 := k6.trans n7
  go_wp2_with fail
  refine (sameI _ _ _ [2, 1] [2, 1] _ _ _ _ true (o7.sl.new ((New.refl w7).alloc _)) (SlAt.lit _ _ _) rfl rfl rfl (by decide)).mono ?_
  rintro e w8 ⟨rfl, n8⟩
  have k8 := (k7.alloc _).trans n8
  clear k7 k6 hst6
  go_wp2_with fail
  go_ret
  exact ⟨rfl, k8⟩
end Go.Proofs.Ytijlgcbnoekmeaa
