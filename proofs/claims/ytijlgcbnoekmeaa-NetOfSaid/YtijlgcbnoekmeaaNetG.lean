/-
  Layer 11: the drawn region of weave, by an invariant: what each operation's yield says, whatever order is drawn.
-/
import Derived.Test.YtijlgcbnoekmeaaNetE
import Derived.Test.YtijlgcbnoekmeaaRegion
import Derived.Deep.OwnRows
namespace Go.Proofs.Ytijlgcbnoekmeaa
open Go Go.RowKit
set_option linter.all false

/-- Operation j has yielded. -/
abbrev On (l : Array Bool) (j : Nat) : Prop := l.getD j false = true
theorem On_mark {l : Array Bool} {i : Nat} (j : Nat) (hi : i < l.size) : On (l.setIfInBounds i true) j ↔ (j = i ∨ On l j) := by
  unfold On
  rw [getD_mark _ _ _ _ hi]
  by_cases h : j = i <;> simp [h]
def upd (u : Nat → Value) (k : Nat) (v : Value) : Nat → Value := fun j => if j = k then v else u j
theorem upd_same (u : Nat → Value) (k : Nat) (v : Value) : upd u k v k = v := by simp [upd]
theorem upd_other (u : Nat → Value) {k j : Nat} (v : Value) (h : j ≠ k) : upd u k v j = u j := by simp [upd, h]

theorem own_tag {w : World} {B e size n : Nat} {v : Value} {xs : List Value} (h : w.ownsRow B e size v n xs) {k : Nat} (hk : v.ownBlock = some k) : ∃ cur, w.heap[k]? = some (.cells cur e (0, 0)) := by
  rcases h.2 with ⟨h0, h1⟩ | ⟨g, cap, cur, rfl, hb, hg, rest⟩
  · rw [h0] at hk; simp [Value.ownBlock] at hk
  · simp [Value.ownBlock] at hk; subst hk; exact ⟨cur, hg⟩

def freshRow (B m : Nat) (w : World) (v : Value) : Prop := ∃ L, v = .slice (some ⟨L, 0, none⟩) m m ∧ w.ownsRow B 37 1 v m (List.replicate m (.slice none 0 0))
def copyRow (B n : Nat) (xs : List Value) (w : World) (v : Value) : Prop := ∃ ao c, v = .slice ao n c ∧ w.ownsRow B 36 5 v n xs
def emptyRow (B : Nat) (w : World) (v : Value) : Prop := ∃ g, v = .slice (some ⟨g, 0, none⟩) 0 0 ∧ B ≤ g ∧ w.heap[g]? = some (.cells #[] 36 (0, 0))
def webCell (B : Nat) (cs : Array Value) (w : World) (v : Value) : Prop := ∃ g, v = .pointer (some ⟨g, 0, none⟩) ∧ B ≤ g ∧ w.heap[g]? = some (.cells cs 69 (0, 0))

theorem freshRow.keeps {S : Nat → Prop} {B m : Nat} {w w' : World} {v : Value} (h : freshRow B m w v) (k : Keeps S w w') (hS : ∀ g, S g → ∃ cur e, w.heap[g]? = some (.cells cur e (0, 0)) ∧ e ≠ 37) : freshRow B m w' v := by
  obtain ⟨L, e, ho⟩ := h
  refine ⟨L, e, k.owns ho (fun g hg hs => ?_)⟩
  obtain ⟨cur, h1⟩ := own_tag ho hg
  obtain ⟨cur', e', h2, hne⟩ := hS g hs
  rw [h1] at h2; cases h2; exact hne rfl
theorem copyRow.keeps {S : Nat → Prop} {B n : Nat} {xs : List Value} {w w' : World} {v : Value} (h : copyRow B n xs w v) (k : Keeps S w w') (hS : ∀ g, S g → ∃ cur e, w.heap[g]? = some (.cells cur e (0, 0)) ∧ e ≠ 36) : copyRow B n xs w' v := by
  obtain ⟨ao, c, e, ho⟩ := h
  refine ⟨ao, c, e, k.owns ho (fun g hg hs => ?_)⟩
  obtain ⟨cur, h1⟩ := own_tag ho hg
  obtain ⟨cur', e', h2, hne⟩ := hS g hs
  rw [h1] at h2; cases h2; exact hne rfl
theorem emptyRow.keeps {S : Nat → Prop} {B : Nat} {w w' : World} {v : Value} (h : emptyRow B w v) (k : Keeps S w w') (hS : ∀ g, ¬ S g) : emptyRow B w' v := by
  obtain ⟨g, e, hb, hg⟩ := h
  exact ⟨g, e, hb, k.heap hg (hS g)⟩
theorem webCell.keeps {S : Nat → Prop} {B : Nat} {cs : Array Value} {w w' : World} {v : Value} (h : webCell B cs w v) (k : Keeps S w w') (hS : ∀ g, S g → ∃ cur e, w.heap[g]? = some (.cells cur e (0, 0)) ∧ e ≠ 69) : webCell B cs w' v := by
  obtain ⟨g, e, hb, hg⟩ := h
  refine ⟨g, e, hb, k.heap hg (fun hs => ?_)⟩
  obtain ⟨cur', e', h2, hne⟩ := hS g hs
  rw [hg] at h2; cases h2; exact hne rfl

/-- What stands when the operations of l have yielded: u the slots' values. -/
structure Mk3 (H m n c : Nat) (ao : Option Addr) (xs : List Value) (W2 : World) (l : Array Bool) (w : World) (u : Nat → Value) : Prop where
  new : New W2 w
  f7 : On l 1 → u 7 = .pointer (some ⟨H, 1, none⟩)
  f8 : On l 2 → u 8 = .slice ao n c
  f10 : On l 4 → u 10 = .pointer (some ⟨H, 0, none⟩)
  f11 : On l 5 → u 11 = .int .i64 m
  f13 : On l 7 → u 13 = .pointer (some ⟨H, 0, none⟩)
  f14 : On l 8 → u 14 = .int .i64 m
  f6 : On l 0 → ¬ On l 3 → emptyRow W2.heap.size w (u 6)
  f9 : On l 3 → copyRow W2.heap.size n xs w (u 9)
  f12 : On l 6 → freshRow W2.heap.size m w (u 12)
  f15 : On l 9 → freshRow W2.heap.size m w (u 15)
  dis : On l 6 → On l 9 → u 12 ≠ u 15
  f16 : On l 10 → u 16 = .agg #[u 9, u 12, u 15]
  d16 : On l 10 → On l 3 ∧ On l 6 ∧ On l 9
  f3 : On l 11 → ¬ On l 12 → webCell W2.heap.size #[.slice none 0 0, .slice none 0 0, .slice none 0 0] w (u 3)
  f3' : On l 12 → webCell W2.heap.size #[u 9, u 12, u 15] w (u 3)
  d3 : On l 12 → On l 10 ∧ On l 11

variable {H m n c : Nat} {ao : Option Addr} {xs : List Value} {W2 w w' : World} {l : Array Bool} {u : Nat → Value}

theorem Mk3.world (h : Mk3 H m n c ao xs W2 l w u) (k : New w w') : Mk3 H m n c ao xs W2 l w' u where
  new := h.new.trans k
  f7 := h.f7
  f8 := h.f8
  f10 := h.f10
  f11 := h.f11
  f13 := h.f13
  f14 := h.f14
  f6 := fun a b => (h.f6 a b).keeps k (fun _ hs => hs)
  f9 := fun a => (h.f9 a).keeps k (fun _ hs => hs.elim)
  f12 := fun a => (h.f12 a).keeps k (fun _ hs => hs.elim)
  f15 := fun a => (h.f15 a).keeps k (fun _ hs => hs.elim)
  dis := h.dis
  f16 := h.f16
  d16 := h.d16
  f3 := fun a b => (h.f3 a b).keeps k (fun _ hs => hs.elim)
  f3' := fun a => (h.f3' a).keeps k (fun _ hs => hs.elim)
  d3 := h.d3

theorem off {i j : Nat} (h : On (l.setIfInBounds i true) j) (hne : j ≠ i) (hi : i < l.size) : On l j := ((On_mark j hi).1 h).resolve_left hne
theorem onto {i j : Nat} (h : On l j) (hi : i < l.size) : On (l.setIfInBounds i true) j := (On_mark j hi).2 (.inr h)
theorem mark {i : Nat} (hi : i < l.size) : On (l.setIfInBounds i true) i := (On_mark i hi).2 (.inl rfl)

theorem Mk3.s1 (h : Mk3 H m n c ao xs W2 l w u) (hl : l.size = 13)  : Mk3 H m n c ao xs W2 (l.setIfInBounds 1 true) w (upd u 7 (.pointer (some ⟨H, 1, none⟩))) where
  new := h.new
  f7 := fun _ => rfl
  f8 := fun a2 => h.f8 (off a2 (by decide) (by omega)) 
  f10 := fun a4 => h.f10 (off a4 (by decide) (by omega)) 
  f11 := fun a5 => h.f11 (off a5 (by decide) (by omega)) 
  f13 := fun a7 => h.f13 (off a7 (by decide) (by omega)) 
  f14 := fun a8 => h.f14 (off a8 (by decide) (by omega)) 
  f6 := fun a0 b3 => h.f6 (off a0 (by decide) (by omega)) (fun x => b3 (onto x (by omega)))
  f9 := fun a3 => h.f9 (off a3 (by decide) (by omega)) 
  f12 := fun a6 => h.f12 (off a6 (by decide) (by omega)) 
  f15 := fun a9 => h.f15 (off a9 (by decide) (by omega)) 
  dis := fun a6 a9 => h.dis (off a6 (by decide) (by omega)) (off a9 (by decide) (by omega)) 
  f16 := fun a10 => h.f16 (off a10 (by decide) (by omega)) 
  d16 := fun a10 => have x := h.d16 (off a10 (by decide) (by omega)) ; ⟨onto x.1 (by omega), onto x.2.1 (by omega), onto x.2.2 (by omega)⟩
  f3 := fun a11 b12 => h.f3 (off a11 (by decide) (by omega)) (fun x => b12 (onto x (by omega)))
  f3' := fun a12 => h.f3' (off a12 (by decide) (by omega)) 
  d3 := fun a12 => have x := h.d3 (off a12 (by decide) (by omega)) ; ⟨onto x.1 (by omega), onto x.2 (by omega)⟩

theorem Mk3.s2 (h : Mk3 H m n c ao xs W2 l w u) (hl : l.size = 13)  : Mk3 H m n c ao xs W2 (l.setIfInBounds 2 true) w (upd u 8 (.slice ao n c)) where
  new := h.new
  f7 := fun a1 => h.f7 (off a1 (by decide) (by omega)) 
  f8 := fun _ => rfl
  f10 := fun a4 => h.f10 (off a4 (by decide) (by omega)) 
  f11 := fun a5 => h.f11 (off a5 (by decide) (by omega)) 
  f13 := fun a7 => h.f13 (off a7 (by decide) (by omega)) 
  f14 := fun a8 => h.f14 (off a8 (by decide) (by omega)) 
  f6 := fun a0 b3 => h.f6 (off a0 (by decide) (by omega)) (fun x => b3 (onto x (by omega)))
  f9 := fun a3 => h.f9 (off a3 (by decide) (by omega)) 
  f12 := fun a6 => h.f12 (off a6 (by decide) (by omega)) 
  f15 := fun a9 => h.f15 (off a9 (by decide) (by omega)) 
  dis := fun a6 a9 => h.dis (off a6 (by decide) (by omega)) (off a9 (by decide) (by omega)) 
  f16 := fun a10 => h.f16 (off a10 (by decide) (by omega)) 
  d16 := fun a10 => have x := h.d16 (off a10 (by decide) (by omega)) ; ⟨onto x.1 (by omega), onto x.2.1 (by omega), onto x.2.2 (by omega)⟩
  f3 := fun a11 b12 => h.f3 (off a11 (by decide) (by omega)) (fun x => b12 (onto x (by omega)))
  f3' := fun a12 => h.f3' (off a12 (by decide) (by omega)) 
  d3 := fun a12 => have x := h.d3 (off a12 (by decide) (by omega)) ; ⟨onto x.1 (by omega), onto x.2 (by omega)⟩

theorem Mk3.s4 (h : Mk3 H m n c ao xs W2 l w u) (hl : l.size = 13)  : Mk3 H m n c ao xs W2 (l.setIfInBounds 4 true) w (upd u 10 (.pointer (some ⟨H, 0, none⟩))) where
  new := h.new
  f7 := fun a1 => h.f7 (off a1 (by decide) (by omega)) 
  f8 := fun a2 => h.f8 (off a2 (by decide) (by omega)) 
  f10 := fun _ => rfl
  f11 := fun a5 => h.f11 (off a5 (by decide) (by omega)) 
  f13 := fun a7 => h.f13 (off a7 (by decide) (by omega)) 
  f14 := fun a8 => h.f14 (off a8 (by decide) (by omega)) 
  f6 := fun a0 b3 => h.f6 (off a0 (by decide) (by omega)) (fun x => b3 (onto x (by omega)))
  f9 := fun a3 => h.f9 (off a3 (by decide) (by omega)) 
  f12 := fun a6 => h.f12 (off a6 (by decide) (by omega)) 
  f15 := fun a9 => h.f15 (off a9 (by decide) (by omega)) 
  dis := fun a6 a9 => h.dis (off a6 (by decide) (by omega)) (off a9 (by decide) (by omega)) 
  f16 := fun a10 => h.f16 (off a10 (by decide) (by omega)) 
  d16 := fun a10 => have x := h.d16 (off a10 (by decide) (by omega)) ; ⟨onto x.1 (by omega), onto x.2.1 (by omega), onto x.2.2 (by omega)⟩
  f3 := fun a11 b12 => h.f3 (off a11 (by decide) (by omega)) (fun x => b12 (onto x (by omega)))
  f3' := fun a12 => h.f3' (off a12 (by decide) (by omega)) 
  d3 := fun a12 => have x := h.d3 (off a12 (by decide) (by omega)) ; ⟨onto x.1 (by omega), onto x.2 (by omega)⟩

theorem Mk3.s5 (h : Mk3 H m n c ao xs W2 l w u) (hl : l.size = 13)  : Mk3 H m n c ao xs W2 (l.setIfInBounds 5 true) w (upd u 11 (.int .i64 m)) where
  new := h.new
  f7 := fun a1 => h.f7 (off a1 (by decide) (by omega)) 
  f8 := fun a2 => h.f8 (off a2 (by decide) (by omega)) 
  f10 := fun a4 => h.f10 (off a4 (by decide) (by omega)) 
  f11 := fun _ => rfl
  f13 := fun a7 => h.f13 (off a7 (by decide) (by omega)) 
  f14 := fun a8 => h.f14 (off a8 (by decide) (by omega)) 
  f6 := fun a0 b3 => h.f6 (off a0 (by decide) (by omega)) (fun x => b3 (onto x (by omega)))
  f9 := fun a3 => h.f9 (off a3 (by decide) (by omega)) 
  f12 := fun a6 => h.f12 (off a6 (by decide) (by omega)) 
  f15 := fun a9 => h.f15 (off a9 (by decide) (by omega)) 
  dis := fun a6 a9 => h.dis (off a6 (by decide) (by omega)) (off a9 (by decide) (by omega)) 
  f16 := fun a10 => h.f16 (off a10 (by decide) (by omega)) 
  d16 := fun a10 => have x := h.d16 (off a10 (by decide) (by omega)) ; ⟨onto x.1 (by omega), onto x.2.1 (by omega), onto x.2.2 (by omega)⟩
  f3 := fun a11 b12 => h.f3 (off a11 (by decide) (by omega)) (fun x => b12 (onto x (by omega)))
  f3' := fun a12 => h.f3' (off a12 (by decide) (by omega)) 
  d3 := fun a12 => have x := h.d3 (off a12 (by decide) (by omega)) ; ⟨onto x.1 (by omega), onto x.2 (by omega)⟩

theorem Mk3.s7 (h : Mk3 H m n c ao xs W2 l w u) (hl : l.size = 13)  : Mk3 H m n c ao xs W2 (l.setIfInBounds 7 true) w (upd u 13 (.pointer (some ⟨H, 0, none⟩))) where
  new := h.new
  f7 := fun a1 => h.f7 (off a1 (by decide) (by omega)) 
  f8 := fun a2 => h.f8 (off a2 (by decide) (by omega)) 
  f10 := fun a4 => h.f10 (off a4 (by decide) (by omega)) 
  f11 := fun a5 => h.f11 (off a5 (by decide) (by omega)) 
  f13 := fun _ => rfl
  f14 := fun a8 => h.f14 (off a8 (by decide) (by omega)) 
  f6 := fun a0 b3 => h.f6 (off a0 (by decide) (by omega)) (fun x => b3 (onto x (by omega)))
  f9 := fun a3 => h.f9 (off a3 (by decide) (by omega)) 
  f12 := fun a6 => h.f12 (off a6 (by decide) (by omega)) 
  f15 := fun a9 => h.f15 (off a9 (by decide) (by omega)) 
  dis := fun a6 a9 => h.dis (off a6 (by decide) (by omega)) (off a9 (by decide) (by omega)) 
  f16 := fun a10 => h.f16 (off a10 (by decide) (by omega)) 
  d16 := fun a10 => have x := h.d16 (off a10 (by decide) (by omega)) ; ⟨onto x.1 (by omega), onto x.2.1 (by omega), onto x.2.2 (by omega)⟩
  f3 := fun a11 b12 => h.f3 (off a11 (by decide) (by omega)) (fun x => b12 (onto x (by omega)))
  f3' := fun a12 => h.f3' (off a12 (by decide) (by omega)) 
  d3 := fun a12 => have x := h.d3 (off a12 (by decide) (by omega)) ; ⟨onto x.1 (by omega), onto x.2 (by omega)⟩

theorem Mk3.s8 (h : Mk3 H m n c ao xs W2 l w u) (hl : l.size = 13)  : Mk3 H m n c ao xs W2 (l.setIfInBounds 8 true) w (upd u 14 (.int .i64 m)) where
  new := h.new
  f7 := fun a1 => h.f7 (off a1 (by decide) (by omega)) 
  f8 := fun a2 => h.f8 (off a2 (by decide) (by omega)) 
  f10 := fun a4 => h.f10 (off a4 (by decide) (by omega)) 
  f11 := fun a5 => h.f11 (off a5 (by decide) (by omega)) 
  f13 := fun a7 => h.f13 (off a7 (by decide) (by omega)) 
  f14 := fun _ => rfl
  f6 := fun a0 b3 => h.f6 (off a0 (by decide) (by omega)) (fun x => b3 (onto x (by omega)))
  f9 := fun a3 => h.f9 (off a3 (by decide) (by omega)) 
  f12 := fun a6 => h.f12 (off a6 (by decide) (by omega)) 
  f15 := fun a9 => h.f15 (off a9 (by decide) (by omega)) 
  dis := fun a6 a9 => h.dis (off a6 (by decide) (by omega)) (off a9 (by decide) (by omega)) 
  f16 := fun a10 => h.f16 (off a10 (by decide) (by omega)) 
  d16 := fun a10 => have x := h.d16 (off a10 (by decide) (by omega)) ; ⟨onto x.1 (by omega), onto x.2.1 (by omega), onto x.2.2 (by omega)⟩
  f3 := fun a11 b12 => h.f3 (off a11 (by decide) (by omega)) (fun x => b12 (onto x (by omega)))
  f3' := fun a12 => h.f3' (off a12 (by decide) (by omega)) 
  d3 := fun a12 => have x := h.d3 (off a12 (by decide) (by omega)) ; ⟨onto x.1 (by omega), onto x.2 (by omega)⟩

theorem Mk3.s0 (h : Mk3 H m n c ao xs W2 l w u) (hl : l.size = 13) {v : Value} (hv : emptyRow W2.heap.size w v) : Mk3 H m n c ao xs W2 (l.setIfInBounds 0 true) w (upd u 6 v) where
  new := h.new
  f7 := fun a1 => h.f7 (off a1 (by decide) (by omega)) 
  f8 := fun a2 => h.f8 (off a2 (by decide) (by omega)) 
  f10 := fun a4 => h.f10 (off a4 (by decide) (by omega)) 
  f11 := fun a5 => h.f11 (off a5 (by decide) (by omega)) 
  f13 := fun a7 => h.f13 (off a7 (by decide) (by omega)) 
  f14 := fun a8 => h.f14 (off a8 (by decide) (by omega)) 
  f6 := fun _ _ => hv
  f9 := fun a3 => h.f9 (off a3 (by decide) (by omega)) 
  f12 := fun a6 => h.f12 (off a6 (by decide) (by omega)) 
  f15 := fun a9 => h.f15 (off a9 (by decide) (by omega)) 
  dis := fun a6 a9 => h.dis (off a6 (by decide) (by omega)) (off a9 (by decide) (by omega)) 
  f16 := fun a10 => h.f16 (off a10 (by decide) (by omega)) 
  d16 := fun a10 => have x := h.d16 (off a10 (by decide) (by omega)) ; ⟨onto x.1 (by omega), onto x.2.1 (by omega), onto x.2.2 (by omega)⟩
  f3 := fun a11 b12 => h.f3 (off a11 (by decide) (by omega)) (fun x => b12 (onto x (by omega)))
  f3' := fun a12 => h.f3' (off a12 (by decide) (by omega)) 
  d3 := fun a12 => have x := h.d3 (off a12 (by decide) (by omega)) ; ⟨onto x.1 (by omega), onto x.2 (by omega)⟩

theorem Mk3.s6 (h : Mk3 H m n c ao xs W2 l w u) (hl : l.size = 13) {v : Value} (hn : ¬ On l 6) (hv : freshRow W2.heap.size m w v) (hd : On l 9 → v ≠ u 15) : Mk3 H m n c ao xs W2 (l.setIfInBounds 6 true) w (upd u 12 v) where
  new := h.new
  f7 := fun a1 => h.f7 (off a1 (by decide) (by omega)) 
  f8 := fun a2 => h.f8 (off a2 (by decide) (by omega)) 
  f10 := fun a4 => h.f10 (off a4 (by decide) (by omega)) 
  f11 := fun a5 => h.f11 (off a5 (by decide) (by omega)) 
  f13 := fun a7 => h.f13 (off a7 (by decide) (by omega)) 
  f14 := fun a8 => h.f14 (off a8 (by decide) (by omega)) 
  f6 := fun a0 b3 => h.f6 (off a0 (by decide) (by omega)) (fun x => b3 (onto x (by omega)))
  f9 := fun a3 => h.f9 (off a3 (by decide) (by omega)) 
  f12 := fun _ => hv
  f15 := fun a9 => h.f15 (off a9 (by decide) (by omega)) 
  dis := fun _ a9 => hd (off a9 (by decide) (by omega))
  f16 := fun a10 => (hn (h.d16 (off a10 (by decide) (by omega))).2.1).elim
  d16 := fun a10 => have x := h.d16 (off a10 (by decide) (by omega)) ; ⟨onto x.1 (by omega), onto x.2.1 (by omega), onto x.2.2 (by omega)⟩
  f3 := fun a11 b12 => h.f3 (off a11 (by decide) (by omega)) (fun x => b12 (onto x (by omega)))
  f3' := fun a12 => (hn (h.d16 (h.d3 (off a12 (by decide) (by omega))).1).2.1).elim
  d3 := fun a12 => have x := h.d3 (off a12 (by decide) (by omega)) ; ⟨onto x.1 (by omega), onto x.2 (by omega)⟩

theorem Mk3.s9 (h : Mk3 H m n c ao xs W2 l w u) (hl : l.size = 13) {v : Value} (hn : ¬ On l 9) (hv : freshRow W2.heap.size m w v) (hd : On l 6 → u 12 ≠ v) : Mk3 H m n c ao xs W2 (l.setIfInBounds 9 true) w (upd u 15 v) where
  new := h.new
  f7 := fun a1 => h.f7 (off a1 (by decide) (by omega)) 
  f8 := fun a2 => h.f8 (off a2 (by decide) (by omega)) 
  f10 := fun a4 => h.f10 (off a4 (by decide) (by omega)) 
  f11 := fun a5 => h.f11 (off a5 (by decide) (by omega)) 
  f13 := fun a7 => h.f13 (off a7 (by decide) (by omega)) 
  f14 := fun a8 => h.f14 (off a8 (by decide) (by omega)) 
  f6 := fun a0 b3 => h.f6 (off a0 (by decide) (by omega)) (fun x => b3 (onto x (by omega)))
  f9 := fun a3 => h.f9 (off a3 (by decide) (by omega)) 
  f12 := fun a6 => h.f12 (off a6 (by decide) (by omega)) 
  f15 := fun _ => hv
  dis := fun a6 _ => hd (off a6 (by decide) (by omega))
  f16 := fun a10 => (hn (h.d16 (off a10 (by decide) (by omega))).2.2).elim
  d16 := fun a10 => have x := h.d16 (off a10 (by decide) (by omega)) ; ⟨onto x.1 (by omega), onto x.2.1 (by omega), onto x.2.2 (by omega)⟩
  f3 := fun a11 b12 => h.f3 (off a11 (by decide) (by omega)) (fun x => b12 (onto x (by omega)))
  f3' := fun a12 => (hn (h.d16 (h.d3 (off a12 (by decide) (by omega))).1).2.2).elim
  d3 := fun a12 => have x := h.d3 (off a12 (by decide) (by omega)) ; ⟨onto x.1 (by omega), onto x.2 (by omega)⟩

theorem Mk3.s3 (h : Mk3 H m n c ao xs W2 l w u) (hl : l.size = 13) {v : Value} {S : Nat → Prop} (hn : ¬ On l 3) (hv : copyRow W2.heap.size n xs w' v) (hk : Keeps S w w') (hb : ∀ g, S g → W2.heap.size ≤ g) (hS : ∀ g, S g → ∃ cur, w.heap[g]? = some (.cells cur 36 (0, 0))) : Mk3 H m n c ao xs W2 (l.setIfInBounds 3 true) w' (upd u 9 v) where
  new := h.new.keeps hk (fun g hg hs => by have := hb g hs; omega)
  f7 := fun a1 => h.f7 (off a1 (by decide) (by omega)) 
  f8 := fun a2 => h.f8 (off a2 (by decide) (by omega)) 
  f10 := fun a4 => h.f10 (off a4 (by decide) (by omega)) 
  f11 := fun a5 => h.f11 (off a5 (by decide) (by omega)) 
  f13 := fun a7 => h.f13 (off a7 (by decide) (by omega)) 
  f14 := fun a8 => h.f14 (off a8 (by decide) (by omega)) 
  f6 := fun _ b3 => (b3 (mark (by omega))).elim
  f9 := fun _ => hv
  f12 := fun a6 => (h.f12 (off a6 (by decide) (by omega))).keeps hk (fun g hs => by obtain ⟨cur, hg⟩ := hS g hs; exact ⟨cur, _, hg, by decide⟩)
  f15 := fun a9 => (h.f15 (off a9 (by decide) (by omega))).keeps hk (fun g hs => by obtain ⟨cur, hg⟩ := hS g hs; exact ⟨cur, _, hg, by decide⟩)
  dis := fun a6 a9 => h.dis (off a6 (by decide) (by omega)) (off a9 (by decide) (by omega)) 
  f16 := fun a10 => (hn (h.d16 (off a10 (by decide) (by omega))).1).elim
  d16 := fun a10 => have x := h.d16 (off a10 (by decide) (by omega)) ; ⟨onto x.1 (by omega), onto x.2.1 (by omega), onto x.2.2 (by omega)⟩
  f3 := fun a11 b12 => (h.f3 (off a11 (by decide) (by omega)) (fun x => b12 (onto x (by omega)))).keeps hk (fun g hs => by obtain ⟨cur, hg⟩ := hS g hs; exact ⟨cur, _, hg, by decide⟩)
  f3' := fun a12 => (hn (h.d16 (h.d3 (off a12 (by decide) (by omega))).1).1).elim
  d3 := fun a12 => have x := h.d3 (off a12 (by decide) (by omega)) ; ⟨onto x.1 (by omega), onto x.2 (by omega)⟩

theorem Mk3.s10 (h : Mk3 H m n c ao xs W2 l w u) (hl : l.size = 13) (hn : ¬ On l 10) (h3 : On l 3) (h6 : On l 6) (h9 : On l 9) : Mk3 H m n c ao xs W2 (l.setIfInBounds 10 true) w (upd u 16 (.agg #[u 9, u 12, u 15])) where
  new := h.new
  f7 := fun a1 => h.f7 (off a1 (by decide) (by omega)) 
  f8 := fun a2 => h.f8 (off a2 (by decide) (by omega)) 
  f10 := fun a4 => h.f10 (off a4 (by decide) (by omega)) 
  f11 := fun a5 => h.f11 (off a5 (by decide) (by omega)) 
  f13 := fun a7 => h.f13 (off a7 (by decide) (by omega)) 
  f14 := fun a8 => h.f14 (off a8 (by decide) (by omega)) 
  f6 := fun a0 b3 => h.f6 (off a0 (by decide) (by omega)) (fun x => b3 (onto x (by omega)))
  f9 := fun a3 => h.f9 (off a3 (by decide) (by omega)) 
  f12 := fun a6 => h.f12 (off a6 (by decide) (by omega)) 
  f15 := fun a9 => h.f15 (off a9 (by decide) (by omega)) 
  dis := fun a6 a9 => h.dis (off a6 (by decide) (by omega)) (off a9 (by decide) (by omega)) 
  f16 := fun _ => rfl
  d16 := fun _ => ⟨onto h3 (by omega), onto h6 (by omega), onto h9 (by omega)⟩
  f3 := fun a11 b12 => h.f3 (off a11 (by decide) (by omega)) (fun x => b12 (onto x (by omega)))
  f3' := fun a12 => (hn (h.d3 (off a12 (by decide) (by omega))).1).elim
  d3 := fun a12 => (hn (h.d3 (off a12 (by decide) (by omega))).1).elim

theorem Mk3.s11 (h : Mk3 H m n c ao xs W2 l w u) (hl : l.size = 13) {v : Value} (hn : ¬ On l 11) (hv : webCell W2.heap.size #[.slice none 0 0, .slice none 0 0, .slice none 0 0] w v) : Mk3 H m n c ao xs W2 (l.setIfInBounds 11 true) w (upd u 3 v) where
  new := h.new
  f7 := fun a1 => h.f7 (off a1 (by decide) (by omega)) 
  f8 := fun a2 => h.f8 (off a2 (by decide) (by omega)) 
  f10 := fun a4 => h.f10 (off a4 (by decide) (by omega)) 
  f11 := fun a5 => h.f11 (off a5 (by decide) (by omega)) 
  f13 := fun a7 => h.f13 (off a7 (by decide) (by omega)) 
  f14 := fun a8 => h.f14 (off a8 (by decide) (by omega)) 
  f6 := fun a0 b3 => h.f6 (off a0 (by decide) (by omega)) (fun x => b3 (onto x (by omega)))
  f9 := fun a3 => h.f9 (off a3 (by decide) (by omega)) 
  f12 := fun a6 => h.f12 (off a6 (by decide) (by omega)) 
  f15 := fun a9 => h.f15 (off a9 (by decide) (by omega)) 
  dis := fun a6 a9 => h.dis (off a6 (by decide) (by omega)) (off a9 (by decide) (by omega)) 
  f16 := fun a10 => h.f16 (off a10 (by decide) (by omega)) 
  d16 := fun a10 => have x := h.d16 (off a10 (by decide) (by omega)) ; ⟨onto x.1 (by omega), onto x.2.1 (by omega), onto x.2.2 (by omega)⟩
  f3 := fun _ _ => hv
  f3' := fun a12 => (hn (h.d3 (off a12 (by decide) (by omega))).2).elim
  d3 := fun a12 => (hn (h.d3 (off a12 (by decide) (by omega))).2).elim

theorem Mk3.s12 (h : Mk3 H m n c ao xs W2 l w u) (hl : l.size = 13) {S : Nat → Prop} (h3 : On l 3) (h10 : On l 10) (h11 : On l 11) (hv : webCell W2.heap.size #[u 9, u 12, u 15] w' (u 3)) (hk : Keeps S w w') (hb : ∀ g, S g → W2.heap.size ≤ g) (hS : ∀ g, S g → ∃ cur, w.heap[g]? = some (.cells cur 69 (0, 0))) : Mk3 H m n c ao xs W2 (l.setIfInBounds 12 true) w' (u) where
  new := h.new.keeps hk (fun g hg hs => by have := hb g hs; omega)
  f7 := fun a1 => h.f7 (off a1 (by decide) (by omega)) 
  f8 := fun a2 => h.f8 (off a2 (by decide) (by omega)) 
  f10 := fun a4 => h.f10 (off a4 (by decide) (by omega)) 
  f11 := fun a5 => h.f11 (off a5 (by decide) (by omega)) 
  f13 := fun a7 => h.f13 (off a7 (by decide) (by omega)) 
  f14 := fun a8 => h.f14 (off a8 (by decide) (by omega)) 
  f6 := fun _ b3 => (b3 (onto h3 (by omega))).elim
  f9 := fun _ => (h.f9 h3).keeps hk (fun g hs => by obtain ⟨cur, hg⟩ := hS g hs; exact ⟨cur, _, hg, by decide⟩)
  f12 := fun a6 => (h.f12 (off a6 (by decide) (by omega))).keeps hk (fun g hs => by obtain ⟨cur, hg⟩ := hS g hs; exact ⟨cur, _, hg, by decide⟩)
  f15 := fun a9 => (h.f15 (off a9 (by decide) (by omega))).keeps hk (fun g hs => by obtain ⟨cur, hg⟩ := hS g hs; exact ⟨cur, _, hg, by decide⟩)
  dis := fun a6 a9 => h.dis (off a6 (by decide) (by omega)) (off a9 (by decide) (by omega)) 
  f16 := fun a10 => h.f16 (off a10 (by decide) (by omega)) 
  d16 := fun a10 => have x := h.d16 (off a10 (by decide) (by omega)) ; ⟨onto x.1 (by omega), onto x.2.1 (by omega), onto x.2.2 (by omega)⟩
  f3 := fun _ b12 => (b12 (mark (by omega))).elim
  f3' := fun _ => hv
  d3 := fun _ => ⟨onto h10 (by omega), onto h11 (by omega)⟩

end Go.Proofs.Ytijlgcbnoekmeaa
