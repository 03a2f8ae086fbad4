/-
  Layer 8: a graph that is lent: its memory.
-/
import Derived.Test.YtpljnapglbmdlaaGsE
import Derived.Test.YtpljnapglbmdlaaGsD
namespace Go.Proofs.Ytpljnapglbmdlaa
open Go Go.RowKit Go.Joins
set_option linter.all false

abbrev markI : List Value := Is [-7770777, -7770777, -7770777, -7770777]
/-- A list of numbers that is lent: a block of its own, four marks behind it. -/
def LtB (w : World) (a : Option Addr) (c : Nat) (xs : List Int) : Prop := ∃ b, a = some ⟨b, 0, none⟩ ∧ c = xs.length + 4 ∧ w.heap[b]? = some (.cells ((Is xs ++ markI).toArray) 3 (0, 0))
theorem LtB.keeps {S : Nat → Prop} {w w' : World} {a : Option Addr} {c : Nat} {xs : List Int} (h : LtB w a c xs) (k : Keeps S w w') (hS : ∀ g, S g → ∃ cur t fr, w.heap[g]? = some (.cells cur t fr) ∧ t ≠ 3) : LtB w' a c xs := by
  obtain ⟨b, e1, e2, hb⟩ := h
  refine ⟨b, e1, e2, k.heap hb (fun hx => ?_)⟩
  obtain ⟨cur, t, fr, h1, h2⟩ := hS b hx
  rw [hb] at h1; cases h1; exact h2 rfl
theorem LtB.new {w w' : World} {a : Option Addr} {c : Nat} {xs : List Int} (h : LtB w a c xs) (k : New w w') : LtB w' a c xs := h.keeps k (fun g hg => hg.elim)
theorem LtB.own {w : World} {B b : Nat} {xs : List Int} (hb : w.heap[b]? = some (.cells ((Is xs ++ markI).toArray) 3 (0, 0))) (hB : B ≤ b) (hn : xs.length ≤ 1048576) : OwnI w B (some ⟨b, 0, none⟩) (xs.length + 4) xs := by
  refine ⟨by simp [Is], .inr ⟨b, xs.length + 4, _, rfl, hB, hb, by omega, by unfold maxLen; omega, ?_, ?_⟩⟩
  · simp [Is, markI]
  · have hl : (Is xs).length = xs.length * 1 := by simp [Is]
    rw [← hl]
    exact List.take_left
abbrev zG4 : Array Value := #[.string ⟨#[]⟩, .slice none 0 0, .slice none 0 0, .slice none 0 0, .slice none 0 0]
/-- How far the lending has come. -/
structure LSt (w : World) (g : Gr) (P : Nat) (q : Gr) (n1 n2 : Nat) (w' : World) : Prop where
  own : GrOwn w' w.heap.size q
  bl : w'.heap[P]? = some (.cells #[.string g.name, .slice q.aa n1 q.ac, .slice q.ea n2 q.ec, .slice none 0 0, .slice none 0 0] 26 (0, 0))
  la : ∀ x ∈ q.acts, x = mkAct ∨ LtB w' x.a x.c x.xs
  le : ∀ x ∈ q.edges, x = mkEdge ∨ LtB w' x.a x.c x.xs
  nw : New w w'
  hg : w'.heap[w.heap.size]? = some (.cells g.cs 26 (0, 0))
  hr : w'.heap[w.heap.size + 1]? = some (.cells zG4 26 (0, 0))
  hP : w.heap.size + 1 < P
theorem LSt.new {w w1 w2 : World} {g : Gr} {P n1 n2 : Nat} {q : Gr} (h : LSt w g P q n1 n2 w1) (k : New w1 w2) : LSt w g P q n1 n2 w2 :=
  ⟨h.own.new k, Keeps.heap k h.bl (fun h => h), fun x hx => (h.la x hx).imp id (fun y => y.new k), fun x hx => (h.le x hx).imp id (fun y => y.new k), h.nw.trans k, Keeps.heap k h.hg (fun h => h), Keeps.heap k h.hr (fun h => h), h.hP⟩
/-- The graph's own block written. -/
theorem LSt.set {w w1 : World} {g : Gr} {P n1 n2 : Nat} {q q' : Gr} (m1 m2 : Nat) {v : Value} {i : Nat} (h : LSt w g P q n1 n2 w1) {w3 : World} {a : Option Addr} {T : TypeId} (hown : GrOwn w3 w.heap.size q') (k : Keeps (blk a) w1 w3) (ht : ∀ b, blk a b → ∃ cur, w1.heap[b]? = some (.cells cur T (0, 0))) (hT : T ≠ 26 ∧ T ≠ 3) (hlo : ∀ b, blk a b → w.heap.size ≤ b)
    (hc : (#[.string g.name, .slice q.aa n1 q.ac, .slice q.ea n2 q.ec, .slice none 0 0, .slice none 0 0] : Array Value).setIfInBounds i v = #[.string g.name, .slice q'.aa m1 q'.ac, .slice q'.ea m2 q'.ec, .slice none 0 0, .slice none 0 0])
    (hla : ∀ x ∈ q'.acts, x ∈ q.acts ∨ x = mkAct ∨ LtB w3 x.a x.c x.xs) (hle : ∀ x ∈ q'.edges, x ∈ q.edges ∨ x = mkEdge ∨ LtB w3 x.a x.c x.xs) : LSt w g P q' m1 m2 (w3.setCell ⟨P, i, none⟩ v) := by
  have hP := h.hP
  have hh : ∀ {b : Nat} {cs : Array Value} {t : TypeId}, w1.heap[b]? = some (.cells cs t (0, 0)) → t ≠ T → w3.heap[b]? = some (.cells cs t (0, 0)) := fun hb hne => k.heap hb (fun hx => by
    obtain ⟨cur, hcx⟩ := ht _ hx
    rw [hb] at hcx; simp at hcx; exact hne hcx.2)
  have hP3 := hh h.bl (Ne.symm hT.1)
  have ks : Keeps (fun k => k = P) w3 (w3.setCell ⟨P, i, none⟩ v) := Keeps.setCell w3 _ _ rfl
  have htP : ∀ g, g = P → ∃ cur t fr, w3.heap[g]? = some (.cells cur t fr) ∧ t ≠ 3 := fun g hg => ⟨_, _, _, hg ▸ hP3, by decide⟩
  have hk3 : ∀ b, blk a b → ∃ cur t fr, w1.heap[b]? = some (.cells cur t fr) ∧ t ≠ 3 := fun b hb => by
    obtain ⟨cur, hc⟩ := ht b hb; exact ⟨cur, _, _, hc, hT.2⟩
  refine ⟨hown.other ks (fun g hg => .inr ⟨_, _, _, hg ▸ hP3, by decide⟩), ?_, fun x hx => ?_, fun x hx => ?_, ?_, ks.heap (hh h.hg (Ne.symm hT.1)) (by omega), ks.heap (hh h.hr (Ne.symm hT.1)) (by omega), hP⟩
  · rw [block_setCell hP3, hc]
  · rcases hla x hx with h1 | h1 | h1
    · exact (h.la x h1).imp id (fun y => (y.keeps k hk3).keeps ks htP)
    · exact .inl h1
    · exact .inr (h1.keeps ks htP)
  · rcases hle x hx with h1 | h1 | h1
    · exact (h.le x h1).imp id (fun y => (y.keeps k hk3).keeps ks htP)
    · exact .inl h1
    · exact .inr (h1.keeps ks htP)
  · exact New.keeps (New.keeps h.nw k (fun i hi hb => by have := hlo i hb; omega)) ks (fun i hi e => by omega)
end Go.Proofs.Ytpljnapglbmdlaa
