/-
  Layer 10: two States beside one another; firing out of lists that came in.
-/
import Derived.Test.YtijlgcbnoekmeaaNetI
namespace Go.Proofs.Ytijlgcbnoekmeaa
open Go Go.RowKit
set_option linter.all false

/-- Two States share no block. -/
def Far (p q : StD) : Prop := p.hi ≤ q.lo ∨ q.hi ≤ p.lo
theorem Far.symm {p q : StD} (h : Far p q) : Far q p := Or.symm h
theorem St.other {w w' : World} {p q : StD} {nodes nodes' : Nat} {arcs arcs' : List ArcD} {s t : Mark} (h : St w q nodes' arcs' t) (hp : St w p nodes arcs s) (hd : Far p q) (k : Keeps (fun k => k = p.bt ∨ k = p.bf) w w') : St w' q nodes' arcs' t :=
  h.keeps k (fun x h1 h2 e => by have a := hp.rt; have b := hp.rf; rcases hd with hd | hd <;> omega)
/-- A list that was there before a State. -/
theorem SlAt.old {w : World} {ao : Option Addr} {x : Value} {cs : List Value} (h : SlAt w ao cs) (hne : 0 < cs.length) : ∀ a, ao = some a → a.block < w.heap.size := by
  intro a ha
  obtain ⟨b, off, e, c⟩ := h.at hne
  rw [ha] at e; cases e
  exact World.block_lt_of_cell? w _ c

/-- Fire of a list that was there at a, before the State. -/
theorem fire_old (a w : World) (p : StD) (nodes : Nat) (arcs : List ArcD) (s : Mark) (ao : Option Addr) (c : Nat) (vs : List Int) (M : Int) (h : St w p nodes arcs s) (hs : Sound nodes arcs) (hx : SlAt a ao (Is vs)) (ha : New a w) (hl : a.heap.size ≤ p.lo)
    (hb : Bd M s) (hM2 : M + 12288 * vs.length ≤ 8000000000000000000) (hM : 0 ≤ M) :
    Calls Try.prog 20 #[.pointer (some ⟨p.b, 0, none⟩), .slice ao vs.length c] w fun e w' => e = .returned (I ((fireS arcs nodes s vs).1 : Int)) ∧ St w' p nodes arcs (fireS arcs nodes s vs).2 ∧ Keeps (fun k => k = p.bt ∨ k = p.bf) w w' ∧ New a w' ∧ Bd (M + 12288 * vs.length) (fireS arcs nodes s vs).2 := by
  have key : ∀ ao', SlAt a ao' (Is vs) → (∀ x, ao' = some x → x.block < p.lo ∨ p.hi ≤ x.block) → Calls Try.prog 20 #[.pointer (some ⟨p.b, 0, none⟩), .slice ao' vs.length c] w fun e w' => e = .returned (I ((fireS arcs nodes s vs).1 : Int)) ∧ St w' p nodes arcs (fireS arcs nodes s vs).2 ∧ Keeps (fun k => k = p.bt ∨ k = p.bf) w w' ∧ New a w' ∧ Bd (M + 12288 * vs.length) (fireS arcs nodes s vs).2 := fun ao' hx' hsep =>
    (fire_any w p nodes arcs s ao' c vs M h hs (hx'.new ha) hsep hb hM2 hM).mono fun e w' ⟨h1, h2, h3⟩ => ⟨h1, h2, h3, ha.fire h hl h3, bd_fire hs vs s M h.fits hb⟩
  by_cases hne : vs = []
  · subst hne
    have hm := hs.m
    go_enter Try.func20, Try.ntmps20
    go_wp2
    go_loopw [15] (fun i wr => i = .int .i64 0 ∧ wr = w) (fun i _ => 0)
    case atStart => exact ⟨rfl, rfl⟩
    case round =>
      obtain ⟨rfl, rfl⟩ := hrel
      go_wp2
      go_ret
      exact ⟨rfl, h, Keeps.refl _ _, ha, by simpa [fireS] using hb⟩
  · exact key ao hx (fun x hx' => .inl (by have := hx.old (x := undef) (by simpa using List.length_pos_iff.2 hne) x hx'; omega))

theorem own_addr' {w : World} {B : Nat} {e : TypeId} {a : Option Addr} {n c : Nat} {xs : List Value} (h : w.ownsRow B e 1 (.slice a n c) n xs) (hn : 0 < n) : ∃ g, a = some ⟨g, 0, none⟩ ∧ B ≤ g ∧ g < w.heap.size := by
  rcases h.2 with ⟨h0, h1⟩ | ⟨g, cap, cur, h0, hb, hg, _⟩
  · simp only [Value.slice.injEq] at h0; omega
  · simp only [Value.slice.injEq] at h0
    exact ⟨g, h0.1, hb, (Array.getElem?_eq_some_iff.1 hg).1⟩
theorem mayN_any (w : World) (p : StD) (nodes : Nat) (arcs : List ArcD) (s : Mark) (v : Int) (h : St w p nodes arcs s) (hm : arcs.length ≤ 96) :
    Calls Try.prog 26 #[.pointer (some ⟨p.b, 0, none⟩), I v] w fun e w' => e = .returned (.bool (mayS arcs nodes s.toks v)) ∧ New w w' :=
  (may_any w p nodes arcs s v h hm).mono fun e w' ⟨h, n, hw⟩ => ⟨h, hw ▸ (New.refl w).drewN n⟩
theorem shortN_any (w : World) (p : StD) (nodes : Nat) (arcs : List ArcD) (s : Mark) (v : Int) (h : St w p nodes arcs s) (hm : arcs.length ≤ 96) :
    Calls Try.prog 27 #[.pointer (some ⟨p.b, 0, none⟩), I v] w fun e w' => e = .returned (I (shortS arcs nodes s.toks v)) ∧ New w w' :=
  (short_any w p nodes arcs s v h hm).mono fun e w' ⟨h, n, hw⟩ => ⟨h, hw ▸ (New.refl w).drewN n⟩

end Go.Proofs.Ytijlgcbnoekmeaa
