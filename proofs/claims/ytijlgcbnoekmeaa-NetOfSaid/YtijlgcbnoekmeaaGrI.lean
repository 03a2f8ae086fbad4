/-
  Layer 8: the checker's memory: rows of ports, names; take.
-/
import Derived.Test.YtijlgcbnoekmeaaGrF
import Derived.Maps.OwnOps
import Derived.Maps.OwnSet
import Derived.Maps.Views
namespace Go.Proofs.Ytijlgcbnoekmeaa
open Go Go.RowKit Go.Joins
set_option linter.all false

/-- Rows of ports in memory of the call's own: a row's block, and what stands in it. -/
abbrev rowV (r : Nat × List Bool) : Value := .slice (some ⟨r.1, 0, none⟩) r.2.length r.2.length
structure Grid (w : World) (B : Nat) (a : Option Addr) (c : Nat) (L : List (Nat × List Bool)) : Prop where
  tab : w.ownsRow B 122 1 (.slice a L.length c) L.length (L.map rowV)
  row : ∀ r ∈ L, w.heap[r.1]? = some (.cells (r.2.map Value.bool).toArray 4 (0, 0))
  lo : ∀ r ∈ L, B ≤ r.1
  nd : (L.map (·.1)).Nodup

/-- The blocks that a checker writes, by what they hold. -/
def chkO : Obj → Bool
  | .map _ _ => true
  | .cells _ t _ => t == 110 || t == 122 || t == 4
  | _ => false
/-- .. and those that its names and ports need alone. -/
def chkP : Obj → Bool
  | .map _ _ => true
  | .cells _ t _ => t == 4
  | _ => false
/-- From w to w' only blocks of some kinds changed, from B on. -/
def KX (p : Obj → Bool) (B : Nat) (w w' : World) : Prop := Keeps (fun k => B ≤ k ∧ ∃ o, w.heap[k]? = some o ∧ p o = true) w w'
abbrev KB (B : Nat) (w w' : World) : Prop := KX chkO B w w'
abbrev KP (B : Nat) (w w' : World) : Prop := KX chkP B w w'
section
variable {p : Obj → Bool}
theorem KX.refl (B : Nat) (w : World) : KX p B w w := Keeps.refl _ _
theorem KX.of_new {B : Nat} {w w' : World} (h : New w w') : KX p B w w' := Keeps.mono h (fun _ _ h => h.elim)
theorem KX.trans {B : Nat} {a b c : World} (h : KX p B a b) (k : KX p B b c) : KX p B a c :=
  Keeps.trans h k (fun i hi ⟨hB, o, ho, hc⟩ => by
    refine ⟨hB, ?_⟩
    by_cases hs : B ≤ i ∧ ∃ o, a.heap[i]? = some o ∧ p o = true
    · exact hs.2
    · rw [Keeps.block h i hi hs] at ho
      exact ⟨o, ho, hc⟩)
theorem KX.heap {B : Nat} {w w' : World} (h : KX p B w w') {k : Nat} {o : Obj} (hk : w.heap[k]? = some o) (ho : p o = false) : w'.heap[k]? = some o :=
  Keeps.heap h hk (fun ⟨_, o', h1, h2⟩ => by rw [hk] at h1; cases h1; rw [ho] at h2; cases h2)
theorem KX.new {B : Nat} {w0 w w' : World} (h : KX p B w w') (hB : B = w0.heap.size) (hN : New w0 w) : New w0 w' :=
  New.keeps hN h (fun i hi ⟨hb, _⟩ => by omega)
theorem KX.size {B : Nat} {w w' : World} (h : KX p B w w') : w.heap.size ≤ w'.heap.size := Keeps.size h
theorem KX.set {B : Nat} {w : World} {b i : Nat} {cs : Array Value} {t : TypeId} {fr : Nat × Nat} (h : w.heap[b]? = some (.cells cs t fr)) (hb : B ≤ b) (ht : p (.cells cs t fr) = true) (v : Value) : KX p B w (w.setCell ⟨b, i, none⟩ v) :=
  Keeps.setCell w _ _ ⟨hb, _, h, ht⟩
theorem KX.to {q : Obj → Bool} {B : Nat} {w w' : World} (h : KX p B w w') (hpq : ∀ o, p o = true → q o = true) : KX q B w w' := Keeps.mono h (fun i _ ⟨a, o, b, c⟩ => ⟨a, o, b, hpq o c⟩)
end
theorem chkP_O (o : Obj) (h : chkP o = true) : chkO o = true := by
  cases o <;> simp_all [chkP, chkO]
theorem KX.wide {B : Nat} {w w' : World} (h : KP B w w') : KB B w w' := h.to chkP_O

/-- What take answers, and what the rows are behind it. -/
def takeE (L : List (Nat × List Bool)) (x p : Int) : Int :=
  if 0 ≤ x ∧ x < L.length then (if 0 ≤ p ∧ p < (L.getD x.toNat (0, [])).2.length then (if (L.getD x.toNat (0, [])).2.getD p.toNat false then 86 else 0) else 85) else 84
def takeL (L : List (Nat × List Bool)) (x p : Int) : List (Nat × List Bool) :=
  if takeE L x p = 0 then L.set x.toNat ((L.getD x.toNat (0, [])).1, (L.getD x.toNat (0, [])).2.set p.toNat true) else L
theorem takeL_len (L : List (Nat × List Bool)) (x p : Int) : (takeL L x p).length = L.length := by unfold takeL; split <;> simp
theorem takeL_fst (L : List (Nat × List Bool)) (x p : Int) : (takeL L x p).map (·.1) = L.map (·.1) := by
  unfold takeL
  split
  · apply List.ext_getElem?
    intro i
    simp only [List.getElem?_map, List.getElem?_set]
    by_cases h : x.toNat = i
    · subst h
      by_cases hl : x.toNat < L.length
      · simp [hl, List.getD_eq_getElem?_getD]
      · simp [hl]
    · simp [h]
  · rfl
theorem takeL_rowV (L : List (Nat × List Bool)) (x p : Int) : (takeL L x p).map rowV = L.map rowV := by
  unfold takeL
  split
  · apply List.ext_getElem?
    intro i
    simp only [List.getElem?_map, List.getElem?_set]
    by_cases h : x.toNat = i
    · subst h
      by_cases hl : x.toNat < L.length
      · simp [hl, List.getD_eq_getElem?_getD]
      · simp [hl]
    · simp [h]
  · rfl
theorem Grid.other {S : Nat → Prop} {w w' : World} {B : Nat} {a : Option Addr} {c : Nat} {L : List (Nat × List Bool)} (h : Grid w B a c L) (k : Keeps S w w') (h1 : ∀ i, blk a i → ¬ S i) (h2 : ∀ r ∈ L, ¬ S r.1) : Grid w' B a c L :=
  ⟨k.owns h.tab (fun i hi => h1 i (blk_of_own hi)), fun r hr => k.heap (h.row r hr) (h2 r hr), h.lo, h.nd⟩
theorem Grid.new {w w' : World} {B : Nat} {a : Option Addr} {c : Nat} {L : List (Nat × List Bool)} (h : Grid w B a c L) (k : New w w') : Grid w' B a c L := h.other k (fun _ _ h => h) (fun _ _ h => h)
theorem tab_tag {w : World} {B e size n : Nat} {v : Value} {xs : List Value} (h : w.ownsRow B e size v n xs) {k : Nat} (hk : v.ownBlock = some k) : ∃ cur, w.heap[k]? = some (.cells cur e (0, 0)) := by
  rcases h.2 with ⟨h0, h1⟩ | ⟨g, cap, cur, rfl, hb, hg, rest⟩
  · rw [h0] at hk; simp [Value.ownBlock] at hk
  · simp [Value.ownBlock] at hk; subst hk; exact ⟨cur, hg⟩
theorem own_blk {a : Option Addr} {n c k : Nat} (h : blk a k) : (Value.slice a n c).ownBlock = some k := by
  obtain ⟨x, rfl, rfl⟩ := h; rfl

/-- A row's cell turned. -/
theorem Grid.turn {w : World} {B : Nat} {a : Option Addr} {c : Nat} {L : List (Nat × List Bool)} (h : Grid w B a c L) (x p : Nat) (hx : x < L.length) (hp : p < L[x].2.length) (hf : L[x].2[p] = false) :
    Grid (w.setCell ⟨L[x].1, p, none⟩ (.bool true)) B a c (takeL L x p) ∧ takeE L x p = 0 ∧ KP B w (w.setCell ⟨L[x].1, p, none⟩ (.bool true)) := by
  have hg : L.getD x (0, []) = L[x] := by simp [List.getD_eq_getElem?_getD, hx]
  have hE : takeE L x p = 0 := by
    unfold takeE
    simp only [Int.toNat_natCast, hg]
    rw [if_pos (by omega), if_pos (by omega)]
    simp [List.getD_eq_getElem?_getD, hp, hf]
  have hL : takeL L x p = L.set x (L[x].1, L[x].2.set p true) := by
    unfold takeL
    rw [if_pos hE]
    simp only [Int.toNat_natCast, hg]
  have hr := h.row _ (List.getElem_mem hx)
  have hk : Keeps (fun k => k = L[x].1) w (w.setCell ⟨L[x].1, p, none⟩ (.bool true)) := Keeps.setCell w _ _ rfl
  refine ⟨⟨?_, ?_, ?_, ?_⟩, hE, KX.set hr (h.lo _ (List.getElem_mem hx)) rfl _⟩
  · have h0 := hk.owns h.tab (fun k hk e => by
      subst e
      obtain ⟨cur, hc⟩ := tab_tag h.tab hk
      rw [hr] at hc; simp at hc)
    rw [takeL_rowV, takeL_len]; exact h0
  · intro r hrm
    rw [hL] at hrm
    obtain ⟨i, hi, rfl⟩ := List.getElem_of_mem hrm
    rw [List.length_set] at hi
    rw [List.getElem_set]
    split
    · rename_i e
      have h4 := block_setCell (i := p) hr (.bool true)
      rw [h4]
      simp [List.map_set]
    · rename_i e
      refine hk.heap (h.row _ (List.getElem_mem hi)) (fun e2 => e ?_)
      have hnd := h.nd
      unfold List.Nodup at hnd
      rw [List.pairwise_iff_getElem] at hnd
      rcases Nat.lt_trichotomy x i with h1 | h1 | h1
      · exact absurd (by rw [List.getElem_map, List.getElem_map]; exact e2.symm) (hnd x i (by simpa using hx) (by simpa using hi) h1)
      · exact h1
      · exact absurd (by rw [List.getElem_map, List.getElem_map]; exact e2) (hnd i x (by simpa using hi) (by simpa using hx) h1)
  · intro r hrm
    have : r.1 ∈ (takeL L x p).map (·.1) := List.mem_map_of_mem hrm
    rw [takeL_fst] at this
    obtain ⟨y, hy, hye⟩ := List.mem_map.1 this
    rw [← hye]; exact h.lo y hy
  · rw [takeL_fst]; exact h.nd

def GridLen (L : List (Nat × List Bool)) : Prop := L.length ≤ 64 ∧ ∀ r ∈ L, r.2.length ≤ 64
theorem takeL_same {L : List (Nat × List Bool)} {x p : Int} (h : takeE L x p ≠ 0) : takeL L x p = L := by unfold takeL; rw [if_neg h]
/-- What take does: its answer, the rows behind it. -/
def Took (w : World) (B : Nat) (a : Option Addr) (c : Nat) (L : List (Nat × List Bool)) (x p : Int) (e : Ending) (w' : World) : Prop :=
  e = .returned (I (takeE L x p)) ∧ Grid w' B a c (takeL L x p) ∧ KP B w w' ∧ Keeps (fun k => ∃ r ∈ L, r.1 = k) w w'
theorem Took.err {w w' : World} {B : Nat} {a : Option Addr} {c : Nat} {L : List (Nat × List Bool)} {x p : Int} {n : Int} (h : Grid w B a c L) (hn : n ≠ 0) (he : takeE L x p = n) (k : New w w') : Took w B a c L x p (.returned (I n)) w' := by
  unfold Took
  rw [takeL_same (by rw [he]; exact hn), he]
  exact ⟨rfl, h.new k, KX.of_new k, Keeps.mono k (fun _ _ h => h.elim)⟩
set_option maxRecDepth 100000 in
set_option maxHeartbeats 4000000 in
theorem take_any (w : World) (B : Nat) (a : Option Addr) (c : Nat) (L : List (Nat × List Bool)) (x p : Int) (h : Grid w B a c L) (hl : GridLen L) :
    Calls Try.prog 75 #[.slice a L.length c, I x, I p] w (Took w B a c L x p) := by
  have hl1 := hl.1
  by_cases hx0 : x < 0
  · have hE : takeE L x p = 84 := by unfold takeE; rw [if_neg (by omega)]
    have HT : Hid (∀ w', New w w' → Took w B a c L x p (.returned (I 84)) w') := Lib.hid (fun w' k => Took.err h (by decide) hE k)
    clear hE h hl
    generalize Took w B a c L x p = T at HT ⊢
    go_enter Try.func75, Try.ntmps75
    go_wp2_with fail
    exact HT.out _ (New.refl _)
  obtain ⟨x, rfl⟩ := Int.eq_ofNat_of_zero_le (by omega : 0 ≤ x)
  have d0 : decide ((x : Int) < 0) = false := decide_eq_false hx0
  clear hx0
  by_cases hx : x < L.length
  case neg =>
    have hE : takeE L x p = 84 := by unfold takeE; rw [if_neg (by omega)]
    have HT : Hid (∀ w', New w w' → Took w B a c L x p (.returned (I 84)) w') := Lib.hid (fun w' k => Took.err h (by decide) hE k)
    have d1 : decide ((x : Int) < (L.length : Int)) = false := decide_eq_false (by omega)
    have d2 : decide ((L.length : Int) ≤ (x : Int)) = true := decide_eq_true (by omega)
    clear hE h hl
    generalize Took w B a c L x p = T at HT ⊢
    go_enter Try.func75, Try.ntmps75
    go_wp2_with fail
    exact HT.out _ (New.refl _)
  have d1 : decide ((L.length : Int) ≤ (x : Int)) = false := decide_eq_false (by omega)
  have hxI : (x : Int) < (L.length : Int) := by omega
  obtain ⟨b, off, rfl, hcell⟩ := (SlAt.of_owns h.tab).at (i := x) (by simpa using hx)
  simp only [List.getElem_map] at hcell
  have hrl : L[x].2.length ≤ 64 := hl.2 _ (List.getElem_mem hx)
  have hg : L.getD x (0, []) = L[x] := by simp [List.getD_eq_getElem?_getD, hx]
  by_cases hp : 0 ≤ p ∧ p < L[x].2.length
  case neg =>
    have hE : takeE L x p = 85 := by
      unfold takeE
      simp only [Int.toNat_natCast, hg]
      rw [if_pos (by omega), if_neg hp]
    have HT : Hid (∀ w', New w w' → Took w B (some ⟨b, off, none⟩) c L x p (.returned (I 85)) w') := Lib.hid (fun w' k => Took.err h (by decide) hE k)
    clear hE h hl
    generalize Took w B (some ⟨b, off, none⟩) c L x p = T at HT ⊢
    generalize L[x] = r at hcell hp hrl
    by_cases hp0 : p < 0
    · have d3 : decide (p < 0) = true := decide_eq_true hp0
      clear hp
      go_enter Try.func75, Try.ntmps75
      go_wp2_with fail
      exact HT.out _ (New.refl _)
    · have d3 : decide (p < 0) = false := decide_eq_false hp0
      have d4 : decide ((r.2.length : Int) ≤ p) = true := decide_eq_true (by omega)
      clear hp
      go_enter Try.func75, Try.ntmps75
      go_wp2_with fail
      exact HT.out _ (New.refl _)
  obtain ⟨hp0, hp1⟩ := hp
  obtain ⟨p, rfl⟩ := Int.eq_ofNat_of_zero_le hp0
  have hp : p < L[x].2.length := by omega
  have hbit : w.cell? ⟨L[x].1, p, none⟩ = some (.bool L[x].2[p]) := by
    rw [cell_of_block (h.row _ (List.getElem_mem hx)) p]; simp [hp]
  have hfz : w.frozen? ⟨L[x].1, p, none⟩ = false := unfrozen_of_block (h.row _ (List.getElem_mem hx)) p
  have hbl : L[x].1 < w.heap.size := World.block_lt_of_cell? w _ hbit
  have d3 : decide ((p : Int) < 0) = false := decide_eq_false (by omega)
  have d4 : decide ((L[x].2.length : Int) ≤ (p : Int)) = false := decide_eq_false (by omega)
  cases hb : L[x].2[p] with
  | true =>
    have hE : takeE L x p = 86 := by
      unfold takeE
      simp only [Int.toNat_natCast, hg]
      rw [if_pos (by omega), if_pos (by omega)]
      simp [List.getD_eq_getElem?_getD, hp, hb]
    have HT : Hid (∀ w', New w w' → Took w B (some ⟨b, off, none⟩) c L x p (.returned (I 86)) w') := Lib.hid (fun w' k => Took.err h (by decide) hE k)
    rw [hb] at hbit
    clear hE h hl hb hg
    generalize Took w B (some ⟨b, off, none⟩) c L x p = T at HT ⊢
    generalize L[x] = r at hcell hp hp1 hrl hbit hfz hbl d4
    go_enter Try.func75, Try.ntmps75
    go_wp2_with fail
    exact HT.out _ (New.refl _)
  | false =>
    obtain ⟨t1, t2, t3⟩ := h.turn x p hx hp hb
    have HT : Hid (Took w B (some ⟨b, off, none⟩) c L x p (.returned (I 0)) (w.setCell ⟨L[x].1, p, none⟩ (.bool true))) := Lib.hid (by
      refine ⟨by rw [t2], t1, t3, Keeps.setCell w _ _ ⟨_, List.getElem_mem hx, rfl⟩⟩)
    rw [hb] at hbit
    clear h hl hb hg t1 t2 t3
    generalize Took w B (some ⟨b, off, none⟩) c L x p = T at HT ⊢
    generalize L[x] = r at hcell hp hp1 hrl hbit hfz hbl d4 HT
    go_enter Try.func75, Try.ntmps75
    go_wp2_with fail
    exact HT.out
end Go.Proofs.Ytijlgcbnoekmeaa
