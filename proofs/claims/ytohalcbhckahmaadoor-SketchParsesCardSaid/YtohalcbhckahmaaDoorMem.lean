/-
  Plain laws on memory: what a call keeps, slices that can be read, rows that the call owns, append. No program in sight.
-/
import Derived.WalkKit
import Derived.WalkLawsBesides
import Derived.WalkSpells
import Derived.Deep.QuietTactic
import Derived.BigQuiet
import Derived.Lib.Hide
import Derived.IntWalk
namespace Go.Proofs.YtohalcbhckahmaaDoor
open Go Go.RowKit
set_option linter.all false

/-- From w to w' the blocks that were there are as they were, but for those in S. -/
structure Keeps (S : Nat → Prop) (w w' : World) : Prop where
  os : w'.os = w.os
  tape : w'.tape = w.tape
  output : w'.output = w.output
  size : w.heap.size ≤ w'.heap.size
  block : ∀ k, k < w.heap.size → ¬ S k → w'.heap[k]? = w.heap[k]?

/-- Nothing that was there has changed. -/
def New (w w' : World) : Prop := Keeps (fun _ => False) w w'

namespace Keeps
variable {S T : Nat → Prop} {a b c w w' : World}

theorem refl (S : Nat → Prop) (w : World) : Keeps S w w := ⟨rfl, rfl, rfl, Nat.le_refl _, fun _ _ _ => rfl⟩

theorem trans (h : Keeps S a b) (k : Keeps T b c) (hT : ∀ i, i < a.heap.size → T i → S i) : Keeps S a c :=
  ⟨k.os.trans h.os, k.tape.trans h.tape, k.output.trans h.output, Nat.le_trans h.size k.size,
    fun i hi hn => (k.block i (Nat.lt_of_lt_of_le hi h.size) (fun t => hn (hT i hi t))).trans (h.block i hi hn)⟩

theorem mono (h : Keeps S a b) (hT : ∀ i, i < a.heap.size → S i → T i) : Keeps T a b :=
  ⟨h.os, h.tape, h.output, h.size, fun i hi hn => h.block i hi (fun s => hn (hT i hi s))⟩

theorem alloc (w : World) (o : Obj) : Keeps S w (w.alloc o) := ⟨rfl, rfl, rfl, by simp, fun k hk _ => Below.heap_alloc w o k hk⟩
theorem drew (w : World) : Keeps S w w.drew := ⟨rfl, rfl, rfl, Nat.le_refl _, fun _ _ _ => rfl⟩
theorem drewN (w : World) (n : Nat) : Keeps S w (w.drewN n) := by
  refine ⟨?_, ?_, ?_, ?_, ?_⟩ <;> simp [World.drewN]

theorem setCell (w : World) (p : Addr) (v : Value) (hp : S p.block) : Keeps S w (w.setCell p v) :=
  ⟨rfl, rfl, rfl, by simp [World.setCell], fun k _ hk => Below.heap_setCell _ _ _ _ (fun e => hk (e ▸ hp))⟩

theorem grown {row : Option Nat} (h : w.grownBy w' row) (hr : ∀ k, some k = row → S k) : Keeps S w w' :=
  ⟨h.os, h.tape, h.output, h.size, fun k hk hn => h.block k hk (fun e => hn (hr k e))⟩

theorem below {B : Nat} (h : Keeps S w w') (hB : B ≤ w.heap.size) (hS : ∀ k, k < B → ¬ S k) : Below B w w' :=
  ⟨h.os, h.tape, h.output, h.size, fun k hk => h.block k (Nat.lt_of_lt_of_le hk hB) (hS k hk)⟩

theorem heap (h : Keeps S w w') {k : Nat} {o : Obj} (hk : w.heap[k]? = some o) (hn : ¬ S k) : w'.heap[k]? = some o :=
  (h.block k (Array.getElem?_eq_some_iff.1 hk).1 hn).trans hk

theorem cell (h : Keeps S w w') {p : Addr} {v : Value} (hv : w.cell? p = some v) (hn : ¬ S p.block) : w'.cell? p = some v :=
  (World.cell?_of_block (w := w) (h.block p.block (World.block_lt_of_cell? w p hv) hn)).trans hv
theorem frozen (h : Keeps S w w') {p : Addr} (hp : p.block < w.heap.size) (hn : ¬ S p.block) : w'.frozen? p = w.frozen? p :=
  World.frozen?_of_block (w := w) (h.block p.block hp hn)

theorem owns {B : Nat} {e : TypeId} {size : Nat} {v : Value} {n : Nat} {xs : List Value} (h : Keeps S w w') (hv : w.ownsRow B e size v n xs)
    (hn : ∀ k, v.ownBlock = some k → ¬ S k) : w'.ownsRow B e size v n xs := by
  refine ⟨hv.1, ?_⟩
  rcases hv.2 with h0 | ⟨g, cap, cur, rfl, hb, hg, rest⟩
  · exact .inl h0
  · exact .inr ⟨g, cap, cur, rfl, hb, h.heap hg (hn g rfl), rest⟩
end Keeps

namespace New
variable {a b c w w' : World}
theorem refl (w : World) : New w w := Keeps.refl _ w
theorem trans (h : New a b) (k : New b c) : New a c := Keeps.trans h k (fun _ _ h => h)
theorem alloc (h : New a w) (o : Obj) : New a (w.alloc o) := h.trans (Keeps.alloc w o)
theorem drew (h : New a w) : New a w.drew := h.trans (Keeps.drew w)
theorem drewN (h : New a w) (n : Nat) : New a (w.drewN n) := h.trans (Keeps.drewN w n)
theorem below (h : New w w') : Below w.heap.size w w' := Keeps.below h (Nat.le_refl _) (fun _ _ h => h)
theorem cell (h : New w w') {p : Addr} {v : Value} (hv : w.cell? p = some v) : w'.cell? p = some v := Keeps.cell h hv (fun h => h)
theorem owns {B : Nat} {e : TypeId} {size : Nat} {v : Value} {n : Nat} {xs : List Value} (h : New w w') (hv : w.ownsRow B e size v n xs) : w'.ownsRow B e size v n xs :=
  Keeps.owns h hv (fun _ _ h => h)
theorem size (h : New w w') : w.heap.size ≤ w'.heap.size := Keeps.size h
theorem setCell (h : New a w) {p : Addr} (hp : a.heap.size ≤ p.block) (v : Value) : New a (w.setCell p v) :=
  Keeps.trans h (Keeps.setCell (S := fun k => k = p.block) w p v rfl) (fun i hi e => by omega)
theorem keeps {S : Nat → Prop} (h : New a w) (k : Keeps S w w') (hS : ∀ i, i < a.heap.size → ¬ S i) : New a w' :=
  Keeps.trans h k (fun i hi s => hS i hi s)
end New

/-- A slice's elements can be read: cs are the cells from its address on. -/
def SlAt (w : World) (ao : Option Addr) (cs : List Value) : Prop :=
  ∀ i, i < cs.length → ∃ b off, ao = some ⟨b, off, none⟩ ∧ w.cell? ⟨b, off + i, none⟩ = some (cs.getD i undef)

theorem SlAt.at {w : World} {ao : Option Addr} {cs : List Value} (h : SlAt w ao cs) {i : Nat} (hi : i < cs.length) :
    ∃ b off, ao = some ⟨b, off, none⟩ ∧ w.cell? ⟨b, off + i, none⟩ = some cs[i] := by
  obtain ⟨b, off, e, c⟩ := h i hi
  refine ⟨b, off, e, ?_⟩
  rw [c]; simp [hi]

theorem SlAt.nil (w : World) (ao : Option Addr) : SlAt w ao [] := fun i hi => by simp at hi

theorem SlAt.keeps {S : Nat → Prop} {w w' : World} {ao : Option Addr} {cs : List Value} (h : SlAt w ao cs) (k : Keeps S w w') (hn : ∀ a, ao = some a → ¬ S a.block) : SlAt w' ao cs := by
  intro i hi
  obtain ⟨b, off, e, c⟩ := h i hi
  exact ⟨b, off, e, k.cell c (fun s => hn _ e s)⟩

theorem SlAt.new {w w' : World} {ao : Option Addr} {cs : List Value} (h : SlAt w ao cs) (k : New w w') : SlAt w' ao cs := h.keeps k (fun _ _ h => h)
theorem SlAt.drewN {w : World} {ao : Option Addr} {cs : List Value} (h : SlAt w ao cs) (n : Nat) : SlAt (w.drewN n) ao cs := h.new (Keeps.drewN w n)

theorem SlAt.of_owns {w : World} {B : Nat} {e : TypeId} {size n c : Nat} {ao : Option Addr} {xs : List Value} (h : w.ownsRow B e size (.slice ao n c) n xs) : SlAt w ao xs := by
  intro i hi
  rcases h.2 with ⟨h0, h1⟩ | ⟨g, cap, cur, h0, hb, hg, hnc, hcm, hcs, htake⟩
  · have := h.1; rw [h1] at this; simp at this; subst this; simp at hi
  · simp only [Value.slice.injEq] at h0
    obtain ⟨rfl, _, rfl⟩ := h0
    refine ⟨g, 0, rfl, ?_⟩
    have := h.cellAt i (by rw [h.1] at hi; exact hi)
    rw [Nat.zero_add, this]
    simp [hi]

/-- A part of a slice that can be read. -/
theorem SlAt.drop {w : World} {b off : Nat} {cs : List Value} (h : SlAt w (some ⟨b, off, none⟩) cs) (k : Nat) : SlAt w (some ⟨b, off + k, none⟩) (cs.drop k) := by
  intro i hi
  simp at hi
  obtain ⟨b', off', e, c⟩ := h (k + i) (by omega)
  simp only [Option.some.injEq, Addr.mk.injEq, and_true] at e
  obtain ⟨rfl, rfl⟩ := e
  refine ⟨b, off + k, rfl, ?_⟩
  rw [Nat.add_assoc, c]; simp
theorem SlAt.take {w : World} {ao : Option Addr} {cs : List Value} (h : SlAt w ao cs) (k : Nat) : SlAt w ao (cs.take k) := by
  intro i hi
  simp at hi
  obtain ⟨b', off', e, c⟩ := h i (by omega)
  refine ⟨b', off', e, ?_⟩
  rw [c]; simp [List.getElem?_take, show i < k by omega]

theorem oneCell_ints (k : IntKind) (xs : List Int) : ∀ u ∈ xs.map (Value.int k), u.oneCell' = true := ints_oneCell k xs

/-- What a row's block begins with stays. -/
def Heads (w w' : World) (e : TypeId) (ao : Option Addr) (len : Nat) : Prop :=
  ∀ a cur, ao = some a → w.heap[a.block]? = some (.cells cur e (0, 0)) → ∃ cur', w'.heap[a.block]? = some (.cells cur' e (0, 0)) ∧ cur'.size = cur.size ∧ cur'.toList.take len = cur.toList.take len

/-- The same block, or a new one. -/
def Moved (w : World) (ao ao' : Option Addr) : Prop := ao' = ao ∨ ∃ g, ao' = some ⟨g, 0, none⟩ ∧ w.heap.size ≤ g

def blk (ao : Option Addr) (k : Nat) : Prop := ∃ a, ao = some a ∧ a.block = k

theorem run_app {P : Program} (w : World) (base : Nat) (t ty e : TypeId) (i : TypeInfo) (z : Value) (size bytes : Nat) (ht : P.underlying t = some (.slice e)) (hi : P.info? e = some i) (hz : i.zero = some z)
    (hsize : i.size = size) (hby : i.bytes = bytes) (hzs : z.cells.size = size) (hsz : 0 < size)
    (ao : Option Addr) (n c : Nat) (xs : List Value) (hown : w.ownsRow base e size (.slice ao n c) n xs)
    (ad : Option Addr) (m cc : Nat) (news : List Value) (hl : news.length = m * size) (hat : SlAt w ad news) (h1 : ∀ u ∈ news, u.oneCell' = true)
    (h63 : n + m ≤ maxLen) (hbytes : (n + m) * bytes ≤ 140737488355328) (hbase : base ≤ w.heap.size) :
    ∃ ao' c' w', (Builtin.append_ #[t, t] ty #[.slice ao n c, .slice ad m cc]).run P w = .ok (.slice ao' (n + m) c') w' ∧ w'.ownsRow base e size (.slice ao' (n + m) c') (n + m) (xs ++ news) ∧
      Keeps (blk ao) w w' ∧ Moved w ao ao' ∧ Heads w w' e ao (n * size) := by
  by_cases hm : m = 0
  · subst hm
    have hn : news = [] := List.eq_nil_of_length_eq_zero (by simpa using hl)
    subst hn
    have hr : (Builtin.append_ #[t, t] ty #[.slice ao n c, .slice ad 0 cc]).run P w = .ok (.slice ao n c) w := by
      rcases hown.2 with ⟨hv, rfl⟩ | ⟨g, cap, cur, hv, _, _, hnc, _⟩
      · simp only [Value.slice.injEq, true_and] at hv
        obtain ⟨rfl, rfl⟩ := hv
        cases ad <;> simp [Builtin.append_, run_underlying ht, sizeOf, typeInfo, hi, Builtin.lenOf, Builtin.firstCells, loadCells, loadCellsFrom, storeCells]
      · simp only [Value.slice.injEq] at hv
        obtain ⟨rfl, _, rfl⟩ := hv
        cases ad <;> simp [Builtin.append_, run_underlying ht, sizeOf, typeInfo, hi, Builtin.lenOf, Builtin.firstCells, hnc, loadCells, loadCellsFrom, storeCells]
    exact ⟨ao, c, w, by simpa using hr, by simpa using hown, Keeps.refl _ _, .inl rfl, fun a cur _ h => ⟨cur, h, rfl, rfl⟩⟩
  · obtain ⟨b, off, rfl, _⟩ := hat 0 (by rw [hl]; exact Nat.mul_pos (by omega) hsz)
    have hnews : ∀ j u, news[j]? = some u → w.cell? ((⟨b, off, none⟩ : Addr).add j) = some u := by
      intro j u hu
      obtain ⟨hj, hju⟩ := List.getElem?_eq_some_iff.1 hu
      obtain ⟨b', off', e', c'⟩ := hat.at hj
      simp only [Option.some.injEq, Addr.mk.injEq, and_true] at e'
      obtain ⟨rfl, rfl⟩ := e'
      rw [Addr.add_lit, c', hju]
    have hlen : (xs ++ news).length = (n + m) * size := by rw [List.length_append, hown.1, hl, Nat.add_mul]
    have hsmall : n + m ≤ 9223372036854775807 := by simp only [maxLen] at h63; omega
    subst hsize
    subst hby
    have grow : ∀ old, old < n + m →
        (w.drew.alloc (.cells (xs.toArray ++ news.toArray ++ Builtin.zeroCells z.cells (grownCap w (n + m) old e - (n + m))) e)).ownsRow base e i.size
          (.slice (some ⟨w.heap.size, 0, none⟩) (n + m) (grownCap w (n + m) old e)) (n + m) (xs ++ news) := by
      intro old ho
      have hge := grownCap_ge w (n + m) old e
      have hcm : grownCap w (n + m) old e ≤ maxLen := grownCap_le_maxLen w (n + m) old e h63
      refine ⟨hlen, .inr ⟨w.heap.size, _, _, rfl, hbase, heap_alloc_new w.drew _, hge, hcm, ?_, ?_⟩⟩
      · simp only [Array.size_append, List.size_toArray, size_zeroCells, hzs, hown.1, hl, ← Nat.add_mul]
        congr 1
        omega
      · simp only [Array.toList_append, List.append_assoc]
        rw [← List.append_assoc, ← hlen]
        exact List.take_left
    have hkeep : ∀ (S : Nat → Prop) (o : Obj), Keeps S w (w.drew.alloc o) := fun S o => (Keeps.drew w).trans (Keeps.alloc _ _) (fun _ _ h => h)
    rcases hown.2 with ⟨hv, rfl⟩ | ⟨g, cap, cur, hv, hbg, hg, hnc, hcm, hcs, htake⟩
    · simp only [Value.slice.injEq, true_and] at hv
      obtain ⟨rfl, rfl⟩ := hv
      have hx : xs = [] := List.eq_nil_of_length_eq_zero (by simpa using hown.1)
      subst hx
      have hr := run_append_nil (P := P) w t ty e i z ht hi hz ⟨b, off, none⟩ m cc news hl hnews (by omega) (by omega) (by have hb := hbytes; simp only [Nat.zero_add] at hb; omega)
      have hgr := grow 0 (by omega)
      simp only [Nat.zero_add, List.nil_append, Array.empty_append] at hgr ⊢
      exact ⟨_, _, _, hr, hgr, hkeep _ _, .inr ⟨_, rfl, Nat.le_refl _⟩, fun a cur h => by cases h⟩
    · simp only [Value.slice.injEq] at hv
      obtain ⟨rfl, _, rfl⟩ := hv
      by_cases hroom : n + m ≤ c
      · have hfit : n * i.size + news.length ≤ cur.size := by rw [hl, hcs, ← Nat.add_mul]; exact Nat.mul_le_mul_right _ hroom
        have hr := run_append_room (P := P) w t ty e i ht hi g n c cur hg ⟨b, off, none⟩ m cc news hl hnews h1 hroom hfit
        have hcl : n * i.size ≤ cur.toList.length := by simp; omega
        refine ⟨_, _, _, hr, ⟨hlen, .inr ⟨g, c, _, rfl, hbg, setRow_heap w g cur _ e _ hg, hroom, hcm, ?_, ?_⟩⟩, ?_, .inl rfl, ?_⟩
        · simp only [List.size_toArray, List.length_append, List.length_take, List.length_drop, Array.length_toList]
          omega
        · rw [htake, ← hlen]
          exact List.take_left
        · exact ⟨rfl, rfl, rfl, by simp, fun k _ hk => setRow_other w g k _ (fun e => hk ⟨_, rfl, e.symm⟩)⟩
        · intro a cur' ha hc'
          simp only [Option.some.injEq] at ha
          subst ha
          rw [hg] at hc'
          simp only [Option.some.injEq, Obj.cells.injEq, and_true, true_and] at hc'
          subst hc'
          refine ⟨_, setRow_heap w g cur _ e _ hg, ?_, ?_⟩
          · simp only [List.size_toArray, List.length_append, List.length_take, List.length_drop, Array.length_toList]
            omega
          · show List.take _ (_ ++ _ ++ _) = _
            rw [List.append_assoc, List.take_append_of_le_length (by rw [List.length_take]; omega), List.take_take, Nat.min_self]
      · have holds : ∀ j u, xs[j]? = some u → w.cell? ((⟨g, 0, none⟩ : Addr).add j) = some u := hown.cells (g := g) rfl
        have hr := run_append_grow (P := P) w t ty e i z ht hi hz ⟨g, 0, none⟩ n c xs hown.1 holds ⟨b, off, none⟩ m cc news hl hnews (by omega) (by omega) (growslice_fits (by omega) hbytes)
        refine ⟨_, _, _, hr, grow c (by omega), hkeep _ _, .inr ⟨_, rfl, Nat.le_refl _⟩, ?_⟩
        intro a cur' ha hc'
        exact ⟨cur', (hkeep (fun _ => False) _).heap hc' (fun h => h), rfl, rfl⟩

/-- append, at the walk. -/
theorem wpList_app {P : Program} {w : World} {ops : Array Oper} {rest : List Oper} {o : Oper} {a : Act} {Q : Exit → Act → World → Prop} (hgd : o.guard = none) (s x : Operand) (t : TypeId)
    (ho : o.op = .call { callee := .builtin .append, args := #[s, x], argTypes := #[t, t] })
    (base : Nat) (e : TypeId) (i : TypeInfo) (z : Value) (size bytes : Nat) (ht : P.underlying t = some (.slice e)) (hi : P.info? e = some i) (hz : i.zero = some z)
    (hsize : i.size = size) (hby : i.bytes = bytes) (hzs : z.cells.size = size) (hsz : 0 < size)
    (ao : Option Addr) (n c : Nat) (xs : List Value) (hs : a.eval s = .slice ao n c) (hown : w.ownsRow base e size (.slice ao n c) n xs)
    (ad : Option Addr) (m cc : Nat) (news : List Value) (hx : a.eval x = .slice ad m cc) (hl : news.length = m * size) (hat : SlAt w ad news) (h1 : ∀ u ∈ news, u.oneCell' = true)
    (h63 : n + m ≤ maxLen) (hbytes : (n + m) * bytes ≤ 140737488355328) (hbase : base ≤ w.heap.size)
    (h : ∀ ao' c' w', w'.ownsRow base e size (.slice ao' (n + m) c') (n + m) (xs ++ news) → Keeps (blk ao) w w' → Moved w ao ao' → Heads w w' e ao (n * size) → wpList P ops Q rest (a.put o.dst (.slice ao' (n + m) c')) w') : wpList P ops Q (o :: rest) a w := by
  refine wpList_plain hgd fun K hK => ?_
  obtain ⟨ao', c', w', hr, h2, h3, h4, h5⟩ := run_app (P := P) w base t o.type e i z size bytes ht hi hz hsize hby hzs hsz ao n c xs hown ad m cc news hl hat h1 h63 hbytes hbase
  unfold Oper.wp execOp
  simp only [ho, resolve, invoke, builtin, Sem.run_bind, Sem.run_pure, Result.andThen_ok, List.map_toArray, List.map_cons, List.map_nil, hs, hx, hr]
  exact hK _ _ (h ao' c' w' h2 h3 h4 h5)

/-- append where there is room. -/
theorem run_fits {P : Program} (w : World) (base : Nat) (t ty e : TypeId) (i : TypeInfo) (size : Nat) (ht : P.underlying t = some (.slice e)) (hi : P.info? e = some i)
    (hsize : i.size = size) (hsz : 0 < size) (ao : Option Addr) (n c : Nat) (xs : List Value) (hown : w.ownsRow base e size (.slice ao n c) n xs)
    (ad : Option Addr) (m cc : Nat) (news : List Value) (hl : news.length = m * size) (hat : SlAt w ad news) (h1 : ∀ u ∈ news, u.oneCell' = true) (hroom : n + m ≤ c) :
    ∃ w', (Builtin.append_ #[t, t] ty #[.slice ao n c, .slice ad m cc]).run P w = .ok (.slice ao (n + m) c) w' ∧ w'.ownsRow base e size (.slice ao (n + m) c) (n + m) (xs ++ news) ∧ Keeps (blk ao) w w' := by
  rcases hown.2 with ⟨hv, rfl⟩ | ⟨g, cap, cur, hv, hbg, hg, hnc, hcm, hcs, htake⟩
  · simp only [Value.slice.injEq, true_and] at hv
    obtain ⟨rfl, rfl⟩ := hv
    obtain rfl : m = 0 := by omega
    have hn : news = [] := List.eq_nil_of_length_eq_zero (by simpa using hl)
    subst hn
    refine ⟨w, ?_, by simpa using hown, Keeps.refl _ _⟩
    cases ad <;> simp [Builtin.append_, run_underlying ht, sizeOf, typeInfo, hi, Builtin.lenOf, Builtin.firstCells, loadCells, loadCellsFrom]
  · simp only [Value.slice.injEq] at hv
    obtain ⟨rfl, _, rfl⟩ := hv
    by_cases hm : m = 0
    · subst hm
      have hn : news = [] := List.eq_nil_of_length_eq_zero (by simpa using hl)
      subst hn
      refine ⟨w, ?_, by simpa using hown, Keeps.refl _ _⟩
      cases ad <;> simp [Builtin.append_, run_underlying ht, sizeOf, typeInfo, hi, Builtin.lenOf, Builtin.firstCells, hnc, loadCells, loadCellsFrom, storeCells]
    · obtain ⟨b, off, rfl, _⟩ := hat 0 (by rw [hl]; exact Nat.mul_pos (by omega) hsz)
      have hnews : ∀ j u, news[j]? = some u → w.cell? ((⟨b, off, none⟩ : Addr).add j) = some u := by
        intro j u hu
        obtain ⟨hj, hju⟩ := List.getElem?_eq_some_iff.1 hu
        obtain ⟨b', off', e', c'⟩ := hat.at hj
        simp only [Option.some.injEq, Addr.mk.injEq, and_true] at e'
        obtain ⟨rfl, rfl⟩ := e'
        rw [Addr.add_lit, c', hju]
      have hlen : (xs ++ news).length = (n + m) * size := by rw [List.length_append, hown.1, hl, Nat.add_mul]
      subst hsize
      have hfit : n * i.size + news.length ≤ cur.size := by rw [hl, hcs, ← Nat.add_mul]; exact Nat.mul_le_mul_right _ hroom
      have hr := run_append_room (P := P) w t ty e i ht hi g n c cur hg ⟨b, off, none⟩ m cc news hl hnews h1 hroom hfit
      refine ⟨_, hr, ⟨hlen, .inr ⟨g, c, _, rfl, hbg, setRow_heap w g cur _ e _ hg, hroom, hcm, ?_, ?_⟩⟩, ?_⟩
      · simp only [List.size_toArray, List.length_append, List.length_take, List.length_drop, Array.length_toList]
        omega
      · rw [htake, ← hlen]
        exact List.take_left
      · exact ⟨rfl, rfl, rfl, by simp, fun k _ hk => setRow_other w g k _ (fun e => hk ⟨_, rfl, e.symm⟩)⟩

theorem wpList_fits {P : Program} {w : World} {ops : Array Oper} {rest : List Oper} {o : Oper} {a : Act} {Q : Exit → Act → World → Prop} (hgd : o.guard = none) (s x : Operand) (t : TypeId)
    (ho : o.op = .call { callee := .builtin .append, args := #[s, x], argTypes := #[t, t] })
    (base : Nat) (e : TypeId) (i : TypeInfo) (size : Nat) (ht : P.underlying t = some (.slice e)) (hi : P.info? e = some i) (hsize : i.size = size) (hsz : 0 < size)
    (ao : Option Addr) (n c : Nat) (xs : List Value) (hs : a.eval s = .slice ao n c) (hown : w.ownsRow base e size (.slice ao n c) n xs)
    (ad : Option Addr) (m cc : Nat) (news : List Value) (hx : a.eval x = .slice ad m cc) (hl : news.length = m * size) (hat : SlAt w ad news) (h1 : ∀ u ∈ news, u.oneCell' = true) (hroom : n + m ≤ c)
    (h : ∀ w', w'.ownsRow base e size (.slice ao (n + m) c) (n + m) (xs ++ news) → Keeps (blk ao) w w' → wpList P ops Q rest (a.put o.dst (.slice ao (n + m) c)) w') : wpList P ops Q (o :: rest) a w := by
  refine wpList_plain hgd fun K hK => ?_
  obtain ⟨w', hr, h2, h3⟩ := run_fits (P := P) w base t o.type e i size ht hi hsize hsz ao n c xs hown ad m cc news hl hat h1 hroom
  unfold Oper.wp execOp
  simp only [ho, resolve, invoke, builtin, Sem.run_bind, Sem.run_pure, Result.andThen_ok, List.map_toArray, List.map_cons, List.map_nil, hs, hx, hr]
  exact hK _ _ (h w' h2 h3)

/-- A row that is full is known whole. -/
theorem ownsRow_full {w : World} {base : Nat} {e : TypeId} {size n g : Nat} {xs : List Value} (h : w.ownsRow base e size (.slice (some ⟨g, 0, none⟩) n n) n xs) :
    w.heap[g]? = some (.cells xs.toArray e (0, 0)) := by
  rcases h.2 with ⟨h0, _⟩ | ⟨g', cap, cur, hv, hbg, hg, hnc, hcm, hcs, htake⟩
  · simp at h0
  · simp only [Value.slice.injEq, Option.some.injEq, Addr.mk.injEq, and_true, true_and] at hv
    obtain ⟨rfl, rfl⟩ := hv
    rw [hg, ← htake, List.take_of_length_le (by simp [hcs])]

theorem SlAt.block {w : World} {g : Nat} {cs : List Value} {e : TypeId} {fr : Nat × Nat} (h : w.heap[g]? = some (.cells cs.toArray e fr)) : SlAt w (some ⟨g, 0, none⟩) cs := by
  intro i hi
  refine ⟨g, 0, rfl, ?_⟩
  rw [Nat.zero_add, cell_of_row w g i _ e fr h]
  simp [hi]

theorem SlAt.lit (w : World) (cs : Array Value) (e : TypeId) : SlAt (w.alloc (.cells cs e)) (some ⟨w.heap.size, 0, none⟩) cs.toList := by
  intro i hi
  refine ⟨_, _, rfl, ?_⟩
  simp at hi
  simp [hi]

theorem ownsRow_kept_head {w w' : World} {base : Nat} {e : TypeId} {size n c : Nat} {ao : Option Addr} {xs : List Value} (h : w.ownsRow base e size (.slice ao n c) n xs) {len : Nat} (hh : Heads w w' e ao len) (hl : n * size ≤ len) :
    w'.ownsRow base e size (.slice ao n c) n xs := by
  refine ⟨h.1, ?_⟩
  rcases h.2 with h0 | ⟨g, cap, cur, hv, hbg, hg, hnc, hcm, hcs, htake⟩
  · exact .inl h0
  · have hv' := hv
    simp only [Value.slice.injEq] at hv'
    obtain ⟨rfl, _, rfl⟩ := hv'
    obtain ⟨cur', hg', hs', ht'⟩ := hh _ cur rfl hg
    refine .inr ⟨g, c, cur', rfl, hbg, hg', hnc, hcm, by rw [hs', hcs], ?_⟩
    rw [← htake]
    have := congrArg (List.take (n * size)) ht'
    simpa [List.take_take, Nat.min_eq_left hl] using this

theorem ownsRow_rebase {w : World} {base base' : Nat} {e : TypeId} {size n : Nat} {v : Value} {xs : List Value} (h : w.ownsRow base e size v n xs) (hb : ∀ k, v.ownBlock = some k → base' ≤ k) : w.ownsRow base' e size v n xs := by
  refine ⟨h.1, ?_⟩
  rcases h.2 with h0 | ⟨g, cap, cur, rfl, hbg, r⟩
  · exact .inl h0
  · exact .inr ⟨g, cap, cur, rfl, hb g rfl, r⟩

end Go.Proofs.YtohalcbhckahmaaDoor
