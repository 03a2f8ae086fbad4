/-
  Layer 10, plain: arcs, tokens, firings; what the stage's laws say of them. No program in sight.
-/
import Derived.WalkKit
namespace Go.Proofs.Ytijlgcbnoekmeaa
set_option linter.all false

structure ArcD where
  fr : Int
  dst : Int
  give : Int
  take : Int
  start : Int
deriving DecidableEq, Inhabited

/-- What is wrong with an arc, 0: nothing. -/
def arcErr (nodes : Int) (a : ArcD) : Int :=
  if a.fr < 0 ∨ a.dst < 0 ∨ nodes ≤ a.fr ∨ nodes ≤ a.dst then 100
  else if a.give < 1 ∨ a.take < 1 ∨ 64 < a.give ∨ 64 < a.take then 101
  else if a.start < 0 ∨ 256 < a.start then 88
  else 0

def arcsErr (nodes : Int) : List ArcD → Int
  | [] => 0
  | a :: r => if arcErr nodes a = 0 then arcsErr nodes r else arcErr nodes a

def netErr (nodes : Int) (arcs : List ArcD) : Int :=
  if nodes < 1 ∨ 32 < nodes then 100 else if 96 < arcs.length then 81 else arcsErr nodes arcs

theorem arcsErr_ok {nodes : Int} {arcs : List ArcD} (h : arcsErr nodes arcs = 0) : ∀ a ∈ arcs, arcErr nodes a = 0 := by
  induction arcs with
  | nil => simp
  | cons x r ih =>
    unfold arcsErr at h
    by_cases e : arcErr nodes x = 0
    · rw [if_pos e] at h
      intro a ha
      rcases List.mem_cons.1 ha with rfl | ha
      · exact e
      · exact ih h a ha
    · rw [if_neg e] at h; exact absurd h e

theorem arcsErr_at {nodes : Int} {arcs : List ArcD} {k : Nat} (hk : k < arcs.length) (hno : ∀ j (h : j < k), arcErr nodes (arcs[j]'(by omega)) = 0) (he : arcErr nodes arcs[k] ≠ 0) : arcsErr nodes arcs = arcErr nodes arcs[k] := by
  induction arcs generalizing k with
  | nil => simp at hk
  | cons x r ih =>
    cases k with
    | zero => unfold arcsErr; simp only [List.getElem_cons_zero] at he ⊢; rw [if_neg he]
    | succ k =>
      have h0 := hno 0 (by omega)
      simp only [List.getElem_cons_zero] at h0
      unfold arcsErr
      rw [if_pos h0]
      simp only [List.getElem_cons_succ] at he ⊢
      exact ih (by simpa using hk) (fun j h => by have := hno (j + 1) (by omega); simpa using this) he

theorem arcsErr_zero {nodes : Int} {arcs : List ArcD} (h : ∀ a ∈ arcs, arcErr nodes a = 0) : arcsErr nodes arcs = 0 := by
  induction arcs with
  | nil => rfl
  | cons x r ih =>
    unfold arcsErr
    rw [if_pos (h x (by simp))]
    exact ih (fun a ha => h a (by simp [ha]))

/-- A sound net. -/
structure Sound (nodes : Nat) (arcs : List ArcD) : Prop where
  n1 : 1 ≤ nodes
  n2 : nodes ≤ 32
  m : arcs.length ≤ 96
  fr : ∀ a ∈ arcs, 0 ≤ a.fr ∧ a.fr < nodes
  dst : ∀ a ∈ arcs, 0 ≤ a.dst ∧ a.dst < nodes
  give : ∀ a ∈ arcs, 1 ≤ a.give ∧ a.give ≤ 64
  take : ∀ a ∈ arcs, 1 ≤ a.take ∧ a.take ≤ 64
  start : ∀ a ∈ arcs, 0 ≤ a.start ∧ a.start ≤ 256

theorem arcErr_zero {nodes : Int} {a : ArcD} (h : arcErr nodes a = 0) : (0 ≤ a.fr ∧ a.fr < nodes) ∧ (0 ≤ a.dst ∧ a.dst < nodes) ∧ (1 ≤ a.give ∧ a.give ≤ 64) ∧ (1 ≤ a.take ∧ a.take ≤ 64) ∧ 0 ≤ a.start ∧ a.start ≤ 256 := by
  unfold arcErr at h
  split at h
  · omega
  · split at h
    · omega
    · split at h <;> omega

theorem sound_of {nodes : Int} {arcs : List ArcD} (h : netErr nodes arcs = 0) : ∃ n : Nat, nodes = n ∧ Sound n arcs := by
  unfold netErr at h
  split at h
  · omega
  · rename_i h1
    split at h
    · omega
    · rename_i h2
      have h3 := arcsErr_ok h
      refine ⟨nodes.toNat, by omega, by omega, by omega, by omega, ?_, ?_, ?_, ?_, ?_⟩ <;> intro a ha <;> have := arcErr_zero (h3 a ha) <;> omega

def arcAt (arcs : List ArcD) (i : Nat) : ArcD := arcs.getD i default

/-- The arcs that lead to v, from v. -/
def inTo (arcs : List ArcD) (v : Int) : List Nat := (List.range arcs.length).filter fun i => (arcAt arcs i).dst = v
def outOf (arcs : List ArcD) (v : Int) : List Nat := (List.range arcs.length).filter fun i => (arcAt arcs i).fr = v

def takeOne (arcs : List ArcD) (t : List Int) (i : Nat) : List Int := t.set i (t.getD i 0 - (arcAt arcs i).take)
def giveOne (arcs : List ArcD) (t : List Int) (i : Nat) : List Int := t.set i (t.getD i 0 + (arcAt arcs i).give)
def takeAll (arcs : List ArcD) (t : List Int) (l : List Nat) : List Int := l.foldl (takeOne arcs) t
def giveAll (arcs : List ArcD) (t : List Int) (l : List Nat) : List Int := l.foldl (giveOne arcs) t

/-- Tokens and firings. -/
structure Mark where
  toks : List Int
  fired : List Int

def fireOne (arcs : List ArcD) (s : Mark) (v : Nat) : Mark :=
  ⟨giveAll arcs (takeAll arcs s.toks (inTo arcs v)) (outOf arcs v), s.fired.set v (s.fired.getD v 0 + 1)⟩

/-- The first in-arc that lacks tokens; -1: none. -/
def shortOn (arcs : List ArcD) (t : List Int) : List Nat → Int
  | [] => -1
  | i :: r => if t.getD i 0 < (arcAt arcs i).take then i else shortOn arcs t r
def shortS (arcs : List ArcD) (nodes : Nat) (t : List Int) (v : Int) : Int := if 0 ≤ v ∧ v < nodes then shortOn arcs t (inTo arcs v) else -1
def mayS (arcs : List ArcD) (nodes : Nat) (t : List Int) (v : Int) : Bool := decide (0 ≤ v ∧ v < nodes) && decide (shortS arcs nodes t v < 0)

def fireS (arcs : List ArcD) (nodes : Nat) : Mark → List Int → Nat × Mark
  | s, [] => (0, s)
  | s, v :: r => if mayS arcs nodes s.toks v then ((fireS arcs nodes (fireOne arcs s v.toNat) r).1 + 1, (fireS arcs nodes (fireOne arcs s v.toNat) r).2) else (0, s)

theorem inTo_lt {arcs : List ArcD} {v : Int} {i : Nat} (h : i ∈ inTo arcs v) : i < arcs.length := by simp [inTo] at h; exact h.1
theorem outOf_lt {arcs : List ArcD} {v : Int} {i : Nat} (h : i ∈ outOf arcs v) : i < arcs.length := by simp [outOf] at h; exact h.1
theorem inTo_len (arcs : List ArcD) (v : Int) : (inTo arcs v).length ≤ arcs.length := by
  have := List.length_filter_le (fun i => decide ((arcAt arcs i).dst = v)) (List.range arcs.length); simpa [inTo] using this
theorem outOf_len (arcs : List ArcD) (v : Int) : (outOf arcs v).length ≤ arcs.length := by
  have := List.length_filter_le (fun i => decide ((arcAt arcs i).fr = v)) (List.range arcs.length); simpa [outOf] using this
theorem nodup_inTo (arcs : List ArcD) (v : Int) : (inTo arcs v).Nodup := List.Pairwise.filter _ List.nodup_range
theorem nodup_outOf (arcs : List ArcD) (v : Int) : (outOf arcs v).Nodup := List.Pairwise.filter _ List.nodup_range

theorem shortOn_cases (arcs : List ArcD) (t : List Int) (l : List Nat) : shortOn arcs t l = -1 ∧ (∀ i ∈ l, (arcAt arcs i).take ≤ t.getD i 0) ∨ ∃ i ∈ l, shortOn arcs t l = i ∧ t.getD i 0 < (arcAt arcs i).take := by
  induction l with
  | nil => left; simp [shortOn]
  | cons x r ih =>
    unfold shortOn
    by_cases h : t.getD x 0 < (arcAt arcs x).take
    · rw [if_pos h]; exact .inr ⟨x, by simp, rfl, h⟩
    · rw [if_neg h]
      rcases ih with ⟨h1, h2⟩ | ⟨i, hi, h1, h2⟩
      · left
        refine ⟨h1, fun i hi => ?_⟩
        rcases List.mem_cons.1 hi with rfl | hi
        · omega
        · exact h2 i hi
      · exact .inr ⟨i, by simp [hi], h1, h2⟩

theorem mayS_iff (arcs : List ArcD) (nodes : Nat) (t : List Int) (v : Int) : mayS arcs nodes t v = true ↔ (0 ≤ v ∧ v < nodes) ∧ ∀ i ∈ inTo arcs v, (arcAt arcs i).take ≤ t.getD i 0 := by
  unfold mayS shortS
  by_cases h : 0 ≤ v ∧ v < nodes
  · rw [if_pos h]
    simp only [h, and_self, decide_true, Bool.true_and, decide_eq_true_eq, true_and]
    rcases shortOn_cases arcs t (inTo arcs v) with ⟨h1, h2⟩ | ⟨i, hi, h1, h2⟩
    · constructor
      · intro _; exact h2
      · intro _; omega
    · constructor
      · intro h3; omega
      · intro h3; have := h3 i hi; omega
  · simp only [h, decide_false, Bool.false_and, false_and]; simp

/-- What a firing does to one arc. -/
theorem takeAll_len (arcs : List ArcD) (l : List Nat) : ∀ t, (takeAll arcs t l).length = t.length := by
  induction l with
  | nil => intro t; rfl
  | cons x r ih => intro t; show (takeAll arcs (takeOne arcs t x) r).length = _; rw [ih]; simp [takeOne]
theorem giveAll_len (arcs : List ArcD) (l : List Nat) : ∀ t, (giveAll arcs t l).length = t.length := by
  induction l with
  | nil => intro t; rfl
  | cons x r ih => intro t; show (giveAll arcs (giveOne arcs t x) r).length = _; rw [ih]; simp [giveOne]

theorem takeAll_at (arcs : List ArcD) (l : List Nat) (hl : l.Nodup) (j : Nat) : ∀ t : List Int, (∀ i ∈ l, i < t.length) → (takeAll arcs t l).getD j 0 = t.getD j 0 - if j ∈ l then (arcAt arcs j).take else 0 := by
  induction l with
  | nil => intro t _; simp [takeAll]
  | cons x r ih =>
    intro t ht
    have hx := ht x (by simp)
    have hn := List.nodup_cons.1 hl
    show (takeAll arcs (takeOne arcs t x) r).getD j 0 = _
    rw [ih hn.2 _ (fun i hi => by simp [takeOne]; exact ht i (by simp [hi]))]
    by_cases e : j = x
    · subst e
      rw [if_neg hn.1, if_pos (by simp)]
      simp [takeOne, hx]
    · have e2 : (takeOne arcs t x).getD j 0 = t.getD j 0 := by
        simp only [takeOne, List.getD_eq_getElem?_getD, List.getElem?_set]
        rw [if_neg (fun h => e h.symm)]
      rw [e2]
      by_cases hj : j ∈ r
      · rw [if_pos hj, if_pos (by simp [hj])]
      · rw [if_neg hj, if_neg (by simp [hj, e])]
theorem giveAll_at (arcs : List ArcD) (l : List Nat) (hl : l.Nodup) (j : Nat) : ∀ t : List Int, (∀ i ∈ l, i < t.length) → (giveAll arcs t l).getD j 0 = t.getD j 0 + if j ∈ l then (arcAt arcs j).give else 0 := by
  induction l with
  | nil => intro t _; simp [giveAll]
  | cons x r ih =>
    intro t ht
    have hx := ht x (by simp)
    have hn := List.nodup_cons.1 hl
    show (giveAll arcs (giveOne arcs t x) r).getD j 0 = _
    rw [ih hn.2 _ (fun i hi => by simp [giveOne]; exact ht i (by simp [hi]))]
    by_cases e : j = x
    · subst e
      rw [if_neg hn.1, if_pos (by simp)]
      simp [giveOne, hx]
    · have e2 : (giveOne arcs t x).getD j 0 = t.getD j 0 := by
        simp only [giveOne, List.getD_eq_getElem?_getD, List.getElem?_set]
        rw [if_neg (fun h => e h.symm)]
      rw [e2]
      by_cases hj : j ∈ r
      · rw [if_pos hj, if_pos (by simp [hj])]
      · rw [if_neg hj, if_neg (by simp [hj, e])]

theorem mem_inTo {arcs : List ArcD} {v : Int} {i : Nat} (hi : i < arcs.length) : i ∈ inTo arcs v ↔ (arcAt arcs i).dst = v := by simp [inTo, hi]
theorem mem_outOf {arcs : List ArcD} {v : Int} {i : Nat} (hi : i < arcs.length) : i ∈ outOf arcs v ↔ (arcAt arcs i).fr = v := by simp [outOf, hi]

theorem fireOne_tok (arcs : List ArcD) (s : Mark) (v : Nat) (hl : s.toks.length = arcs.length) (j : Nat) (hj : j < arcs.length) :
    (fireOne arcs s v).toks.getD j 0 = s.toks.getD j 0 - (if (arcAt arcs j).dst = v then (arcAt arcs j).take else 0) + if (arcAt arcs j).fr = v then (arcAt arcs j).give else 0 := by
  unfold fireOne
  simp only
  rw [giveAll_at _ _ (nodup_outOf arcs v) j _ (fun i hi => by rw [takeAll_len, hl]; exact outOf_lt hi), takeAll_at _ _ (nodup_inTo arcs v) j _ (fun i hi => by rw [hl]; exact inTo_lt hi)]
  simp only [mem_inTo hj, mem_outOf hj]
theorem fireOne_len (arcs : List ArcD) (s : Mark) (v : Nat) : (fireOne arcs s v).toks.length = s.toks.length ∧ (fireOne arcs s v).fired.length = s.fired.length := by
  unfold fireOne; simp [giveAll_len, takeAll_len]

/-- A mark that lists as long as the net. -/
structure Fits (nodes : Nat) (arcs : List ArcD) (s : Mark) : Prop where
  t : s.toks.length = arcs.length
  f : s.fired.length = nodes

theorem fits_one {nodes : Nat} {arcs : List ArcD} {s : Mark} (h : Fits nodes arcs s) (v : Nat) : Fits nodes arcs (fireOne arcs s v) := by
  have := fireOne_len arcs s v
  exact ⟨this.1.trans h.t, this.2.trans h.f⟩
theorem fits_fire {nodes : Nat} {arcs : List ArcD} (vs : List Int) : ∀ s, Fits nodes arcs s → Fits nodes arcs (fireS arcs nodes s vs).2 := by
  induction vs with
  | nil => intro s h; exact h
  | cons v r ih =>
    intro s h
    unfold fireS
    split
    · exact ih _ (fits_one h _)
    · exact h

theorem fireS_le (arcs : List ArcD) (nodes : Nat) (vs : List Int) : ∀ s, (fireS arcs nodes s vs).1 ≤ vs.length := by
  induction vs with
  | nil => intro s; simp [fireS]
  | cons v r ih =>
    intro s
    unfold fireS
    split
    · simp only [List.length_cons]; have := ih (fireOne arcs s v.toNat); omega
    · simp

/-- The state equation. -/
def Eqn (arcs : List ArcD) (s : Mark) : Prop := ∀ j, j < arcs.length → s.toks.getD j 0 = (arcAt arcs j).start + (arcAt arcs j).give * s.fired.getD (arcAt arcs j).fr.toNat 0 - (arcAt arcs j).take * s.fired.getD (arcAt arcs j).dst.toNat 0

theorem arcAt_mem {arcs : List ArcD} {j : Nat} (hj : j < arcs.length) : arcAt arcs j ∈ arcs := by
  unfold arcAt; rw [List.getD_eq_getElem?_getD, List.getElem?_eq_getElem hj]; exact List.getElem_mem hj

theorem getD_set (l : List Int) (v x : Nat) (y : Int) (hv : v < l.length) : (l.set v y).getD x 0 = if x = v then y else l.getD x 0 := by
  simp only [List.getD_eq_getElem?_getD, List.getElem?_set]
  by_cases e : v = x
  · subst e; simp [hv]
  · rw [if_neg e, if_neg (fun h => e h.symm)]

theorem eqn_one {nodes : Nat} {arcs : List ArcD} {s : Mark} (hs : Sound nodes arcs) (hf : Fits nodes arcs s) (h : Eqn arcs s) {v : Nat} (hv : v < nodes) : Eqn arcs (fireOne arcs s v) := by
  intro j hj
  rw [fireOne_tok arcs s v hf.t j hj, h j hj]
  have hm := arcAt_mem hj
  have h1 := hs.fr _ hm
  have h2 := hs.dst _ hm
  show _ = (arcAt arcs j).start + (arcAt arcs j).give * (s.fired.set v (s.fired.getD v 0 + 1)).getD (arcAt arcs j).fr.toNat 0 - (arcAt arcs j).take * (s.fired.set v (s.fired.getD v 0 + 1)).getD (arcAt arcs j).dst.toNat 0
  rw [getD_set _ _ _ _ (by rw [hf.f]; exact hv), getD_set _ _ _ _ (by rw [hf.f]; exact hv)]
  have e1 : ((arcAt arcs j).fr = v) = ((arcAt arcs j).fr.toNat = v) := by apply propext; omega
  have e2 : ((arcAt arcs j).dst = v) = ((arcAt arcs j).dst.toNat = v) := by apply propext; omega
  simp only [e1, e2]
  by_cases c1 : (arcAt arcs j).fr.toNat = v <;> by_cases c2 : (arcAt arcs j).dst.toNat = v
  · rw [if_pos c1, if_pos c2, if_pos c1, if_pos c2, c1, c2, Int.mul_add, Int.mul_add]; omega
  · rw [if_pos c1, if_neg c2, if_pos c1, if_neg c2, c1, Int.mul_add]; omega
  · rw [if_neg c1, if_pos c2, if_neg c1, if_pos c2, c2, Int.mul_add]; omega
  · rw [if_neg c1, if_neg c2, if_neg c1, if_neg c2]; omega

/-- Never fewer than 0. -/
def Pos (arcs : List ArcD) (s : Mark) : Prop := ∀ j, j < arcs.length → 0 ≤ s.toks.getD j 0

theorem pos_one {nodes : Nat} {arcs : List ArcD} {s : Mark} (hs : Sound nodes arcs) (hf : Fits nodes arcs s) (h : Pos arcs s) {v : Int} (hv : mayS arcs nodes s.toks v = true) : Pos arcs (fireOne arcs s v.toNat) := by
  obtain ⟨hb, hm⟩ := (mayS_iff _ _ _ _).1 hv
  intro j hj
  rw [fireOne_tok arcs s _ hf.t j hj]
  have h1 := hs.give _ (arcAt_mem hj)
  have h0 := h j hj
  have e : ((v.toNat : Nat) : Int) = v := by omega
  rw [e]
  by_cases c2 : (arcAt arcs j).dst = v
  · have := hm j ((mem_inTo hj).2 c2)
    rw [if_pos c2]; split <;> omega
  · rw [if_neg c2]; split <;> omega

theorem inv_fire {nodes : Nat} {arcs : List ArcD} (hs : Sound nodes arcs) (vs : List Int) : ∀ s, Fits nodes arcs s → Eqn arcs s → Pos arcs s → Eqn arcs (fireS arcs nodes s vs).2 ∧ Pos arcs (fireS arcs nodes s vs).2 := by
  induction vs with
  | nil => intro s _ h1 h2; exact ⟨h1, h2⟩
  | cons v r ih =>
    intro s hf h1 h2
    unfold fireS
    split
    · rename_i hv
      have hb := ((mayS_iff _ _ _ _).1 hv).1
      exact ih _ (fits_one hf _) (eqn_one hs hf h1 (by omega)) (pos_one hs hf h2 hv)
    · exact ⟨h1, h2⟩

def start (arcs : List ArcD) (nodes : Nat) : Mark := ⟨arcs.map (·.start), List.replicate nodes 0⟩
theorem fits_start (arcs : List ArcD) (nodes : Nat) : Fits nodes arcs (start arcs nodes) := ⟨by simp [start], by simp [start]⟩
theorem start_tok {arcs : List ArcD} {nodes j : Nat} (hj : j < arcs.length) : (start arcs nodes).toks.getD j 0 = (arcAt arcs j).start := by simp [start, arcAt, hj]
theorem start_fired (arcs : List ArcD) (nodes x : Nat) : (start arcs nodes).fired.getD x 0 = 0 := by
  simp only [start, List.getD_eq_getElem?_getD, List.getElem?_replicate]; split <;> rfl
theorem eqn_start (arcs : List ArcD) (nodes : Nat) : Eqn arcs (start arcs nodes) := by
  intro j hj
  rw [start_tok hj, start_fired, start_fired]; simp
theorem pos_start {nodes : Nat} {arcs : List ArcD} (hs : Sound nodes arcs) : Pos arcs (start arcs nodes) := by
  intro j hj
  rw [start_tok hj]
  exact (hs.start _ (arcAt_mem hj)).1

theorem list_ext_getD {a b : List Int} (h : a.length = b.length) (he : ∀ j, j < a.length → a.getD j 0 = b.getD j 0) : a = b := by
  apply List.ext_getElem h
  intro j h1 h2
  have := he j h1
  simpa [h1, h2] using this

theorem stays {nodes : Nat} {arcs : List ArcD} {s : Mark} (hs : Sound nodes arcs) (hf : Fits nodes arcs s) {v w : Int} (hv : mayS arcs nodes s.toks v = true) (hw : mayS arcs nodes s.toks w = true) (hvw : v ≠ w) :
    mayS arcs nodes (fireOne arcs s v.toNat).toks w = true := by
  obtain ⟨hb, _⟩ := (mayS_iff _ _ _ _).1 hv
  obtain ⟨hw1, hw2⟩ := (mayS_iff _ _ _ _).1 hw
  refine (mayS_iff _ _ _ _).2 ⟨hw1, fun i hi => ?_⟩
  have hlt := inTo_lt hi
  have hd := (mem_inTo hlt).1 hi
  rw [fireOne_tok arcs s _ hf.t i hlt]
  have e : ((v.toNat : Nat) : Int) = v := by omega
  rw [e, if_neg (by rw [hd]; exact fun h => hvw h.symm)]
  have := hw2 i hi
  have := hs.give _ (arcAt_mem hlt)
  split <;> omega

theorem getD_set_ne (l : List Int) (v x : Nat) (y : Int) (h : x ≠ v) : (l.set v y).getD x 0 = l.getD x 0 := by
  simp only [List.getD_eq_getElem?_getD, List.getElem?_set]
  rw [if_neg (fun e => h e.symm)]

theorem swap_one {nodes : Nat} {arcs : List ArcD} {s : Mark} (hf : Fits nodes arcs s) {v w : Nat} (hvw : v ≠ w) : fireOne arcs (fireOne arcs s v) w = fireOne arcs (fireOne arcs s w) v := by
  have f1 := fits_one hf v
  have f2 := fits_one hf w
  have e1 : (fireOne arcs (fireOne arcs s v) w).toks = (fireOne arcs (fireOne arcs s w) v).toks := by
    apply list_ext_getD
    · rw [(fits_one f1 w).t, (fits_one f2 v).t]
    · intro j hj
      rw [(fits_one f1 w).t] at hj
      rw [fireOne_tok _ _ _ f1.t j hj, fireOne_tok _ _ _ f2.t j hj, fireOne_tok _ _ _ hf.t j hj, fireOne_tok _ _ _ hf.t j hj]
      omega
  have e2 : (fireOne arcs (fireOne arcs s v) w).fired = (fireOne arcs (fireOne arcs s w) v).fired := by
    show (s.fired.set v (s.fired.getD v 0 + 1)).set w ((s.fired.set v (s.fired.getD v 0 + 1)).getD w 0 + 1) = (s.fired.set w (s.fired.getD w 0 + 1)).set v ((s.fired.set w (s.fired.getD w 0 + 1)).getD v 0 + 1)
    rw [getD_set_ne _ _ _ _ (fun h => hvw h.symm), getD_set_ne _ _ _ _ hvw, List.set_comm _ _ hvw]
  cases h1 : fireOne arcs (fireOne arcs s v) w
  cases h2 : fireOne arcs (fireOne arcs s w) v
  rw [h1, h2] at e1 e2
  simp only at e1 e2
  rw [e1, e2]

theorem swaps {nodes : Nat} {arcs : List ArcD} {s : Mark} (hs : Sound nodes arcs) (hf : Fits nodes arcs s) {v w : Int} (hv : mayS arcs nodes s.toks v = true) (hw : mayS arcs nodes s.toks w = true) (hvw : v ≠ w) :
    (fireS arcs nodes s [v, w]).1 = 2 ∧ fireS arcs nodes s [v, w] = fireS arcs nodes s [w, v] := by
  have h1 := stays hs hf hv hw hvw
  have h2 := stays hs hf hw hv (fun h => hvw h.symm)
  have b1 := ((mayS_iff _ _ _ _).1 hv).1
  have b2 := ((mayS_iff _ _ _ _).1 hw).1
  simp only [fireS, hv, hw, h1, h2, if_true]
  rw [swap_one hf (v := v.toNat) (w := w.toNat) (by omega)]
  simp

theorem fire_append (arcs : List ArcD) (nodes : Nat) (a b : List Int) : ∀ s, fireS arcs nodes s (a ++ b) =
    if (fireS arcs nodes s a).1 = a.length then ((fireS arcs nodes s a).1 + (fireS arcs nodes (fireS arcs nodes s a).2 b).1, (fireS arcs nodes (fireS arcs nodes s a).2 b).2) else fireS arcs nodes s a := by
  induction a with
  | nil => intro s; simp [fireS]
  | cons v r ih =>
    intro s
    simp only [List.cons_append, fireS]
    split
    · rw [ih]
      simp only [List.length_cons, Nat.add_right_cancel_iff]
      split
      · simp only [Prod.mk.injEq, and_true]; omega
      · rfl
    · simp

/-- Bounds on the tokens and counts. -/
def Bd (M : Int) (s : Mark) : Prop := (∀ x ∈ s.toks, -M ≤ x ∧ x ≤ M) ∧ ∀ x ∈ s.fired, -M ≤ x ∧ x ≤ M
theorem Bd.at {M : Int} {l : List Int} (h : ∀ x ∈ l, -M ≤ x ∧ x ≤ M) {i : Nat} (hi : i < l.length) : -M ≤ l.getD i 0 ∧ l.getD i 0 ≤ M := by
  rw [List.getD_eq_getElem?_getD, List.getElem?_eq_getElem hi]; exact h _ (List.getElem_mem hi)
theorem bd_set {M d : Int} {l : List Int} (h : ∀ x ∈ l, -M ≤ x ∧ x ≤ M) (i : Nat) (y : Int) (hd : 0 ≤ d) (hy : -(M + d) ≤ y ∧ y ≤ M + d) : ∀ x ∈ l.set i y, -(M + d) ≤ x ∧ x ≤ M + d := by
  intro x hx
  rcases List.mem_or_eq_of_mem_set hx with h1 | rfl
  · have := h x h1; omega
  · exact hy

theorem bd_take {arcs : List ArcD} (ha : ∀ a ∈ arcs, 1 ≤ a.take ∧ a.take ≤ 64) (l : List Nat) : ∀ (M : Int) (t : List Int), (∀ i ∈ l, i < t.length ∧ i < arcs.length) → (∀ x ∈ t, -M ≤ x ∧ x ≤ M) → ∀ x ∈ takeAll arcs t l, -(M + 64 * l.length) ≤ x ∧ x ≤ M + 64 * l.length := by
  induction l with
  | nil => intro M t _ h x hx; have := h x hx; simp; exact this
  | cons i r ih =>
    intro M t hl h x hx
    have hi := hl i (by simp)
    have h1 := bd_set (d := 64) h i (t.getD i 0 - (arcAt arcs i).take) (by omega) (by have := Bd.at h hi.1; have := ha _ (arcAt_mem hi.2); omega)
    have := ih (M + 64) (takeOne arcs t i) (fun j hj => by simp [takeOne]; exact hl j (by simp [hj])) h1 x hx
    simp only [List.length_cons]; omega
theorem bd_give {arcs : List ArcD} (ha : ∀ a ∈ arcs, 1 ≤ a.give ∧ a.give ≤ 64) (l : List Nat) : ∀ (M : Int) (t : List Int), (∀ i ∈ l, i < t.length ∧ i < arcs.length) → (∀ x ∈ t, -M ≤ x ∧ x ≤ M) → ∀ x ∈ giveAll arcs t l, -(M + 64 * l.length) ≤ x ∧ x ≤ M + 64 * l.length := by
  induction l with
  | nil => intro M t _ h x hx; have := h x hx; simp; exact this
  | cons i r ih =>
    intro M t hl h x hx
    have hi := hl i (by simp)
    have h1 := bd_set (d := 64) h i (t.getD i 0 + (arcAt arcs i).give) (by omega) (by have := Bd.at h hi.1; have := ha _ (arcAt_mem hi.2); omega)
    have := ih (M + 64) (giveOne arcs t i) (fun j hj => by simp [giveOne]; exact hl j (by simp [hj])) h1 x hx
    simp only [List.length_cons]; omega

theorem bd_one {nodes : Nat} {arcs : List ArcD} {s : Mark} (hs : Sound nodes arcs) (hf : Fits nodes arcs s) {M : Int} (h : Bd M s) (v : Nat) : Bd (M + 12288) (fireOne arcs s v) := by
  have hm := hs.m
  have l1 := inTo_len arcs v
  have l2 := outOf_len arcs v
  constructor
  · intro x hx
    have h1 := bd_take hs.take (inTo arcs v) M s.toks (fun i hi => ⟨by rw [hf.t]; exact inTo_lt hi, inTo_lt hi⟩) h.1
    have h2 := bd_give hs.give (outOf arcs v) _ _ (fun i hi => ⟨by rw [takeAll_len, hf.t]; exact outOf_lt hi, outOf_lt hi⟩) h1 x hx
    omega
  · by_cases hv : v < s.fired.length
    · have hh := Bd.at h.2 hv
      exact bd_set (d := 12288) h.2 v _ (by omega) (by omega)
    · intro x hx
      show -(M + 12288) ≤ x ∧ x ≤ M + 12288
      have hx' : x ∈ s.fired.set v (s.fired.getD v 0 + 1) := hx
      rw [List.set_eq_of_length_le (by omega)] at hx'
      have := h.2 x hx'; omega
theorem bd_fire {nodes : Nat} {arcs : List ArcD} (hs : Sound nodes arcs) (vs : List Int) : ∀ (s : Mark) (M : Int), Fits nodes arcs s → Bd M s → Bd (M + 12288 * vs.length) (fireS arcs nodes s vs).2 := by
  induction vs with
  | nil => intro s M _ h; simpa [fireS] using h
  | cons v r ih =>
    intro s M hf h
    unfold fireS
    split
    · have := ih _ _ (fits_one hf v.toNat) (bd_one hs hf h v.toNat)
      have e : M + 12288 + 12288 * (r.length : Int) = M + 12288 * ((v :: r).length : Int) := by simp only [List.length_cons]; omega
      rw [e] at this; exact this
    · refine ⟨fun x hx => ?_, fun x hx => ?_⟩
      · have := h.1 x hx; omega
      · have := h.2 x hx; omega
theorem bd_start {nodes : Nat} {arcs : List ArcD} (hs : Sound nodes arcs) : Bd 256 (start arcs nodes) := by
  refine ⟨fun x hx => ?_, fun x hx => ?_⟩
  · simp only [start, List.mem_map] at hx
    obtain ⟨a, ha, rfl⟩ := hx
    have := hs.start a ha; omega
  · have := (List.mem_replicate.1 hx).2; omega

end Go.Proofs.Ytijlgcbnoekmeaa
