/-
  Layer 8, plain: graphs, and what is wrong with them, and where. No program text in sight.
-/
import Derived.Test.YtohalcbhckahmaaDoorShapeC
namespace Go.Proofs.YtohalcbhckahmaaDoor
open Go
set_option linter.all false

structure GAct where
  name : ByteArray
  tag : Int
  a : Option Addr
  c : Nat
  xs : List Int
structure GEdge where
  f : Int
  fp : Int
  t : Int
  tp : Int
  a : Option Addr
  c : Nat
  xs : List Int
structure GPort where
  name : ByteArray
  ac : Int
  po : Int
structure Gr where
  name : ByteArray
  aa : Option Addr
  ac : Nat
  acts : List GAct
  ea : Option Addr
  ec : Nat
  edges : List GEdge
  ia : Option Addr
  ic : Nat
  ins : List GPort
  oa : Option Addr
  oc : Nat
  outs : List GPort

/-- A byte that a name may begin with, a byte inside a name. -/
def letterB (b : Int) : Bool := decide (97 ≤ b ∧ b ≤ 122)
def digitB (b : Int) : Bool := decide (48 ≤ b ∧ b ≤ 57)
def insideB (b : Int) : Bool := letterB b || digitB b || decide (b = 95)
/-- A string's bytes as numbers. -/
def bytesN (s : ByteArray) : List Int := s.data.toList.map fun b => (b.toNat : Int)
theorem bytesN_len (s : ByteArray) : (bytesN s).length = s.size := by unfold bytesN; rw [List.length_map, Array.length_toList]; rfl
theorem bytesN_rng (s : ByteArray) : ∀ b ∈ bytesN s, 0 ≤ b ∧ b ≤ 255 := by
  intro b hb
  obtain ⟨x, _, rfl⟩ := List.mem_map.1 hb
  have := x.toNat_lt
  omega
/-- A word that may be a name. -/
def nameL (l : List Int) : Bool := match l with
  | [] => false
  | b :: r => letterB b && (r.all insideB && decide (r.length ≤ 15))
def nameB (s : ByteArray) : Bool := nameL (bytesN s)

/-- How many in-ports and out-ports an actor has. -/
def nIn (x : GAct) : Nat := (shapeS x.tag x.xs).2.1.length
def nOut (x : GAct) : Nat := (shapeS x.tag x.xs).2.2.length

/-- Are the first e edges, or the first o outputs, on an out-port? -/
def outTk (g : Gr) (e o : Nat) (a p : Int) : Bool := (g.edges.take e).any (fun x => decide (x.f = a ∧ x.fp = p)) || (g.outs.take o).any (fun x => decide (x.ac = a ∧ x.po = p))
def inTk (g : Gr) (e i : Nat) (a p : Int) : Bool := (g.edges.take e).any (fun x => decide (x.t = a ∧ x.tp = p)) || (g.ins.take i).any (fun x => decide (x.ac = a ∧ x.po = p))
/-- What is wrong with an end on a port, of so many. -/
def endE (g : Gr) (n : GAct → Nat) (tk : Bool) (a p : Int) : Int :=
  if h : 0 ≤ a ∧ a < g.acts.length then (if 0 ≤ p ∧ p < n (g.acts[a.toNat]'(by omega)) then (if tk then 86 else 0) else 85) else 84
/-- The names of the first so many actors, inputs, outputs. -/
def namesOf (g : Gr) (a i o : Nat) : List ByteArray := (g.acts.take a).map (·.name) ++ ((g.ins.take i).map (·.name) ++ (g.outs.take o).map (·.name))
def nameE (l : List ByteArray) (s : ByteArray) : Int := if nameB s = false then 82 else if l.any (fun t => decide (bytesN t = bytesN s)) then 83 else 0

/-- What is wrong with an actor, an edge, an input, an output: the error, and which end. -/
def actE (g : Gr) (i : Nat) (x : GAct) : Int × Int := if nameE (namesOf g i 0 0) x.name ≠ 0 then (nameE (namesOf g i 0 0) x.name, 0) else ((shapeS x.tag x.xs).1, 0)
def edgeE (g : Gr) (i : Nat) (x : GEdge) : Int × Int :=
  if endE g nOut (outTk g i 0 x.f x.fp) x.f x.fp ≠ 0 then (endE g nOut (outTk g i 0 x.f x.fp) x.f x.fp, 1)
  else if endE g nIn (inTk g i 0 x.t x.tp) x.t x.tp ≠ 0 then (endE g nIn (inTk g i 0 x.t x.tp) x.t x.tp, 2)
  else if 256 < x.xs.length then (88, 0) else (0, 0)
def inE (g : Gr) (i : Nat) (x : GPort) : Int × Int :=
  if nameE (namesOf g g.acts.length i 0) x.name ≠ 0 then (nameE (namesOf g g.acts.length i 0) x.name, 0) else (endE g nIn (inTk g g.edges.length i x.ac x.po) x.ac x.po, 2)
def outE (g : Gr) (i : Nat) (x : GPort) : Int × Int :=
  if nameE (namesOf g g.acts.length g.ins.length i) x.name ≠ 0 then (nameE (namesOf g g.acts.length g.ins.length i) x.name, 0) else (endE g nOut (outTk g g.edges.length i x.ac x.po) x.ac x.po, 1)
/-- Has an actor a port that nothing is on? -/
def openE (g : Gr) (i : Nat) (x : GAct) : Bool :=
  (List.range (nIn x)).any (fun k => !inTk g g.edges.length g.ins.length i k) || (List.range (nOut x)).any (fun k => !outTk g g.edges.length g.outs.length i k)

/-- The first of a list that something is wrong with, from place i on: its place, the error, the end. -/
def firstE {α : Type} (E : Nat → α → Int × Int) : Nat → List α → Option (Nat × Int × Int)
  | _, [] => none
  | i, x :: r => if (E i x).1 ≠ 0 then some (i, E i x) else firstE E (i + 1) r
theorem firstE_hit {α : Type} {E : Nat → α → Int × Int} : ∀ (l : List α) (i k : Nat) (hk : k < l.length), (∀ j (hj : j < l.length), j < k → (E (i + j) l[j]).1 = 0) → (E (i + k) l[k]).1 ≠ 0 → firstE E i l = some (i + k, E (i + k) l[k]) := by
  intro l
  induction l with
  | nil => intro i k hk; simp at hk
  | cons x r ih =>
    intro i k hk hb hh
    unfold firstE
    cases k with
    | zero =>
      have hh' : (E i x).1 ≠ 0 := hh
      rw [if_pos hh']; rfl
    | succ k =>
      have h0 := hb 0 (by simp) (by omega)
      simp only [Nat.add_zero, List.getElem_cons_zero] at h0
      rw [if_neg (fun h => h h0)]
      have h1 := ih (i + 1) k (by simpa using hk) (fun j hj hjk => by
        have := hb (j + 1) (by simpa using hj) (by omega)
        rw [show i + 1 + j = i + (j + 1) by omega]; simpa using this) (by rw [show i + 1 + k = i + (k + 1) by omega]; simpa using hh)
      rw [h1, show i + 1 + k = i + (k + 1) by omega]; rfl
theorem firstE_none {α : Type} {E : Nat → α → Int × Int} : ∀ (l : List α) (i : Nat), (∀ j (hj : j < l.length), (E (i + j) l[j]).1 = 0) → firstE E i l = none := by
  intro l
  induction l with
  | nil => intro i _; rfl
  | cons x r ih =>
    intro i h
    unfold firstE
    have h0 := h 0 (by simp)
    simp only [Nat.add_zero, List.getElem_cons_zero] at h0
    rw [if_neg (fun h => h h0)]
    exact ih (i + 1) (fun j hj => by
      have := h (j + 1) (by simpa using hj)
      rw [show i + 1 + j = i + (j + 1) by omega]; simpa using this)

/-- What is wrong with a graph: the error, the kind of items, the place among them, the end. -/
def findG (g : Gr) : Int × Int × Int × Int :=
  if nameB g.name = false then (82, 0, 0, 0)
  else if g.acts.length = 0 then (80, 0, 0, 0)
  else if 32 < g.acts.length then (81, 1, 32, 0)
  else if 96 < g.edges.length then (81, 2, 96, 0)
  else if 16 < g.ins.length then (81, 3, 16, 0)
  else if 16 < g.outs.length then (81, 4, 16, 0)
  else match firstE (actE g) 0 g.acts with
    | some (i, e, _) => (e, 1, i, 0)
    | none => match firstE (edgeE g) 0 g.edges with
      | some (i, e, d) => (e, 2, i, d)
      | none => match firstE (inE g) 0 g.ins with
        | some (i, e, d) => (e, 3, i, d)
        | none => match firstE (outE g) 0 g.outs with
          | some (i, e, d) => (e, 4, i, d)
          | none => match firstE (fun i x => (if openE g i x then 87 else 0, 0)) 0 g.acts with
            | some (i, e, _) => (e, 1, i, 0)
            | none => (0, 0, 0, 0)
end Go.Proofs.YtohalcbhckahmaaDoor
