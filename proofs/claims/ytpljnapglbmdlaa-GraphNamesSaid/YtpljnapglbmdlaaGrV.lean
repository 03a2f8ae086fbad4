/-
  Layer 8, plain: a graph but for where its lists lie; the graph of a sketch; places.
-/
import Derived.Test.YtpljnapglbmdlaaGrT
namespace Go.Proofs.Ytpljnapglbmdlaa
open Go Go.RowKit Go.Joins
set_option linter.all false

def GAct.bare (x : GAct) : GAct := { x with a := none, c := 0 }
def GEdge.bare (x : GEdge) : GEdge := { x with a := none, c := 0 }
def Gr.bare (g : Gr) : Gr := ⟨g.name, none, 0, g.acts.map GAct.bare, none, 0, g.edges.map GEdge.bare, none, 0, g.ins, none, 0, g.outs⟩
theorem firstE_map {α β : Type} {E : Nat → β → Int × Int} {f : α → β} : ∀ (l : List α) (i : Nat), firstE E i (l.map f) = firstE (fun i x => E i (f x)) i l := by
  intro l
  induction l with
  | nil => intro i; rfl
  | cons x r ih =>
    intro i
    rw [List.map_cons]
    unfold firstE
    rw [ih]
theorem outTk_bare (g : Gr) (e o : Nat) (a p : Int) : outTk g.bare e o a p = outTk g e o a p := by
  unfold outTk Gr.bare
  simp only [← List.map_take, List.any_map]
  rfl
theorem inTk_bare (g : Gr) (e o : Nat) (a p : Int) : inTk g.bare e o a p = inTk g e o a p := by
  unfold inTk Gr.bare
  simp only [← List.map_take, List.any_map]
  rfl
theorem namesOf_bare (g : Gr) (a i o : Nat) : namesOf g.bare a i o = namesOf g a i o := by
  unfold namesOf Gr.bare
  simp only [← List.map_take, List.map_map]
  rfl
theorem nIn_bare (x : GAct) : nIn x.bare = nIn x := rfl
theorem nOut_bare (x : GAct) : nOut x.bare = nOut x := rfl
theorem endE_bare (g : Gr) (n : GAct → Nat) (hn : ∀ x : GAct, n x.bare = n x) (tk : Bool) (a p : Int) : endE g.bare n tk a p = endE g n tk a p := by
  unfold endE
  have hl : g.bare.acts.length = g.acts.length := by simp [Gr.bare]
  by_cases h : 0 ≤ a ∧ a < g.acts.length
  · rw [dif_pos h, dif_pos (by rw [hl]; exact h)]
    have : n (g.bare.acts[a.toNat]'(by rw [hl]; omega)) = n (g.acts[a.toNat]'(by omega)) := by
      simp only [Gr.bare, List.getElem_map]; exact hn _
    rw [this]
  · rw [dif_neg h, dif_neg (by rw [hl]; exact h)]
theorem findG_bare (g : Gr) : findG g.bare = findG g := by
  have h1 : (fun i x => actE g.bare i (GAct.bare x)) = actE g := by
    funext i x; unfold actE; rw [namesOf_bare]; rfl
  have h2 : (fun i x => edgeE g.bare i (GEdge.bare x)) = edgeE g := by
    funext i x; unfold edgeE; simp only [outTk_bare, inTk_bare, endE_bare _ _ nOut_bare, endE_bare _ _ nIn_bare]; rfl
  have hla : g.bare.acts.length = g.acts.length := by simp [Gr.bare]
  have hle : g.bare.edges.length = g.edges.length := by simp [Gr.bare]
  have h3 : inE g.bare = inE g := by
    funext i x; unfold inE; simp only [namesOf_bare, inTk_bare, endE_bare _ _ nIn_bare, hla, hle]
  have h4 : outE g.bare = outE g := by
    funext i x; unfold outE; simp only [namesOf_bare, outTk_bare, endE_bare _ _ nOut_bare, hla, hle]; rfl
  have h5 : (fun i x => ((if openE g.bare i (GAct.bare x) then 87 else 0 : Int), (0 : Int))) = (fun i x => (if openE g i x then 87 else 0, 0)) := by
    funext i x; unfold openE; simp only [inTk_bare, outTk_bare, hle]; rfl
  unfold findG
  rw [hla, hle]
  show (if nameB g.name = false then _ else _) = _
  have ha : g.bare.acts = g.acts.map GAct.bare := rfl
  have he : g.bare.edges = g.edges.map GEdge.bare := rfl
  rw [ha, he, firstE_map, firstE_map, firstE_map, h1, h2, h3, h4]
  have h5' : (fun i x => (fun i x => ((if openE g.bare i x then 87 else 0 : Int), (0 : Int))) i (GAct.bare x)) = (fun i x => (if openE g i x then 87 else 0, 0)) := h5
  rw [h5']
  rfl
theorem findG_same {g h : Gr} (e : g.bare = h.bare) : findG g = findG h := by rw [← findG_bare g, e, findG_bare]

/-- The actors' items, and a name's number among them (from 1 on; 0: none). -/
def ofK (k : Int) (l : List SIt) : List SIt := l.filter (fun x => decide (x.kind = k))
def numV (l : List SIt) (s : ByteArray) : Int := match (ofK 1 l).findIdx? (fun x => decide (x.name = s)) with
  | some i => (i : Int) + 1
  | none => 0
theorem ofK_snoc (k : Int) (l : List SIt) (x : SIt) : ofK k (l ++ [x]) = if x.kind = k then ofK k l ++ [x] else ofK k l := by
  unfold ofK
  rw [List.filter_append]
  by_cases h : x.kind = k <;> simp [h]
theorem ofK_len (k : Int) (l : List SIt) : (ofK k l).length ≤ l.length := List.length_filter_le _ _
theorem numV_nil (s : ByteArray) : numV [] s = 0 := rfl
theorem numV_other {l : List SIt} {x : SIt} (h : x.kind ≠ 1) (s : ByteArray) : numV (l ++ [x]) s = numV l s := by
  unfold numV; rw [ofK_snoc, if_neg h]
theorem numV_act {l : List SIt} {x : SIt} (h : x.kind = 1) (s : ByteArray) : numV (l ++ [x]) s = if numV l s = 0 ∧ s = x.name then ((ofK 1 l).length : Int) + 1 else numV l s := by
  unfold numV
  rw [ofK_snoc, if_pos h, List.findIdx?_append]
  cases hf : (ofK 1 l).findIdx? (fun y => decide (y.name = s)) with
  | some i =>
    have : ¬ ((i : Int) + 1 = 0) := by omega
    simp [this]
  | none =>
    by_cases e : s = x.name
    · subst e; simp
    · have : ¬ x.name = s := fun h => e h.symm
      simp [e, this]
theorem numV_bd (l : List SIt) (s : ByteArray) : 0 ≤ numV l s ∧ numV l s ≤ l.length := by
  unfold numV
  cases h : (ofK 1 l).findIdx? (fun x => decide (x.name = s)) with
  | none => simp
  | some i =>
    have h1 := (List.findIdx?_eq_some_iff_getElem.1 h).1
    have h2 := ofK_len 1 l
    simp only
    omega
/-- What is built of a sketch, but for where its lists lie. -/
def itAct (x : SIt) : GAct := ⟨x.name, (tagS x.tag).1, none, 0, x.xs⟩
def itEdge (V : ByteArray → Int) (x : SIt) : GEdge := ⟨V x.fn - 1, x.fp, V x.tn - 1, x.tp, none, 0, x.xs⟩
def itIn (V : ByteArray → Int) (x : SIt) : GPort := ⟨x.name, V x.tn - 1, x.tp⟩
def itOut (V : ByteArray → Int) (x : SIt) : GPort := ⟨x.name, V x.fn - 1, x.fp⟩
def buildP (name : ByteArray) (V : ByteArray → Int) (l : List SIt) : Gr :=
  ⟨name, none, 0, (ofK 1 l).map itAct, none, 0, (ofK 2 l).map (itEdge V), none, 0, (ofK 3 l).map (itIn V), none, 0, (ofK 4 l).map (itOut V)⟩
def buildG (s : Sk) : Gr := buildP s.name (numV s.items) s.items
/-- Where a spot stands. -/
def placeS (l : List SIt) (kd i d : Int) : Int := match (ofK kd l)[i.toNat]? with
  | some x => if d = 1 then x.fa else if d = 2 then x.ta else x.at_
  | none => 0
def badK (x : SIt) : Bool := decide (x.kind < 1 ∨ 4 < x.kind)
/-- What Build answers: the fault, and whether there is a graph. -/
def buildF (s : Sk) : Int × Int := match s.items.find? badK with
  | some x => (1, x.at_)
  | none => if (findG (buildG s)).1 = 0 then (0, 0) else ((findG (buildG s)).1, placeS s.items (findG (buildG s)).2.1 (findG (buildG s)).2.2.1 (findG (buildG s)).2.2.2)
end Go.Proofs.Ytpljnapglbmdlaa
