/-
  Layer 8, plain: the rows of ports as a checker keeps them, and the document's questions.
-/
import Derived.Test.YtijlgcbnoekmeaaGrJ
import Derived.Test.YtijlgcbnoekmeaaGrH
namespace Go.Proofs.Ytijlgcbnoekmeaa
open Go Go.RowKit Go.Joins
set_option linter.all false

def side (g : Gr) (n : GAct → Nat) (T : Int → Int → Bool) : List (List Bool) := g.acts.mapIdx fun a x => (List.range (n x)).map fun (p : Nat) => T a p
theorem side_len (g : Gr) (n : GAct → Nat) (T : Int → Int → Bool) : (side g n T).length = g.acts.length := by simp [side]
theorem side_get (g : Gr) (n : GAct → Nat) (T : Int → Int → Bool) {a : Nat} (ha : a < g.acts.length) : (side g n T)[a]? = some ((List.range (n g.acts[a])).map fun (p : Nat) => T a p) := by
  simp [side, ha]
theorem rows_get {g : Gr} {n : GAct → Nat} {T : Int → Int → Bool} {L : List (Nat × List Bool)} (h : L.map (·.2) = side g n T) {a : Nat} (ha : a < g.acts.length) :
    (L.getD a (0, [])).2 = (List.range (n g.acts[a])).map fun (p : Nat) => T a p := by
  have h1 := side_get g n T ha
  rw [← h, List.getElem?_map] at h1
  rw [List.getD_eq_getElem?_getD]
  cases hL : L[a]? with
  | none => rw [hL] at h1; simp at h1
  | some r => rw [hL] at h1; simpa using h1
theorem rows_len {g : Gr} {n : GAct → Nat} {T : Int → Int → Bool} {L : List (Nat × List Bool)} (h : L.map (·.2) = side g n T) : L.length = g.acts.length := by
  have := congrArg List.length h
  rwa [List.length_map, side_len] at this
theorem takeE_side {g : Gr} {n : GAct → Nat} {T : Int → Int → Bool} {L : List (Nat × List Bool)} (h : L.map (·.2) = side g n T) (x p : Int) : takeE L x p = endE g n (T x p) x p := by
  unfold takeE endE
  rw [rows_len h]
  by_cases hx : 0 ≤ x ∧ x < g.acts.length
  · rw [if_pos hx, dif_pos hx]
    obtain ⟨a, rfl⟩ := Int.eq_ofNat_of_zero_le hx.1
    have ha : a < g.acts.length := by omega
    simp only [Int.toNat_natCast]
    simp only [rows_get h ha, List.length_map, List.length_range]
    by_cases hp : 0 ≤ p ∧ p < (n g.acts[a] : Int)
    · rw [if_pos hp, if_pos hp]
      obtain ⟨q, rfl⟩ := Int.eq_ofNat_of_zero_le hp.1
      have hq : q < n g.acts[a] := by omega
      simp [List.getD_eq_getElem?_getD, hq]
    · rw [if_neg hp, if_neg hp]
  · rw [if_neg hx, dif_neg hx]
theorem takeL_side {g : Gr} {n : GAct → Nat} {T : Int → Int → Bool} {L : List (Nat × List Bool)} (h : L.map (·.2) = side g n T) {x p : Int} (hE : takeE L x p = 0) :
    (takeL L x p).map (·.2) = side g n (fun a q => T a q || decide (x = a ∧ p = q)) := by
  have hb : (0 ≤ x ∧ x < L.length) ∧ (0 ≤ p ∧ p < (L.getD x.toNat (0, [])).2.length) := by
    unfold takeE at hE
    split at hE
    · split at hE
      · exact ⟨‹_›, ‹_›⟩
      · cases hE
    · cases hE
  obtain ⟨⟨hx0, hx1⟩, hp0, hp1⟩ := hb
  obtain ⟨a, rfl⟩ := Int.eq_ofNat_of_zero_le hx0
  obtain ⟨q, rfl⟩ := Int.eq_ofNat_of_zero_le hp0
  unfold takeL
  rw [if_pos hE]
  simp only [Int.toNat_natCast] at *
  have hla := rows_len h
  have ha : a < g.acts.length := by omega
  have hr := rows_get h ha
  rw [hr] at hp1
  simp only [List.length_map, List.length_range] at hp1
  apply List.ext_getElem?
  intro i
  rw [List.getElem?_map, List.getElem?_set]
  by_cases hi : a = i
  · subst hi
    rw [if_pos rfl, if_pos (by omega)]
    rw [side_get g n _ ha]
    simp only [Option.map_some, Option.some.injEq, hr]
    apply List.ext_getElem?
    intro j
    rw [List.getElem?_set]
    by_cases hj : q = j
    · subst hj
      simp [show q < n g.acts[a] by omega]
    · rw [if_neg hj]
      by_cases hjn : j < n g.acts[a]
      · have : ¬ ((q : Int) = (j : Int)) := by omega
        simp [hjn, this]
      · simp [hjn]
  · rw [if_neg hi]
    by_cases hil : i < g.acts.length
    · rw [side_get g n _ hil]
      have h1 := side_get g n T hil
      rw [← h, List.getElem?_map] at h1
      rw [h1]
      have : ¬ ((a : Int) = (i : Int)) := by omega
      simp [this]
    · have h1 : (side g n (fun a' q' => T a' q' || decide ((a : Int) = a' ∧ (q : Int) = q')))[i]? = none := by rw [List.getElem?_eq_none_iff, side_len]; omega
      rw [h1, List.getElem?_eq_none (by omega)]; rfl
theorem side_ext {g : Gr} {n : GAct → Nat} {T U : Int → Int → Bool} (h : ∀ a p, T a p = U a p) : side g n T = side g n U := by
  have : T = U := funext fun a => funext fun p => h a p
  rw [this]
theorem side_none (g : Gr) (n : GAct → Nat) : side g n (fun _ _ => false) = g.acts.map fun x => List.replicate (n x) false := by
  apply List.ext_getElem?
  intro i
  by_cases hi : i < g.acts.length
  · rw [side_get g n _ hi]
    simp [hi, List.map_const']
  · rw [List.getElem?_eq_none (by rw [side_len]; omega), List.getElem?_eq_none (by simp; omega)]
theorem outTk_zero (g : Gr) (a p : Int) : outTk g 0 0 a p = false := by simp [outTk]
theorem inTk_zero (g : Gr) (a p : Int) : inTk g 0 0 a p = false := by simp [inTk]
theorem outTk_edge (g : Gr) {k : Nat} (hk : k < g.edges.length) (a p : Int) : outTk g (k + 1) 0 a p = (outTk g k 0 a p || decide (g.edges[k].f = a ∧ g.edges[k].fp = p)) := by
  unfold outTk; rw [List.take_succ_eq_append_getElem hk, List.any_append]; simp
theorem inTk_edge (g : Gr) {k : Nat} (hk : k < g.edges.length) (a p : Int) : inTk g (k + 1) 0 a p = (inTk g k 0 a p || decide (g.edges[k].t = a ∧ g.edges[k].tp = p)) := by
  unfold inTk; rw [List.take_succ_eq_append_getElem hk, List.any_append]; simp
theorem outTk_out (g : Gr) (e : Nat) {k : Nat} (hk : k < g.outs.length) (a p : Int) : outTk g e (k + 1) a p = (outTk g e k a p || decide (g.outs[k].ac = a ∧ g.outs[k].po = p)) := by
  unfold outTk; rw [List.take_succ_eq_append_getElem hk, List.any_append]; simp [Bool.or_assoc]
theorem inTk_in (g : Gr) (e : Nat) {k : Nat} (hk : k < g.ins.length) (a p : Int) : inTk g e (k + 1) a p = (inTk g e k a p || decide (g.ins[k].ac = a ∧ g.ins[k].po = p)) := by
  unfold inTk; rw [List.take_succ_eq_append_getElem hk, List.any_append]; simp [Bool.or_assoc]
theorem names_act (g : Gr) {k : Nat} (hk : k < g.acts.length) : namesOf g (k + 1) 0 0 = namesOf g k 0 0 ++ [g.acts[k].name] := by
  unfold namesOf; simp only [List.take_succ_eq_append_getElem hk, List.map_append, List.map_cons, List.map_nil, List.take_zero, List.append_nil, List.append_assoc]
theorem names_in (g : Gr) (a : Nat) {k : Nat} (hk : k < g.ins.length) : namesOf g a (k + 1) 0 = namesOf g a k 0 ++ [g.ins[k].name] := by
  unfold namesOf; simp only [List.take_succ_eq_append_getElem hk, List.map_append, List.map_cons, List.map_nil, List.take_zero, List.append_nil, List.append_assoc]
theorem names_out (g : Gr) (a i : Nat) {k : Nat} (hk : k < g.outs.length) : namesOf g a i (k + 1) = namesOf g a i k ++ [g.outs[k].name] := by
  unfold namesOf; simp only [List.take_succ_eq_append_getElem hk, List.map_append, List.map_cons, List.map_nil, List.take_zero, List.append_nil, List.append_assoc]
theorem names_len (g : Gr) (a i o : Nat) : (namesOf g a i o).length ≤ a + i + o := by
  unfold namesOf
  simp only [List.length_append, List.length_map, List.length_take]
  omega
theorem firstE_skip {α : Type} {E : Nat → α → Int × Int} {l : List α} {k : Nat} (hk : k < l.length) (hb : ∀ j (hj : j < l.length), j < k → (E j l[j]).1 = 0) (hh : (E k l[k]).1 ≠ 0) : firstE E 0 l = some (k, E k l[k]) := by
  have h := firstE_hit (E := E) l 0 k hk (fun j hj hjk => by simpa using hb j hj hjk) (by simpa using hh)
  simpa using h
theorem firstE_all {α : Type} {E : Nat → α → Int × Int} {l : List α} (hb : ∀ j (hj : j < l.length), j < l.length → (E j l[j]).1 = 0) : firstE E 0 l = none :=
  firstE_none l 0 (fun j hj => by simpa using hb j hj hj)

/-- A spot, with its error. -/
def spotV (e k i d : Int) : Value := .tuple #[I e, .agg #[.int .u8 k, I i, I d]]
/-- What one of the checker's walks over a list answers: the first that something is wrong with, or nothing, and then what is known. -/
def Stage (r : Option (Nat × Int × Int)) (kind : Int) (ok : World → Prop) (e : Ending) (w' : World) : Prop := match r with
  | some (i, x, d) => e = .returned (spotV x kind i d)
  | none => e = .returned (spotV 0 0 0 0) ∧ ok w'
theorem spot_cells {w : World} {B : Nat} {a b c : Value} (h : w.heap[B]? = some (.cells #[a, b, c] 95 (0, 0))) :
    (w.cell? ⟨B, 0, none⟩ = some a ∧ w.cell? ⟨B, 1, none⟩ = some b ∧ w.cell? ⟨B, 2, none⟩ = some c) ∧ (w.frozen? ⟨B, 0, none⟩ = false ∧ w.frozen? ⟨B, 1, none⟩ = false ∧ w.frozen? ⟨B, 2, none⟩ = false) ∧ B < w.heap.size := by
  refine ⟨⟨?_, ?_, ?_⟩, ⟨unfrozen_of_block h 0, unfrozen_of_block h 1, unfrozen_of_block h 2⟩, (Array.getElem?_eq_some_iff.1 h).1⟩
  all_goals rw [cell_of_block h]; rfl
end Go.Proofs.Ytijlgcbnoekmeaa
