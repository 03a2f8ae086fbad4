/-
  Layer 20, plain: programs, what is wrong with them, their steps. No program text in sight.
-/
import Derived.WalkKit
namespace Go.Proofs.YtfmpjbiaamkobaaDoor
set_option linter.all false

structure OpD where
  kind : Int
  a : Int
  b : Int
deriving DecidableEq, Inhabited

/-- What the table needs to know of a program beside its operations. -/
structure Lims where
  ctr : Int
  ins : Int
  outs : Int
  parts : Int
  lines : Int
  ops : Int

/-- Does the table let an operation be, at place i? -/
def okOp (L : Lims) (i : Nat) (o : OpD) : Bool :=
  if o.kind = 0 then decide (o.a = 0 ∧ o.b = 0 ∧ (i : Int) = L.ops - 1)
  else if o.kind = 1 then decide (0 ≤ o.a ∧ o.a < L.ctr ∧ 1 ≤ o.b ∧ o.b ≤ 2048)
  else if o.kind = 2 then decide (0 ≤ o.a ∧ o.a < L.ctr ∧ 0 ≤ o.b ∧ o.b < L.ops)
  else if o.kind = 3 ∨ o.kind = 6 then decide (0 ≤ o.a ∧ o.a < L.lines ∧ 1 ≤ o.b ∧ o.b ≤ 64)
  else if o.kind = 4 then decide (0 ≤ o.a ∧ o.a < L.ins ∧ 1 ≤ o.b ∧ o.b ≤ 64)
  else if o.kind = 7 then decide (0 ≤ o.a ∧ o.a < L.outs ∧ 1 ≤ o.b ∧ o.b ≤ 64)
  else if o.kind = 5 then decide (0 ≤ o.a ∧ o.a < L.parts ∧ o.b = 0)
  else false

def opAt (ops : List OpD) (i : Nat) : OpD := ops.getD i default

def far : Int := 131073
def capS (x : Int) : Int := if x ≤ 131073 then x else 131073
/-- The steps of a loop: B of its head, the steps of its inside. -/
def loopK (B s : Int) : Int := if s + 1 ≤ 131072 / B then 1 + B * (s + 1) else 131073
def loopR (B s : Int) : Int := if s < 131073 ∧ s + 1 ≤ 131073 / B then 1 + B * (s + 1) else 131073

/-- Loops that are open (the last one first): the head's place and the steps so far; the steps outside of all. -/
structure Stk where
  fr : List (Nat × Int)
  b : Int

def bumpS (k : Int) : Stk → Stk
  | ⟨[], b⟩ => ⟨[], capS (b + k)⟩
  | ⟨(a, s) :: r, b⟩ => ⟨(a, capS (s + k)) :: r, b⟩

def stepS (L : Lims) (ops : List OpD) (i : Nat) (o : OpD) (σ : Stk) : Except Int Stk :=
  if okOp L i o = false then .error 200
  else if o.kind = 1 then (if σ.fr.any (fun f => (opAt ops f.1).a = o.a) then .error 201 else .ok ⟨(i, 0) :: σ.fr, σ.b⟩)
  else if o.kind = 2 then match σ.fr with
    | [] => .error 201
    | (a, s) :: r => if (opAt ops a).a ≠ o.a ∨ o.b ≠ (a : Int) + 1 then .error 201 else .ok (bumpS (loopK (opAt ops a).b s) ⟨r, σ.b⟩)
  else if o.kind = 0 then (if σ.fr = [] then .ok (bumpS 1 σ) else .error 201)
  else .ok (bumpS 1 σ)

/-- The walk through the rest of the operations, from place i on. -/
def walkS (L : Lims) (ops : List OpD) : List OpD → Nat → Stk → Except Int Stk
  | [], _, σ => .ok σ
  | o :: r, i, σ => match stepS L ops i o σ with
    | .error e => .error e
    | .ok τ => walkS L ops r (i + 1) τ

def lastEnd (ops : List OpD) : Bool := match ops.getLast? with
  | none => false
  | some o => decide (o.kind = 0)

/-- What the walk tells: the steps, the error. -/
def walkR (L : Lims) (ops : List OpD) : Int × Int :=
  match walkS L ops ops 0 ⟨[], 0⟩ with
  | .error e => (0, e)
  | .ok σ => if lastEnd ops = false then (0, 200) else if 131072 < σ.b then (0, 5) else (σ.b, 0)

/-- The same without steps. -/
def stepL (L : Lims) (ops : List OpD) (i : Nat) (o : OpD) (fr : List Nat) : Except Int (List Nat) :=
  if okOp L i o = false then .error 200
  else if o.kind = 1 then (if fr.any (fun f => (opAt ops f).a = o.a) then .error 201 else .ok (i :: fr))
  else if o.kind = 2 then match fr with
    | [] => .error 201
    | a :: r => if (opAt ops a).a ≠ o.a ∨ o.b ≠ (a : Int) + 1 then .error 201 else .ok r
  else if o.kind = 0 then (if fr = [] then .ok fr else .error 201)
  else .ok fr
def walkL (L : Lims) (ops : List OpD) : List OpD → Nat → List Nat → Except Int (List Nat)
  | [], _, fr => .ok fr
  | o :: r, i, fr => match stepL L ops i o fr with
    | .error e => .error e
    | .ok t => walkL L ops r (i + 1) t
def loopsE (L : Lims) (ops : List OpD) : Int :=
  match walkL L ops ops 0 [] with
  | .error e => e
  | .ok _ => if lastEnd ops = false then 200 else 0

theorem bumpS_fr (k : Int) (σ : Stk) : (bumpS k σ).fr.map (·.1) = σ.fr.map (·.1) := by
  obtain ⟨fr, b⟩ := σ
  cases fr with
  | nil => rfl
  | cons x r => rfl

theorem step_sim (L : Lims) (ops : List OpD) (i : Nat) (o : OpD) (σ : Stk) :
    stepL L ops i o (σ.fr.map (·.1)) = (stepS L ops i o σ).map (fun τ => τ.fr.map (·.1)) := by
  obtain ⟨fr, b⟩ := σ
  unfold stepL stepS
  by_cases h0 : okOp L i o = false
  · rw [if_pos h0, if_pos h0]; rfl
  · rw [if_neg h0, if_neg h0]
    by_cases h1 : o.kind = 1
    · rw [if_pos h1, if_pos h1]
      have e : (fr.map (·.1)).any (fun f => decide ((opAt ops f).a = o.a)) = fr.any (fun f => decide ((opAt ops f.1).a = o.a)) := by simp [List.any_map, Function.comp_def]
      simp only [e]
      by_cases hx : (fr.any (fun f => decide ((opAt ops f.1).a = o.a))) = true
      · rw [if_pos hx, if_pos hx]; rfl
      · rw [if_neg hx, if_neg hx]; rfl
    · rw [if_neg h1, if_neg h1]
      by_cases h2 : o.kind = 2
      · rw [if_pos h2, if_pos h2]
        cases fr with
        | nil => rfl
        | cons x r =>
          obtain ⟨a, s⟩ := x
          simp only [List.map_cons]
          by_cases hx : (opAt ops a).a ≠ o.a ∨ o.b ≠ (a : Int) + 1
          · rw [if_pos hx, if_pos hx]; rfl
          · rw [if_neg hx, if_neg hx]
            exact congrArg Except.ok (bumpS_fr _ ⟨r, b⟩).symm
      · rw [if_neg h2, if_neg h2]
        by_cases h3 : o.kind = 0
        · rw [if_pos h3, if_pos h3]
          cases fr with
          | nil => rfl
          | cons x r => rfl
        · rw [if_neg h3, if_neg h3]
          exact congrArg Except.ok (bumpS_fr _ ⟨fr, b⟩).symm

theorem walk_sim (L : Lims) (ops : List OpD) : ∀ (r : List OpD) (i : Nat) (σ : Stk), walkL L ops r i (σ.fr.map (·.1)) = (walkS L ops r i σ).map (fun τ => τ.fr.map (·.1)) := by
  intro r
  induction r with
  | nil => intro i σ; rfl
  | cons o r ih =>
    intro i σ
    unfold walkL walkS
    rw [step_sim]
    cases stepS L ops i o σ with
    | error e => rfl
    | ok τ => simp only [Except.map]; exact ih (i + 1) τ

/-- The steps from a place on, up to the back that closes, or the end; and where that is. -/
def rowsS (ops : List OpD) : Nat → Nat → Int × Nat
  | 0, at_ => (0, at_)
  | f + 1, at_ =>
    if ops.length ≤ at_ ∨ (opAt ops at_).kind = 2 then (0, at_)
    else if (opAt ops at_).kind = 1 then
      (capS (loopR (opAt ops at_).b (rowsS ops f (at_ + 1)).1 + (rowsS ops f ((rowsS ops f (at_ + 1)).2 + 1)).1), (rowsS ops f ((rowsS ops f (at_ + 1)).2 + 1)).2)
    else (capS (1 + (rowsS ops f (at_ + 1)).1), (rowsS ops f (at_ + 1)).2)

theorem capS_le (x : Int) : capS x ≤ 131073 := by unfold capS; split <;> omega
theorem capS_nn {x : Int} (h : 0 ≤ x) : 0 ≤ capS x := by unfold capS; split <;> omega
theorem capS_id {x : Int} (h : x ≤ 131073) : capS x = x := by unfold capS; rw [if_pos h]
theorem capS_add {x y : Int} (hx : 0 ≤ x) (hy : 0 ≤ y) : capS (capS x + y) = capS (x + y) := by unfold capS; (repeat' split) <;> omega
theorem capS_add' {x y : Int} (hx : 0 ≤ x) (hy : 0 ≤ y) : capS (x + capS y) = capS (x + y) := by unfold capS; (repeat' split) <;> omega
theorem loopR_nn {B s : Int} (hB : 1 ≤ B) (hs : 0 ≤ s) : 0 ≤ loopR B s := by
  unfold loopR; split
  · have := Int.mul_nonneg (show 0 ≤ B by omega) (show 0 ≤ s + 1 by omega); omega
  · omega
theorem loopK_nn {B s : Int} (hB : 1 ≤ B) (hs : 0 ≤ s) : 0 ≤ loopK B s := by
  unfold loopK; split
  · have := Int.mul_nonneg (show 0 ≤ B by omega) (show 0 ≤ s + 1 by omega); omega
  · omega
/-- The two ways to reckon a loop are the same under the cap. -/
theorem loopKR {B s : Int} (hB : 1 ≤ B) (hs : 0 ≤ s) (hs2 : s ≤ 131073) (x : Int) (hx : 0 ≤ x) : capS (x + loopK B s) = capS (x + loopR B s) := by
  have key : ∀ M : Int, (s + 1 ≤ M / B) ↔ B * (s + 1) ≤ M := by
    intro M
    rw [Int.le_ediv_iff_mul_le (by omega), Int.mul_comm]
  have hm : s + 1 ≤ B * (s + 1) := by
    have := Int.mul_le_mul_of_nonneg_right hB (show 0 ≤ s + 1 by omega)
    omega
  unfold loopK loopR
  simp only [key]
  generalize B * (s + 1) = m at hm ⊢
  unfold capS
  (repeat' split) <;> omega

theorem rowsS_nn {ops : List OpD} (hB : ∀ o ∈ ops, o.kind = 1 → 1 ≤ o.b) : ∀ (f at_ : Nat), 0 ≤ (rowsS ops f at_).1 ∧ (rowsS ops f at_).1 ≤ 131073 ∧ at_ ≤ (rowsS ops f at_).2 := by
  intro f
  induction f with
  | zero => intro at_; simp [rowsS]
  | succ f ih =>
    intro at_
    unfold rowsS
    split
    · simp
    · rename_i h0
      split
      · rename_i h1
        obtain ⟨a1, a2, a3⟩ := ih (at_ + 1)
        obtain ⟨b1, b2, b3⟩ := ih ((rowsS ops f (at_ + 1)).2 + 1)
        have hlt : at_ < ops.length := by omega
        have hmem : opAt ops at_ ∈ ops := by unfold opAt; rw [List.getD_eq_getElem?_getD, List.getElem?_eq_getElem hlt]; exact List.getElem_mem hlt
        have hk := loopR_nn (hB _ hmem h1) a1
        exact ⟨capS_nn (by omega), capS_le _, by simp only; omega⟩
      · obtain ⟨a1, a2, a3⟩ := ih (at_ + 1)
        exact ⟨capS_nn (by omega), capS_le _, by simp only; omega⟩

theorem loopsE_eq (L : Lims) (ops : List OpD) : loopsE L ops = match walkS L ops ops 0 ⟨[], 0⟩ with
    | .error e => e
    | .ok _ => if lastEnd ops = false then 200 else 0 := by
  have h := walk_sim L ops ops 0 ⟨[], 0⟩
  simp only [List.map_nil] at h
  unfold loopsE
  rw [h]
  cases walkS L ops ops 0 ⟨[], 0⟩ <;> rfl

theorem bumpS_zero {σ : Stk} (h : ∀ a s r, σ.fr = (a, s) :: r → s ≤ 131073) (hb : σ.b ≤ 131073) : bumpS 0 σ = σ := by
  obtain ⟨fr, b⟩ := σ
  cases fr with
  | nil => simp only [bumpS, Int.add_zero]; rw [capS_id hb]
  | cons x r => obtain ⟨a, s⟩ := x; simp only [bumpS, Int.add_zero]; rw [capS_id (h a s r rfl)]
/-- All that is kept of steps is from 0 to the cap. -/
def Small (σ : Stk) : Prop := (∀ x ∈ σ.fr, 0 ≤ x.2 ∧ x.2 ≤ 131073) ∧ 0 ≤ σ.b ∧ σ.b ≤ 131073
theorem small_bump {σ : Stk} (h : Small σ) {k : Int} (hk : 0 ≤ k) : Small (bumpS k σ) := by
  obtain ⟨fr, b⟩ := σ
  obtain ⟨h1, h2, h3⟩ := h
  simp only at h1 h2 h3
  cases fr with
  | nil => exact ⟨by simp [bumpS], capS_nn (by omega), capS_le _⟩
  | cons x r =>
    obtain ⟨a, s⟩ := x
    refine ⟨?_, h2, h3⟩
    intro y hy
    simp only [bumpS, List.mem_cons] at hy
    rcases hy with rfl | hy
    · have := h1 (a, s) (by simp); exact ⟨capS_nn (by simp only at this; omega), capS_le _⟩
    · exact h1 y (by simp [hy])
theorem bump_bump {σ : Stk} (h : Small σ) {k m : Int} (hk : 0 ≤ k) (hm : 0 ≤ m) : bumpS m (bumpS k σ) = bumpS (capS (k + m)) σ := by
  obtain ⟨fr, b⟩ := σ
  obtain ⟨h1, h2, h3⟩ := h
  simp only at h1 h2 h3
  cases fr with
  | nil => simp only [bumpS]; rw [capS_add (by omega) hm, capS_add' h2 (by omega), Int.add_assoc]
  | cons x r =>
    obtain ⟨a, s⟩ := x
    have := h1 (a, s) (by simp)
    simp only at this
    simp only [bumpS]; rw [capS_add (by omega) hm, capS_add' this.1 (by omega), Int.add_assoc]

theorem stepS_1 {L : Lims} {ops : List OpD} {i : Nat} {o : OpD} {σ ρ : Stk} (h : stepS L ops i o σ = .ok ρ) (h1 : o.kind = 1) : ρ = ⟨(i, 0) :: σ.fr, σ.b⟩ := by
  unfold stepS at h
  by_cases hk : okOp L i o = false
  · rw [if_pos hk] at h; cases h
  · rw [if_neg hk, if_pos h1] at h
    by_cases hx : (σ.fr.any (fun f => decide ((opAt ops f.1).a = o.a))) = true
    · rw [if_pos hx] at h; cases h
    · rw [if_neg hx] at h; cases h; rfl
theorem stepS_2 {L : Lims} {ops : List OpD} {i : Nat} {o : OpD} {ρ : Stk} {a : Nat} {s b : Int} {r : List (Nat × Int)} (h : stepS L ops i o ⟨(a, s) :: r, b⟩ = .ok ρ) (h2 : o.kind = 2) : ρ = bumpS (loopK (opAt ops a).b s) ⟨r, b⟩ := by
  unfold stepS at h
  by_cases hk : okOp L i o = false
  · rw [if_pos hk] at h; cases h
  · rw [if_neg hk, if_neg (by omega), if_pos h2] at h
    simp only at h
    by_cases hx : (opAt ops a).a ≠ o.a ∨ o.b ≠ (a : Int) + 1
    · rw [if_pos hx] at h; cases h
    · rw [if_neg hx] at h; cases h; rfl
theorem stepS_x {L : Lims} {ops : List OpD} {i : Nat} {o : OpD} {σ ρ : Stk} (h : stepS L ops i o σ = .ok ρ) (h1 : o.kind ≠ 1) (h2 : o.kind ≠ 2) : ρ = bumpS 1 σ ∧ (o.kind = 0 → σ.fr = []) := by
  unfold stepS at h
  by_cases hk : okOp L i o = false
  · rw [if_pos hk] at h; cases h
  · rw [if_neg hk, if_neg h1, if_neg h2] at h
    by_cases h0 : o.kind = 0
    · rw [if_pos h0] at h
      by_cases hf : σ.fr = []
      · rw [if_pos hf] at h; cases h; exact ⟨rfl, fun _ => hf⟩
      · rw [if_neg hf] at h; cases h
    · rw [if_neg h0] at h; cases h; exact ⟨rfl, fun h => absurd h h0⟩

theorem walkS_error_end {L : Lims} {ops : List OpD} : ∀ (r : List OpD) (i : Nat) (σ : Stk), (∀ o, r.getLast? = some o → o.kind = 0) → r ≠ [] → ∀ τ, walkS L ops r i σ = .ok τ → τ.fr = [] := by
  intro r
  induction r with
  | nil => intro i σ _ h; exact absurd rfl h
  | cons o r ih =>
    intro i σ hl _ τ h
    unfold walkS at h
    cases hs : stepS L ops i o σ with
    | error e => rw [hs] at h; cases h
    | ok ρ =>
      rw [hs] at h
      by_cases hr : r = []
      · subst hr
        simp only [walkS] at h
        cases h
        have hk := hl o (by simp)
        obtain ⟨rfl, hf⟩ := stepS_x hs (by omega) (by omega)
        have hf := hf hk
        obtain ⟨fr, b⟩ := σ
        simp only at hf; subst hf; rfl
      · exact ih (i + 1) ρ (fun o' ho' => hl o' (by rw [List.getLast?_cons]; simp [ho'])) hr τ h

/-- The walk from a place on to where the loop closes adds what rows tells. -/
theorem walk_rows {L : Lims} {ops : List OpD} (hB : ∀ o ∈ ops, o.kind = 1 → 1 ≤ o.b) (hend : ∀ o, ops.getLast? = some o → o.kind = 0) (τ : Stk) :
    ∀ (f i : Nat) (σ : Stk), ops.length ≤ i + f → i ≤ ops.length → Small σ → walkS L ops (ops.drop i) i σ = .ok τ →
      (rowsS ops f i).2 ≤ ops.length ∧ walkS L ops (ops.drop (rowsS ops f i).2) (rowsS ops f i).2 (bumpS (rowsS ops f i).1 σ) = .ok τ ∧ ((rowsS ops f i).2 = ops.length ∨ (opAt ops (rowsS ops f i).2).kind = 2) := by
  intro f
  induction f with
  | zero =>
    intro i σ hf hi hs h
    have : i = ops.length := by omega
    subst this
    refine ⟨by simp [rowsS], ?_, .inl (by simp [rowsS])⟩
    simp only [rowsS]
    rw [bumpS_zero (fun a s r e => (hs.1 (a, s) (by rw [e]; simp)).2) hs.2.2]; exact h
  | succ f ih =>
    intro i σ hf hi hs h
    have hz : bumpS 0 σ = σ := bumpS_zero (fun a s r e => (hs.1 (a, s) (by rw [e]; simp)).2) hs.2.2
    unfold rowsS
    by_cases h0 : ops.length ≤ i ∨ (opAt ops i).kind = 2
    · rw [if_pos h0]
      refine ⟨hi, by simp only; rw [hz]; exact h, ?_⟩
      rcases h0 with h0 | h0
      · exact .inl (by simp only; omega)
      · exact .inr h0
    · rw [if_neg h0]
      have hlt : i < ops.length := by omega
      have hk2 : (opAt ops i).kind ≠ 2 := fun e => h0 (.inr e)
      have hop : ops[i] = opAt ops i := by unfold opAt; simp [hlt]
      have hdrop : ops.drop i = opAt ops i :: ops.drop (i + 1) := by rw [← hop]; exact List.drop_eq_getElem_cons hlt
      have hmem : opAt ops i ∈ ops := by rw [← hop]; exact List.getElem_mem hlt
      rw [hdrop] at h
      unfold walkS at h
      by_cases h1 : (opAt ops i).kind = 1
      · rw [if_pos h1]
        cases hst : stepS L ops i (opAt ops i) σ with
        | error e => rw [hst] at h; cases h
        | ok ρ =>
          rw [hst] at h
          simp only at h
          have hρ := stepS_1 hst h1
          subst hρ
          have hs1 : Small ⟨(i, 0) :: σ.fr, σ.b⟩ := by
            refine ⟨?_, hs.2⟩
            intro y hy
            rcases List.mem_cons.1 hy with rfl | hy
            · simp
            · exact hs.1 y hy
          obtain ⟨j1, j2, j3⟩ := ih (i + 1) _ (by omega) (by omega) hs1 h
          have hnn := rowsS_nn hB f (i + 1)
          generalize hins : (rowsS ops f (i + 1)).1 = ins at j2 hnn
          generalize hbk : (rowsS ops f (i + 1)).2 = bk at j1 j2 j3 hnn
          simp only [bumpS, Int.zero_add] at j2
          rw [capS_id hnn.2.1] at j2
          rcases j3 with j3 | j3
          · exfalso
            subst j3
            rw [List.drop_length] at j2
            simp only [walkS] at j2
            have hfin := walkS_error_end (L := L) (ops := ops) (opAt ops i :: ops.drop (i + 1)) i σ (fun o ho => hend o (by rw [← hdrop, List.getLast?_drop] at ho; simpa [show ¬ ops.length ≤ i by omega] using ho)) (by simp) τ (by unfold walkS; rw [hst]; exact h)
            cases j2
            simp at hfin
          · have hblt : bk < ops.length := by
              rcases Nat.lt_or_ge bk ops.length with hh | hh
              · exact hh
              · exfalso; unfold opAt at j3; rw [List.getD_eq_getElem?_getD, List.getElem?_eq_none hh] at j3; simp [default, instInhabitedOpD.default] at j3
            have hop2 : ops[bk] = opAt ops bk := by unfold opAt; simp [hblt]
            have hdrop2 : ops.drop bk = opAt ops bk :: ops.drop (bk + 1) := by rw [← hop2]; exact List.drop_eq_getElem_cons hblt
            rw [hdrop2] at j2
            unfold walkS at j2
            cases hst2 : stepS L ops bk (opAt ops bk) ⟨(i, ins) :: σ.fr, σ.b⟩ with
            | error e => rw [hst2] at j2; cases j2
            | ok ρ =>
              rw [hst2] at j2
              simp only at j2
              have hρ : ρ = bumpS (loopK (opAt ops i).b ins) σ := stepS_2 hst2 j3
              have hB1 := hB _ hmem h1
              have e1 : bumpS (loopK (opAt ops i).b ins) σ = bumpS (loopR (opAt ops i).b ins) σ := by
                obtain ⟨fr, b⟩ := σ
                cases fr with
                | nil => simp only [bumpS]; rw [loopKR hB1 hnn.1 hnn.2.1 b hs.2.1]
                | cons x r =>
                  obtain ⟨a, s⟩ := x
                  simp only [bumpS]; rw [loopKR hB1 hnn.1 hnn.2.1 s (hs.1 (a, s) (by simp)).1]
              rw [hρ, e1] at j2
              have hRn := loopR_nn hB1 hnn.1
              obtain ⟨k1, k2, k3⟩ := ih (bk + 1) _ (by omega) (by omega) (small_bump hs hRn) j2
              have hn2 := rowsS_nn hB f (bk + 1)
              rw [bump_bump hs hRn hn2.1] at k2
              exact ⟨k1, k2, k3⟩
      · rw [if_neg h1]
        cases hst : stepS L ops i (opAt ops i) σ with
        | error e => rw [hst] at h; cases h
        | ok ρ =>
          rw [hst] at h
          simp only at h
          have hρ := (stepS_x hst h1 hk2).1
          subst hρ
          obtain ⟨k1, k2, k3⟩ := ih (i + 1) _ (by omega) (by omega) (small_bump hs (by omega)) h
          have hn2 := rowsS_nn hB f (i + 1)
          rw [bump_bump hs (by omega) hn2.1] at k2
          exact ⟨k1, k2, k3⟩

theorem walkS_all {L : Lims} {ops : List OpD} : ∀ (r : List OpD) (i : Nat) (σ τ : Stk), walkS L ops r i σ = .ok τ → ∀ (k : Nat) (hk : k < r.length), okOp L (i + k) r[k] = true := by
  intro r
  induction r with
  | nil => intro i σ τ _ k hk; simp at hk
  | cons o r ih =>
    intro i σ τ h k hk
    unfold walkS at h
    cases hs : stepS L ops i o σ with
    | error e => rw [hs] at h; cases h
    | ok ρ =>
      rw [hs] at h
      cases k with
      | zero =>
        simp only [Nat.add_zero, List.getElem_cons_zero]
        unfold stepS at hs
        by_cases hk : okOp L i o = false
        · rw [if_pos hk] at hs; cases hs
        · simpa using hk
      | succ k =>
        have := ih (i + 1) ρ τ h k (by simpa using hk)
        rw [show i + (k + 1) = i + 1 + k by omega]; simpa using this

theorem okOp_head {L : Lims} {i : Nat} {o : OpD} (h : okOp L i o = true) (h1 : o.kind = 1) : 0 ≤ o.a ∧ o.a < L.ctr ∧ 1 ≤ o.b ∧ o.b ≤ 2048 := by
  unfold okOp at h
  rw [if_neg (by omega), if_pos h1] at h
  simpa using h

theorem lastEnd_iff (ops : List OpD) : lastEnd ops = true ↔ ∃ o, ops.getLast? = some o ∧ o.kind = 0 := by
  unfold lastEnd
  cases ops.getLast? with
  | none => simp
  | some o => simp

/-- The program's answer is the document's. -/
theorem walkR_eq (L : Lims) (ops : List OpD) : walkR L ops = if loopsE L ops = 0 then (if 131072 < (rowsS ops ops.length 0).1 then (0, 5) else ((rowsS ops ops.length 0).1, 0)) else (0, loopsE L ops) := by
  rw [loopsE_eq]
  unfold walkR
  cases h : walkS L ops ops 0 ⟨[], 0⟩ with
  | error e =>
    simp only
    have : e ≠ 0 := by
      have key : ∀ (r : List OpD) (i : Nat) (σ : Stk) (e : Int), walkS L ops r i σ = .error e → e = 200 ∨ e = 201 := by
        intro r
        induction r with
        | nil => intro i σ e h; cases h
        | cons o r ih =>
          intro i σ e h
          unfold walkS at h
          cases hs : stepS L ops i o σ with
          | ok ρ => rw [hs] at h; exact ih _ _ _ h
          | error e' =>
            rw [hs] at h
            cases h
            unfold stepS at hs
            by_cases hk : okOp L i o = false
            · rw [if_pos hk] at hs; cases hs; exact .inl rfl
            · rw [if_neg hk] at hs
              right
              by_cases h1 : o.kind = 1
              · rw [if_pos h1] at hs
                by_cases hx : (σ.fr.any (fun f => decide ((opAt ops f.1).a = o.a))) = true
                · rw [if_pos hx] at hs; cases hs; rfl
                · rw [if_neg hx] at hs; cases hs
              · rw [if_neg h1] at hs
                by_cases h2 : o.kind = 2
                · rw [if_pos h2] at hs
                  obtain ⟨fr, b⟩ := σ
                  cases fr with
                  | nil => cases hs; rfl
                  | cons x r' =>
                    obtain ⟨a, s⟩ := x
                    simp only at hs
                    by_cases hx : (opAt ops a).a ≠ o.a ∨ o.b ≠ (a : Int) + 1
                    · rw [if_pos hx] at hs; cases hs; rfl
                    · rw [if_neg hx] at hs; cases hs
                · rw [if_neg h2] at hs
                  by_cases h3 : o.kind = 0
                  · rw [if_pos h3] at hs
                    by_cases hf : σ.fr = []
                    · rw [if_pos hf] at hs; cases hs
                    · rw [if_neg hf] at hs; cases hs; rfl
                  · rw [if_neg h3] at hs; cases hs
      rcases key _ _ _ _ h with rfl | rfl <;> decide
    rw [if_neg this]
  | ok τ =>
    simp only
    by_cases hl : lastEnd ops = false
    · rw [if_pos hl, if_pos hl]; rfl
    · rw [if_neg hl, if_neg hl, if_pos rfl]
      have hl' : lastEnd ops = true := by simpa using hl
      obtain ⟨ol, ho1, ho2⟩ := (lastEnd_iff ops).1 hl'
      have hall := walkS_all ops 0 _ _ h
      have hB : ∀ o ∈ ops, o.kind = 1 → 1 ≤ o.b := by
        intro o ho h1
        obtain ⟨k, hk, rfl⟩ := List.getElem_of_mem ho
        exact (okOp_head (hall k hk) h1).2.2.1
      obtain ⟨j1, j2, j3⟩ := walk_rows (L := L) hB (fun o ho => by rw [ho1] at ho; cases ho; exact ho2) τ ops.length 0 ⟨[], 0⟩ (by omega) (by omega) ⟨by simp, by simp, by simp⟩ (by simpa using h)
      have hnn := rowsS_nn hB ops.length 0
      have hb : (bumpS (rowsS ops ops.length 0).1 ⟨[], 0⟩) = ⟨[], (rowsS ops ops.length 0).1⟩ := by
        simp only [bumpS, Int.zero_add]; rw [capS_id hnn.2.1]
      rw [hb] at j2
      generalize (rowsS ops ops.length 0).1 = n at j2 hnn
      generalize (rowsS ops ops.length 0).2 = j at j1 j2 j3
      have hτ : τ.b = n := by
        rcases j3 with rfl | j3
        · rw [List.drop_length] at j2; simp only [walkS] at j2; cases j2; rfl
        · exfalso
          have hjl : j < ops.length := by
            rcases Nat.lt_or_ge j ops.length with hh | hh
            · exact hh
            · exfalso; unfold opAt at j3; rw [List.getD_eq_getElem?_getD, List.getElem?_eq_none hh] at j3; simp [default, instInhabitedOpD.default] at j3
          have hop2 : ops[j] = opAt ops j := by unfold opAt; simp [hjl]
          rw [show ops.drop j = opAt ops j :: ops.drop (j + 1) by rw [← hop2]; exact List.drop_eq_getElem_cons hjl] at j2
          unfold walkS at j2
          have : stepS L ops j (opAt ops j) ⟨[], n⟩ = .error 200 ∨ stepS L ops j (opAt ops j) ⟨[], n⟩ = .error 201 := by
            unfold stepS
            by_cases hk : okOp L j (opAt ops j) = false
            · rw [if_pos hk]; exact .inl rfl
            · rw [if_neg hk, if_neg (by omega), if_pos j3]; exact .inr rfl
          rcases this with e | e <;> rw [e] at j2 <;> cases j2
      rw [hτ]
end Go.Proofs.YtfmpjbiaamkobaaDoor
