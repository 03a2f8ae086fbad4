/-
  A region that draws its order, its loads taken first under a condition S that its last stores (X) need not keep.
-/
import Derived.Test.YtohalcbhckahmaaDoorRegion
import Derived.Deep.RegionHeld3
namespace Go.Proofs.YtohalcbhckahmaaDoor
open Go
set_option linter.all false
section
variable {P : Program} {ops : Array Oper} {Q : Exit → Act → World → Prop} {md : Region.Mode} {S : World → Prop} {X : Nat → Bool}

/-- Whatever order is picked, and S holds behind every operation but those of X. -/
def wpAnyX (P : Program) (md : Region.Mode) (ops : Array Oper) (Q : Exit → Act → World → Prop) (S : World → Prop) (X : Nat → Bool) : Nat → Array Bool → Act → World → Prop
  | 0, listed, a, w => Region.ready md ops listed = [] ∧ Q .normal a w
  | fuel + 1, listed, a, w => (Region.ready md ops listed = [] → Q .normal a w) ∧
    ∀ i ∈ Region.ready md ops listed, wpOp P ops Q i (fun a' w' => (X i = false → S w') ∧ wpAnyX P md ops Q S X fuel (listed.setIfInBounds i true) a' w') a w

theorem any_of_X : ∀ (fuel : Nat) (listed : Array Bool) (a : Act) (w : World), wpAnyX P md ops Q S X fuel listed a w → wpAny P md ops Q fuel listed a w
  | 0, _, _, _, h => h
  | fuel + 1, _, _, _, h => ⟨h.1, fun i hi => wpOp_mono (fun a' w' h' => any_of_X fuel _ a' w' h'.2) (h.2 i hi)⟩

/-- j waits for i. -/
def waitsB (md : Region.Mode) (ops : Array Oper) (i : Nat) : Nat → Nat → Bool
  | 0, _ => false
  | f + 1, j => match ops[j]? with
    | none => false
    | some o => o.after.any fun e => Region.binds md e && (e.on == i || waitsB md ops i f e.on)

/-- Whoever is listed, those that it waits for are. -/
def Clo (md : Region.Mode) (ops : Array Oper) (l : Array Bool) : Prop := ∀ j o, ops[j]? = some o → l.getD j false = true → ∀ e ∈ o.after, Region.binds md e = true → l.getD e.on false = true
def cloB (md : Region.Mode) (ops : Array Oper) (l : Array Bool) : Bool := (List.range ops.size).all fun j => !l.getD j false || ((ops[j]?).map fun o => o.after.all fun e => !Region.binds md e || l.getD e.on false).getD true
theorem clo_of {l : Array Bool} (h : cloB md ops l = true) : Clo md ops l := by
  intro j o ho hj e he hb
  have h1 := List.all_eq_true.1 h j (List.mem_range.2 (Array.getElem?_eq_some_iff.1 ho).1)
  rw [ho, hj] at h1
  simp only [Bool.not_true, Bool.false_or, Option.map_some, Option.getD_some] at h1
  have h2 := Array.all_eq_true_iff_forall_mem.1 h1 e he
  simpa [hb] using h2

theorem clo_waits {l : Array Bool} (hc : Clo md ops l) (i : Nat) : ∀ (f j : Nat), waitsB md ops i f j = true → l.getD j false = true → l.getD i false = true := by
  intro f
  induction f with
  | zero => intro j h; cases h
  | succ f ih =>
    intro j h hj
    unfold waitsB at h
    cases ho : ops[j]? with
    | none => rw [ho] at h; cases h
    | some o =>
      rw [ho] at h
      obtain ⟨e, he, hb⟩ := Array.any_eq_true'.1 h
      simp only [Bool.and_eq_true, Bool.or_eq_true, beq_iff_eq] at hb
      have hl := hc j o ho hj e he hb.1
      rcases hb.2 with rfl | h2
      · exact hl
      · exact ih _ h2 hl
theorem ready_waits {l : Array Bool} (hc : Clo md ops l) {i j f : Nat} (h : waitsB md ops i f j = true) (hj : j ∈ Region.ready md ops l) : l.getD i false = true := by
  obtain ⟨_, o, ho, hall⟩ := mem_ready.1 hj
  cases f with
  | zero => cases h
  | succ f =>
    unfold waitsB at h
    rw [ho] at h
    obtain ⟨e, he, hb⟩ := Array.any_eq_true'.1 h
    simp only [Bool.and_eq_true, Bool.or_eq_true, beq_iff_eq] at hb
    have hl := hall e he hb.1
    rcases hb.2 with rfl | h2
    · exact hl
    · exact clo_waits hc i f _ h2 hl
theorem clo_step {l : Array Bool} (hc : Clo md ops l) {j : Nat} (hj : j ∈ Region.ready md ops l) : Clo md ops (l.setIfInBounds j true) := by
  intro k o ho hk e he hb
  by_cases hjk : j = k
  · subst hjk
    obtain ⟨_, o', ho', hall⟩ := mem_ready.1 hj
    rw [ho] at ho'; cases ho'
    exact getD_set_true (hall e he hb)
  · rw [getD_set_ne false hjk] at hk
    exact getD_set_true (hc k o ho hk e he hb)

theorem anyX_first {i : Nat} {oi : Oper} {v : Value} (hi : ops[i]? = some oi) (hsel : ∀ (j : Nat) (o : Oper) cs b, ops[j]? = some o → o.op ≠ .select cs b)
    (hQ : ∀ c a w, Q (.panic c) (a.put oi.dst v) w → Q (.panic c) a w) (hX : ∀ j, X j = true → j ≠ i → waitsB md ops i ops.size j = true) :
    ∀ (fuel : Nat) (l : Array Bool) (a : Act) (w : World), Clo md ops l →
      (∀ j oj, ops[j]? = some oj → j ≠ i → l.getD j true = false → (∀ e ∈ oj.after, Region.binds md e = true → e.on ≠ i) → oi.apart ops oj = true) →
      i ∈ Region.ready md ops l → YieldsIf P ops S oi v a → S w → wpAnyX P md ops Q S X fuel (l.setIfInBounds i true) (a.put oi.dst v) w → wpAnyX P md ops Q S X (fuel + 1) l a w := by
  intro fuel
  induction fuel with
  | zero =>
    intro l a w _ _ hr hy hS H
    refine ⟨fun h => (by rw [h] at hr; cases hr), fun j hj => ?_⟩
    by_cases hji : j = i
    · subst hji; exact hy.wpOp hi hS ⟨fun _ => hS, H⟩
    · have := ready_mono hj hji
      rw [H.1] at this
      cases this
  | succ fuel ih =>
    intro l a w hc hfree hr hy hS H
    have hin : i < ops.size := (Array.getElem?_eq_some_iff.1 hi).1
    have hiun : ¬ l.getD i false = true := by
      have h0 := (mem_ready.1 hr).1
      intro h1
      by_cases hl : i < l.size
      · simp [Array.getD, hl] at h0 h1; rw [h0] at h1; cases h1
      · simp [Array.getD, hl] at h1
    refine ⟨fun h => (by rw [h] at hr; cases hr), fun j hj => ?_⟩
    by_cases hji : j = i
    · subst hji; exact hy.wpOp hi hS ⟨fun _ => hS, H⟩
    · have h1 := H.2 j (ready_mono hj hji)
      obtain ⟨hjun, oj, hoj, hall⟩ := mem_ready.1 hj
      have hXj : X j = false := by
        cases hx : X j with
        | false => rfl
        | true => exact absurd (ready_waits hc (hX j hx hji) hj) hiun
      have hnot : ∀ e ∈ oj.after, Region.binds md e = true → e.on ≠ i := fun e he hb heq => hiun (by rw [← heq]; exact hall e he hb)
      have h2 := wpOp_putIf hoj (hfree j oj hoj hji hjun hnot) (fun cs b => hsel i oi cs b hi) (fun cs b => hsel j oj cs b hoj) hQ hy h1
      have hfree' : ∀ k ok, ops[k]? = some ok → k ≠ i → (l.setIfInBounds j true).getD k true = false →
          (∀ e ∈ ok.after, Region.binds md e = true → e.on ≠ i) → oi.apart ops ok = true := fun k ok hk hki hun hno => by
        refine hfree k ok hk hki ?_ hno
        by_cases hjk : j = k
        · subst hjk; exact hjun
        · rw [getD_set_ne true hjk] at hun; exact hun
      refine wpOp_mono (fun a' w' h3 => ⟨fun _ => h3.2.1 hXj, ih (l.setIfInBounds j true) a' w' (clo_step hc hj) hfree' (ready_mono hr (Ne.symm hji)) h3.1 (h3.2.1 hXj) ?_⟩) h2
      rw [Array.setIfInBounds_comm _ _ hji]
      exact h3.2.2

/-- Take number i first. -/
theorem anyX_take (i : Nat) {xs : List Nat} {fuel : Nat} {l : Array Bool} {a : Act} {w : World} (hs : Region.noSelect ops = true) (hf : Region.free md ops l i = true) (hr : (Region.ready md ops l).contains i = true)
    (hc : cloB md ops l = true) (hX : (xs.all fun j => j == i || waitsB md ops i ops.size j) = true) (hS : S w)
    (h : ∀ oi, ops[i]? = some oi → ∃ v, (∀ c a w, Q (.panic c) (a.put oi.dst v) w → Q (.panic c) a w) ∧ YieldsIf P ops S oi v a ∧ wpAnyX P md ops Q S (fun j => xs.contains j) fuel (l.setIfInBounds i true) (a.put oi.dst v) w) : wpAnyX P md ops Q S (fun j => xs.contains j) (fuel + 1) l a w := by
  have hr' : i ∈ Region.ready md ops l := by simpa using hr
  obtain ⟨_, oi, hi, _⟩ := mem_ready.1 hr'
  obtain ⟨v, hQ, hy, hn⟩ := h oi hi
  refine anyX_first hi (Region.noSelect_spec hs) hQ (fun j hj hji => ?_) fuel l a w (clo_of hc) (Region.free_spec hi hf) hr' hy hS hn
  have h1 := List.all_eq_true.1 hX j (by simpa using hj)
  simpa [hji] using h1

/-- The one that may come up. -/
theorem anyX_one (i : Nat) {fuel : Nat} {l : Array Bool} {a : Act} {w : World} (hr : Region.ready md ops l = [i])
    (h : ∀ oi, ops[i]? = some oi → ∀ K : Act → World → Prop, (∀ a' w', (X i = false → S w') → wpAnyX P md ops Q S X fuel (l.setIfInBounds i true) a' w' → K a' w') → if Region.wanted oi (yielded ops a.tmps) = true then Oper.wp P oi a w K Q else K (a.put oi.dst undef) w) :
    wpAnyX P md ops Q S X (fuel + 1) l a w := by
  refine ⟨fun h0 => (by rw [h0] at hr; cases hr), fun j hj => ?_⟩
  obtain ⟨_, o, ho, _⟩ := mem_ready.1 hj
  rw [hr] at hj
  obtain rfl := List.mem_singleton.1 hj
  exact wpOp_step ho (fun K' hK => h o ho K' (fun a' w' h1 h2 => hK _ _ ⟨h1, h2⟩))

theorem anyX_done {fuel : Nat} {l : Array Bool} {a : Act} {w : World} (hr : Region.ready md ops l = []) (h : Q .normal a w) : wpAnyX P md ops Q S X fuel l a w := by
  cases fuel with
  | zero => exact ⟨hr, h⟩
  | succ f => exact ⟨fun _ => h, by rw [hr]; simp⟩

theorem wp_region_X {id : Nat} {a : Act} {w : World} (S : World → Prop) (xs : List Nat) (hm : P.follows .mixedOrders = true) (hS : S w.drew)
    (h : wpAnyX P .any ops Q S (fun j => xs.contains j) ops.size (Array.replicate ops.size false) a w.drew) : (Code.region id ops true).wp P Q a w :=
  wp_region_any hm (any_of_X _ _ _ _ h)
end
end Go.Proofs.YtohalcbhckahmaaDoor
