/-
  A region that draws its order, by an invariant: each operation is looked at once, whatever order is drawn.
-/
import Derived.RegionTactic
namespace Go.Proofs.YtohalcbhckahmaaDoor
open Go
set_option linter.all false

theorem countP_less (p : Nat → Bool) (i : Nat) : ∀ (l : List Nat), i ∈ l → p i = true → l.countP (fun j => p j && j != i) + 1 ≤ l.countP p
  | [], h, _ => by cases h
  | x :: l, h, hp => by
    rw [List.countP_cons, List.countP_cons]
    by_cases hx : x = i
    · subst hx
      have : l.countP (fun j => p j && j != x) ≤ l.countP p := List.countP_mono_left (fun j _ h => by simp at h; exact h.1)
      simp [hp]; omega
    · have := countP_less p i l (by simpa [Ne.symm hx] using h) hp
      have hne : (x != i) = true := by simp [hx]
      simp only [hne, Bool.and_true]
      omega

theorem getD_mark (l : Array Bool) (i j : Nat) (d : Bool) (hi : i < l.size) : (l.setIfInBounds i true).getD j d = if j = i then true else l.getD j d := by
  by_cases h : j = i
  · subst h; simp [Array.getD, hi]
  · by_cases hj : j < l.size
    · simp [Array.getD, hj, h, Array.getElem_setIfInBounds, Ne.symm h]
    · simp [Array.getD, hj, h]

theorem wpAny_inv {P : Program} {md : Region.Mode} {ops : Array Oper} {Q : Exit → Act → World → Prop} (I : Array Bool → Act → World → Prop)
    (hdown : ∀ (i : Nat) (o : Oper), ops[i]? = some o → ∀ e ∈ o.after, Region.binds md e = true → e.on < i)
    (hstep : ∀ (listed : Array Bool) (a : Act) (w : World) (i : Nat) (o : Oper), listed.size = ops.size → I listed a w → ops[i]? = some o → listed.getD i false = false →
      (∀ e ∈ o.after, Region.binds md e = true → listed.getD e.on false = true) →
      ∀ K' : Act → World → Prop, (∀ a' w', I (listed.setIfInBounds i true) a' w' → K' a' w') → if Region.wanted o (yielded ops a.tmps) = true then Oper.wp P o a w K' Q else K' (a.put o.dst undef) w)
    (hend : ∀ listed a w, I listed a w → (∀ j, j < ops.size → listed.getD j false = true) → Q .normal a w) :
    ∀ (fuel : Nat) (listed : Array Bool) (a : Act) (w : World), listed.size = ops.size → (List.range ops.size).countP (fun j => !listed.getD j true) ≤ fuel → I listed a w → wpAny P md ops Q fuel listed a w := by
  have hall : ∀ (listed : Array Bool), listed.size = ops.size → Region.ready md ops listed = [] → ∀ j, j < ops.size → listed.getD j false = true := by
    intro listed hsz hr j
    induction j using Nat.strongRecOn with
    | _ j ih =>
      intro hj
      rcases hb : listed.getD j false with _ | _
      · exfalso
        have : j ∈ Region.ready md ops listed := by
          rw [mem_ready]
          refine ⟨?_, ops[j], by simp [hj], fun e he hb' => ?_⟩
          · simpa [Array.getD, hsz, hj] using hb
          · have := hdown j ops[j] (by simp [hj]) e he hb'
            exact ih _ this (by omega)
        rw [hr] at this; cases this
      · rfl
  intro fuel
  induction fuel with
  | zero =>
    intro listed a w hsz hc hI
    have hr : Region.ready md ops listed = [] := by
      rw [List.eq_nil_iff_forall_not_mem]
      intro j hj
      obtain ⟨hun, o, ho, _⟩ := mem_ready.1 hj
      have h0 := List.countP_eq_zero.1 (Nat.le_zero.1 hc) j (List.mem_range.2 (Array.getElem?_eq_some_iff.1 ho).1)
      simp only [hun, Bool.not_false, not_true_eq_false] at h0
    exact ⟨hr, hend _ _ _ hI (hall _ hsz hr)⟩
  | succ fuel ih =>
    intro listed a w hsz hc hI
    refine ⟨fun hr => hend _ _ _ hI (hall _ hsz hr), fun i hi => ?_⟩
    obtain ⟨hun, o, ho, hed⟩ := mem_ready.1 hi
    have hin : i < ops.size := (Array.getElem?_eq_some_iff.1 ho).1
    refine wpOp_step ho (fun K' hK => ?_)
    refine hstep listed a w i o hsz hI ho (by simpa [Array.getD, hsz, hin] using hun) hed K' (fun a' w' hI' => hK _ _ (ih _ _ _ (by simpa using hsz) ?_ hI'))
    have h1 := countP_less (fun j => !listed.getD j true) i (List.range ops.size) (List.mem_range.2 hin) (by simp only [hun, Bool.not_false])
    have h2 : (List.range ops.size).countP (fun j => !(listed.setIfInBounds i true).getD j true) = (List.range ops.size).countP (fun j => (!listed.getD j true) && j != i) := by
      congr 1
      funext j
      rw [getD_mark _ _ _ _ (by omega)]
      by_cases h : j = i <;> simp [h]
    rw [h2]
    omega

/-- Edges go downwards: seen by the kernel. -/
def downB (md : Region.Mode) (ops : Array Oper) : Bool := (List.range ops.size).all fun i => ((ops[i]?).map fun o => o.after.all fun e => !Region.binds md e || decide (e.on < i)).getD true

/-- From the region itself. -/
theorem wp_region_inv {P : Program} {id : Nat} {ops : Array Oper} {Q : Exit → Act → World → Prop} {a : Act} {w : World} (I : Array Bool → Act → World → Prop)
    (hm : P.follows .mixedOrders = true) (hdown : downB .any ops = true) (h0 : I (Array.replicate ops.size false) a w.drew)
    (hstep : ∀ (listed : Array Bool) (a : Act) (w : World) (i : Nat) (o : Oper), listed.size = ops.size → I listed a w → ops[i]? = some o → listed.getD i false = false →
      (∀ (j : Nat) (e : Edge), o.after[j]? = some e → Region.binds .any e = true → listed.getD e.on false = true) →
      ∀ K' : Act → World → Prop, (∀ a' w', I (listed.setIfInBounds i true) a' w' → K' a' w') → if Region.wanted o (yielded ops a.tmps) = true then Oper.wp P o a w K' Q else K' (a.put o.dst undef) w)
    (hend : ∀ listed a w, I listed a w → (∀ j, j < ops.size → listed.getD j false = true) → Q .normal a w) : (Code.region id ops true).wp P Q a w :=
  wp_region_any hm (wpAny_inv I (fun i o ho e he hb => by
      have h1 := List.all_eq_true.1 hdown i (List.mem_range.2 (Array.getElem?_eq_some_iff.1 ho).1)
      rw [ho] at h1
      have h2 := Array.all_eq_true_iff_forall_mem.1 h1 e he
      simpa [hb] using h2)
    (fun listed a w i o hs hI ho hun hdep K hK => hstep listed a w i o hs hI ho hun (fun j e he => hdep e (Array.mem_of_getElem? he)) K hK) hend _ _ _ _ (by simp) (Nat.le_trans List.countP_le_length (by simp)) h0)

end Go.Proofs.YtohalcbhckahmaaDoor
