/-
  Layer 20, plain: a sound program's numbers; what Decode tells of its bytes.
-/
import Derived.Test.YtfmpjbiaamkobaaDoorCodeK
namespace Go.Proofs.YtfmpjbiaamkobaaDoor
open Go Go.RowKit
set_option linter.all false

/-- All numbers in the lists are ints. -/
structure PgWf (p : Pg) : Prop where
  px : ∀ x ∈ p.parts, ∀ y ∈ x.xs, i64B y
  lx : ∀ l ∈ p.lines, ∀ y ∈ l.xs, i64B y

theorem oneS_len {ps : List Int} {k : Int} (h : oneS ps k = true) : ps.length = 1 := by obtain ⟨n, rfl, _⟩ := oneS_true h; rfl
theorem twoS_len {ps : List Int} (h : twoS ps = true) : ps.length = 2 := by obtain ⟨n, m, rfl, _⟩ := twoS_true h; rfl
theorem goodS_len {tag : Int} {ps : List Int} (h : goodS tag ps = true) : ps.length ≤ 16 := by
  unfold goodS at h
  repeat' split at h
  · simp at h; omega
  · rw [oneS_len h]; omega
  · rw [twoS_len h]; omega
  · rw [oneS_len h]; omega
  · simp at h; omega
  · simp at h; simp [h]
theorem partE_ok {x : PartD} (h : partE x = 0) : 1 ≤ x.tag ∧ x.tag ≤ 11 ∧ x.xs.length ≤ 16 := by
  unfold partE shapeS at h
  by_cases h1 : 1 ≤ x.tag ∧ x.tag ≤ 11
  · rw [if_pos h1] at h
    by_cases h2 : goodS x.tag x.xs = true
    · exact ⟨h1.1, h1.2, goodS_len h2⟩
    · rw [if_neg h2] at h; simp at h
  · rw [if_neg h1] at h; simp at h
theorem partsE_zero {l : List PartD} (h : partsE l = 0) : ∀ x ∈ l, partE x = 0 := by
  induction l with
  | nil => intro x hx; cases hx
  | cons y r ih =>
    unfold partsE at h
    by_cases h0 : partE y = 0
    · rw [if_neg (by simp [h0])] at h
      intro x hx
      rcases List.mem_cons.1 hx with rfl | hx
      · exact h0
      · exact ih h x hx
    · rw [if_pos h0] at h; exact absurd h h0
theorem linesE_zero {m : Int} {l : List LineD} (h : linesE m l = 0) : ∀ x ∈ l, lineE m x = 0 := by
  induction l with
  | nil => intro x hx; cases hx
  | cons y r ih =>
    unfold linesE at h
    by_cases h0 : lineE m y = 0
    · rw [if_neg (by simp [h0])] at h
      intro x hx
      rcases List.mem_cons.1 hx with rfl | hx
      · exact h0
      · exact ih h x hx
    · rw [if_pos h0] at h; exact absurd h h0
theorem lineE_ok {m : Int} {l : LineD} (h : lineE m l = 0) : 0 ≤ l.base ∧ l.base ≤ m ∧ 0 ≤ l.size ∧ l.size ≤ m - l.base ∧ (l.xs.length : Int) ≤ l.size := by
  unfold lineE at h
  repeat' split at h
  all_goals (first | omega | (exfalso; revert h; decide))
theorem okOp_range {L : Lims} {i : Nat} {o : OpD} (h : okOp L i o = true) (hc : L.ctr ≤ 17) (hi : L.ins ≤ 16) (ho : L.outs ≤ 16) (hp : L.parts ≤ 32) (hl : L.lines ≤ 96) (hn : L.ops ≤ 131072) :
    0 ≤ o.a ∧ o.a ≤ 131072 ∧ 0 ≤ o.b ∧ o.b ≤ 131072 ∧ 0 ≤ o.kind ∧ o.kind ≤ 7 := by
  unfold okOp at h
  repeat' split at h
  all_goals (try (simp only [decide_eq_true_eq] at h))
  all_goals (first | omega | (exfalso; revert h; decide))

theorem stepsR_all {p : Pg} (h : (stepsR p).2 = 0) : (0 ≤ p.mem ∧ p.mem ≤ 1024) ∧ (0 ≤ p.ctr ∧ p.ctr ≤ 17) ∧ (0 ≤ p.ins ∧ p.ins ≤ 16) ∧ (0 ≤ p.outs ∧ p.outs ≤ 16) ∧ p.parts.length ≤ 32 ∧ p.lines.length ≤ 96 ∧ p.ops.length ≤ 131072 ∧
    partsE p.parts = 0 ∧ linesE p.mem p.lines = 0 ∧ stepsR p = walkR p.lims p.ops := by
  unfold stepsR at h ⊢
  split at h
  · exact absurd h (by decide)
  · rename_i h1
    rw [if_neg h1]
    split at h
    · exact absurd h (by decide)
    · rename_i h2
      rw [if_neg h2]
      split at h
      · exact absurd h (by decide)
      · rename_i h3
        rw [if_neg h3]
        split at h
        · exact absurd h (by decide)
        · rename_i h4
          rw [if_neg h4]
          split at h
          · exact absurd h (by decide)
          · rename_i h5
            rw [if_neg h5]
            split at h
            · exact absurd h (by decide)
            · rename_i h6
              rw [if_neg h6]
              split at h
              · exact absurd h (by decide)
              · rename_i h7
                rw [if_neg h7]
                split at h
                · rename_i h8; exact absurd h h8
                · rename_i h8
                  rw [if_neg h8]
                  split at h
                  · rename_i h9; exact absurd h h9
                  · rename_i h9
                    rw [if_neg h9]
                    have n8 : partsE p.parts = 0 := Decidable.byContradiction h8
                    have n9 : linesE p.mem p.lines = 0 := Decidable.byContradiction h9
                    exact ⟨by omega, by omega, by omega, by omega, by omega, by omega, by omega, n8, n9, rfl⟩
theorem stepS_err {L : Lims} {ops : List OpD} {i : Nat} {o : OpD} {σ : Stk} {e : Int} (h : stepS L ops i o σ = .error e) : e ≠ 0 := by
  unfold stepS at h
  repeat' split at h
  all_goals (cases h)
  all_goals decide
theorem walkS_err (L : Lims) (ops : List OpD) : ∀ (r : List OpD) (i : Nat) (σ : Stk) (e : Int), walkS L ops r i σ = .error e → e ≠ 0 := by
  intro r
  induction r with
  | nil => intro i σ e h; cases h
  | cons o r ih =>
    intro i σ e h
    unfold walkS at h
    split at h
    · rename_i e' he
      cases h
      exact stepS_err he
    · exact ih _ _ _ h
theorem ops_ok {p : Pg} (h : (stepsR p).2 = 0) : ∀ (k : Nat) (hk : k < p.ops.length), okOp p.lims k p.ops[k] = true := by
  obtain ⟨_, h1, _⟩ := stepsR_ok h
  rw [loopsE_eq] at h1
  intro k hk
  cases hw : walkS p.lims p.ops p.ops 0 ⟨[], 0⟩ with
  | error e => 
    exfalso
    have hh : (walkR p.lims p.ops).2 = 0 := by rw [← (stepsR_all h).2.2.2.2.2.2.2.2.2]; exact h
    unfold walkR at hh
    rw [hw] at hh h1
    simp only at h1
    subst h1
    have := walkS_err p.lims p.ops _ _ _ _ hw
    exact this rfl
  | ok τ => have := walkS_all _ _ _ _ hw k hk; simpa using this
theorem fits_of {p : Pg} (h : (stepsR p).2 = 0) (hw : PgWf p) : Fits p := by
  obtain ⟨a, b, c, d, e, f, g, i, j, k⟩ := stepsR_all h
  refine ⟨a, b, c, d, e, f, g, fun x hx => ⟨(partE_ok (partsE_zero i x hx)).2.2, hw.px x hx⟩, fun x hx => ?_, fun x hx => ?_⟩
  · have := lineE_ok (linesE_zero j x hx)
    exact ⟨by omega, by omega, by omega, by omega, by omega, hw.lx x hx⟩
  · obtain ⟨n, hn, rfl⟩ := List.getElem_of_mem hx
    have := okOp_range (ops_ok h n hn) b.2 c.2 d.2 (by simp only [Pg.lims]; omega) (by simp only [Pg.lims]; omega) (by simp only [Pg.lims]; omega)
    omega
theorem tags_of {p : Pg} (h : (stepsR p).2 = 0) : ∀ x ∈ p.parts, 0 ≤ x.tag ∧ x.tag ≤ 255 := fun x hx => by
  have := partE_ok (partsE_zero (stepsR_all h).2.2.2.2.2.2.2.1 x hx); omega
theorem kinds_of {p : Pg} (h : (stepsR p).2 = 0) : ∀ x ∈ p.ops, 0 ≤ x.kind ∧ x.kind ≤ 255 := fun x hx => by
  obtain ⟨n, hn, rfl⟩ := List.getElem_of_mem hx
  obtain ⟨a, b, c, d, e, f, g, i, j, k⟩ := stepsR_all h
  have := okOp_range (ops_ok h n hn) b.2 c.2 d.2 (by simp only [Pg.lims]; omega) (by simp only [Pg.lims]; omega) (by simp only [Pg.lims]; omega)
  omega

/-! Places in memory do not count. -/
theorem partsE_bare (l : List PartD) : partsE (l.map PartD.bare) = partsE l := by
  induction l with
  | nil => rfl
  | cons x r ih => simp only [List.map_cons, partsE]; rw [ih]; rfl
theorem linesE_bare (m : Int) (l : List LineD) : linesE m (l.map LineD.bare) = linesE m l := by
  induction l with
  | nil => rfl
  | cons x r ih => simp only [List.map_cons, linesE]; rw [ih]; rfl
theorem stepsR_bare (p : Pg) : stepsR p.bare = stepsR p := by
  unfold stepsR Pg.bare Pg.lims
  simp only [partsE_bare, linesE_bare, List.length_map]
theorem restB_bare (p : Pg) : restB p.bare = restB p := by
  unfold restB Pg.bare
  simp only [List.length_map, List.flatMap_map]
  rfl
theorem progB_bare (p : Pg) : progB p.bare = progB p := by rw [progB_rest, progB_rest, restB_bare]
theorem stepsR_same {p q : Pg} (h : p.bare = q.bare) : stepsR p = stepsR q := by rw [← stepsR_bare p, h, stepsR_bare]
theorem progB_same {p q : Pg} (h : p.bare = q.bare) : progB p = progB q := by rw [← progB_bare p, h, progB_bare]

/-! Decode of what was written. -/
theorem decode_back {p : Pg} (h : (stepsR p).2 = 0) (hw : PgWf p) : decodeR (progB p) = .ok p.bare := by
  have hr := (reads_prog p (fits_of h hw)).1 []
  rw [List.append_nil] at hr
  unfold decodeR
  have e4 : (progB p).take 4 = [80, 78, 76, 49] := by rw [progB_rest]; rfl
  have d4 : (progB p).drop 4 = restB p := by rw [progB_rest]; rfl
  rw [if_neg (by rw [e4]; simp), d4, hr]
  simp only
  rw [if_neg (by simp), stepsR_bare, if_neg (by simp [h])]
theorem decode_more {p : Pg} (h : (stepsR p).2 = 0) (hw : PgWf p) (t : List Int) (ht : t ≠ []) : decodeR (progB p ++ t) = .error (204, ((progB p).length : Int)) := by
  have hr := (reads_prog p (fits_of h hw)).1 t
  unfold decodeR
  have e4 : (progB p ++ t).take 4 = [80, 78, 76, 49] := by rw [progB_rest]; rfl
  have d4 : (progB p ++ t).drop 4 = restB p ++ t := by rw [progB_rest]; rfl
  rw [if_neg (by rw [e4]; simp), d4, hr]
  simp only
  rw [if_pos ht]
  simp
theorem decode_cut {p : Pg} (h : (stepsR p).2 = 0) (hw : PgWf p) (k : Nat) (hk : k < (progB p).length) (h4 : 4 ≤ k) : decodeR ((progB p).take k) = .error (203, (k : Int)) := by
  have hl : (progB p).length = 4 + (restB p).length := by rw [progB_rest]; simp; omega
  have hr := (reads_prog p (fits_of h hw)).2 (k - 4) (by omega)
  have e : (progB p).take k = [80, 78, 76, 49] ++ (restB p).take (k - 4) := by
    rw [progB_rest, List.take_append, List.take_of_length_le (by simpa using h4)]; rfl
  unfold decodeR
  have e4 : ((progB p).take k).take 4 = [80, 78, 76, 49] := by rw [e]; rfl
  have d4 : ((progB p).take k).drop 4 = (restB p).take (k - 4) := by rw [e]; rfl
  rw [if_neg (by rw [e4]; simp), d4, hr]
  simp only
  rw [List.length_take, Nat.min_eq_left (by omega)]; simp
theorem decode_magic (L : List Int) (h : L.length < 4) : decodeR L = .error (202, 0) := by
  unfold decodeR
  rw [if_pos]
  intro e
  have := congrArg List.length e
  simp at this; omega
/-- What is read is what would be written. -/
theorem decode_bytes {L : List Int} (hb : ∀ b ∈ L, 0 ≤ b ∧ b ≤ 255) {p : Pg} (h : decodeR L = .ok p) : progB p = L ∧ (stepsR p).2 = 0 := by
  unfold decodeR at h
  by_cases h4 : L.take 4 = [80, 78, 76, 49]
  · rw [if_neg (by simp [h4])] at h
    have hL : L = [80, 78, 76, 49] ++ L.drop 4 := by rw [← h4, List.take_append_drop]
    cases hr : progR (L.drop 4) with
    | bad c k => rw [hr] at h; cases h
    | ok q r =>
      rw [hr] at h
      simp only at h
      by_cases hn : r = []
      · subst hn
        rw [if_neg (by simp)] at h
        by_cases hs : (stepsR q).2 = 0
        · rw [if_neg (by simp [hs])] at h
          cases h
          have := back_prog _ _ _ (fun b hx => hb b (List.mem_of_mem_drop hx)) hr
          refine ⟨?_, hs⟩
          rw [progB_rest, hL, this]; simp
        · rw [if_pos hs] at h; cases h
      · rw [if_pos hn] at h; cases h
  · rw [if_pos h4] at h; cases h

/-! Where a fault is. -/
def InB {α : Type} (f : List Int → Rd α) : Prop := ∀ L, (∀ c k, f L = .bad c k → k ≤ L.length ∧ c ≠ 0) ∧ ∀ x r, f L = .ok x r → r.length ≤ L.length
theorem InB.bind {α β : Type} {f : List Int → Rd α} {g : α → List Int → Rd β} (h : InB f) (k : ∀ x, InB (g x)) : InB (fun r => (f r).bind g) := by
  intro L
  cases hf : f L with
  | bad c n =>
    have := (h L).1 c n hf
    refine ⟨fun c' k' e => ?_, fun x r e => ?_⟩
    · simp only [hf, Rd.bind_bad] at e; cases e; exact this
    · simp only [hf, Rd.bind_bad] at e; cases e
  | ok x r =>
    have hr := (h L).2 x r hf
    refine ⟨fun c' k' e => ?_, fun y r' e => ?_⟩
    · simp only [hf, Rd.bind_ok] at e
      have := (k x r).1 c' k' e
      exact ⟨Nat.le_trans this.1 hr, this.2⟩
    · simp only [hf, Rd.bind_ok] at e
      exact Nat.le_trans ((k x r).2 y r' e) hr
theorem InB.pure {α : Type} (x : α) : InB (fun r => Rd.ok x r) := fun L => ⟨fun c k e => by (cases e), fun x r e => by cases e; exact Nat.le_refl _⟩
theorem inB_next : InB nextR := by
  intro L
  cases L with
  | nil => exact ⟨fun c k e => by cases e; exact ⟨Nat.le_refl _, by decide⟩, fun x r e => by cases e⟩
  | cons b r => exact ⟨fun c k e => by (cases e), fun x r e => by cases e; simp⟩
theorem inB_wholeG (last : Int) (frm : Nat) : ∀ (k i n : Nat) (L : List Int), (∀ c m, wholeG last frm k i n L = .bad c m → (m ≤ L.length ∨ m = frm) ∧ c ≠ 0) ∧ ∀ x r, wholeG last frm k i n L = .ok x r → r.length ≤ L.length := by
  intro k
  induction k with
  | zero => intro i n L; exact ⟨fun c m e => by cases e; exact ⟨.inr rfl, by decide⟩, fun x r e => by cases e⟩
  | succ k ih =>
    intro i n L
    cases L with
    | nil => exact ⟨fun c m e => by cases e; exact ⟨.inl (Nat.le_refl _), by decide⟩, fun x r e => by cases e⟩
    | cons b L =>
      rw [wholeG_cons]
      split
      · have := ih (i + 1) (n + b.toNat % 128 * 128 ^ i) L
        refine ⟨fun c m e => ?_, fun x r e => ?_⟩
        · have h := this.1 c m e; simp only [List.length_cons]; omega
        · have h := this.2 x r e; simp only [List.length_cons]; omega
      · split
        · exact ⟨fun c m e => by cases e; exact ⟨.inr rfl, by decide⟩, fun x r e => by cases e⟩
        · exact ⟨fun c m e => by (cases e), fun x r e => by cases e; simp⟩
theorem inB_whole (b : Nat) (last : Int) : InB (wholeR b last) := fun L => ⟨fun c k e => by have := (inB_wholeG last L.length b 0 0 L).1 c k e; omega, (inB_wholeG last L.length b 0 0 L).2⟩
theorem inB_many (most : Nat) : InB (manyR most) := by
  intro L
  unfold manyR
  cases hf : countR L with
  | bad c n =>
    have := (inB_whole 3 127 L).1 c n hf
    refine ⟨fun c' k' e => ?_, fun x r e => ?_⟩
    · simp only [Rd.bind_bad] at e; cases e; exact this
    · simp only [Rd.bind_bad] at e; cases e
  | ok x r =>
    have hr := (inB_whole 3 127 L).2 x r hf
    simp only [Rd.bind_ok]
    split
    · exact ⟨fun c k e => by cases e; exact ⟨Nat.le_refl _, by decide⟩, fun x r e => by cases e⟩
    · exact ⟨fun c k e => by (cases e), fun x r e => by cases e; exact hr⟩
theorem inB_sint : InB sintR := (inB_whole 10 1).bind (fun n => InB.pure _)
theorem inB_times {α : Type} {f : List Int → Rd α} (h : InB f) : ∀ n, InB (timesR f n) := by
  intro n
  induction n with
  | zero => exact InB.pure _
  | succ n ih => exact h.bind (fun x => ih.bind (fun l => InB.pure _))
theorem inB_list {α : Type} {f : List Int → Rd α} (h : InB f) (most : Nat) : InB (listR f most) := (inB_many most).bind (fun n => inB_times h n)
theorem inB_ints (most : Nat) : InB (intsR most) := inB_list inB_sint most
theorem inB_part : InB partR := inB_next.bind (fun t => (inB_ints 16).bind (fun xs => InB.pure _))
theorem inB_line : InB lineR := (inB_whole 3 127).bind (fun b => (inB_whole 3 127).bind (fun s => (inB_ints 1024).bind (fun xs => InB.pure _)))
theorem inB_op : InB opR := inB_next.bind (fun k => (inB_whole 3 127).bind (fun a => (inB_whole 3 127).bind (fun b => InB.pure _)))
theorem inB_prog : InB progR := (inB_whole 3 127).bind (fun m => (inB_whole 3 127).bind (fun c => (inB_whole 3 127).bind (fun i => (inB_whole 3 127).bind (fun o =>
  (inB_list inB_part 32).bind (fun ps => (inB_list inB_line 96).bind (fun ls => (inB_list inB_op 131072).bind (fun ops => InB.pure _)))))))
theorem decode_fault {L : List Int} {c a : Int} (h : decodeR L = .error (c, a)) : 0 ≤ a ∧ a ≤ L.length ∧ c ≠ 0 := by
  unfold decodeR at h
  split at h
  · cases h; exact ⟨by decide, by omega, by decide⟩
  · split at h
    · rename_i c' k e
      cases h
      have := (inB_prog _).1 _ _ e
      simp only [List.length_drop] at this
      exact ⟨by omega, by omega, this.2⟩
    · rename_i p r e
      have := (inB_prog _).2 _ _ e
      simp only [List.length_drop] at this
      split at h
      · cases h; exact ⟨by omega, by omega, by decide⟩
      · split at h
        · rename_i hs; cases h; exact ⟨by omega, Int.le_refl _, hs⟩
        · cases h
end Go.Proofs.YtfmpjbiaamkobaaDoor
