/-
  Layer 20, plain: a program's operations done one by one, with counters, are as many as its steps.
-/
import Derived.Test.YtfmpjbiaamkobaaCodeN
namespace Go.Proofs.Ytfmpjbiaamkobaa
set_option linter.all false

/-- One operation of a machine with counters, which is no end. -/
inductive StepM (ops : List OpD) : Nat → List Int → Nat → List Int → Prop where
  | head (i : Nat) (cs : List Int) (a : Nat) (b : Int) (hi : i < ops.length) (ho : opAt ops i = ⟨1, a, b⟩) (ha : a < cs.length) (hc : cs.getD a 0 = 0) (hb : 1 ≤ b) (hb2 : b ≤ 2048) : StepM ops i cs (i + 1) (cs.set a b)
  | fall (i : Nat) (cs : List Int) (a : Nat) (b : Int) (hi : i < ops.length) (ho : opAt ops i = ⟨2, a, b⟩) (ha : a < cs.length) (hc : cs.getD a 0 = 1) : StepM ops i cs (i + 1) (cs.set a 0)
  | turn (i : Nat) (cs : List Int) (a b : Nat) (v : Int) (hi : i < ops.length) (ho : opAt ops i = ⟨2, a, b⟩) (ha : a < cs.length) (hc : cs.getD a 0 = v) (hv : 1 < v) (hv2 : v ≤ 2048) (hbl : b ≤ 131072) : StepM ops i cs b (cs.set a (v - 1))
  | one (i : Nat) (cs : List Int) (hi : i < ops.length) (h0 : (opAt ops i).kind ≠ 0) (h1 : (opAt ops i).kind ≠ 1) (h2 : (opAt ops i).kind ≠ 2) : StepM ops i cs (i + 1) cs

/-- So many operations, none of them the end. -/
inductive Goes (ops : List OpD) : Nat → Nat → List Int → Nat → List Int → Prop where
  | nil (i : Nat) (cs : List Int) : Goes ops 0 i cs i cs
  | cons {k i j l : Nat} {cs ds es : List Int} (h : StepM ops i cs j ds) (r : Goes ops k j ds l es) : Goes ops (k + 1) i cs l es

/-- So many operations, just the last of them the end. -/
inductive Runs (ops : List OpD) : Nat → Nat → List Int → Prop where
  | fin (i : Nat) (cs : List Int) (hi : i < ops.length) (h0 : (opAt ops i).kind = 0) : Runs ops 1 i cs
  | cons {k i j : Nat} {cs ds : List Int} (h : StepM ops i cs j ds) (r : Runs ops k j ds) : Runs ops (k + 1) i cs

theorem Goes.trans {ops : List OpD} {k m i j l : Nat} {cs ds es : List Int} (h : Goes ops k i cs j ds) (r : Goes ops m j ds l es) : Goes ops (k + m) i cs l es := by
  induction h with
  | nil i cs => rw [Nat.zero_add]; exact r
  | cons h _ ih => rw [show ∀ a : Nat, a + 1 + m = (a + m) + 1 from fun a => by omega]; exact .cons h (ih r)
theorem Goes.runs {ops : List OpD} {k m i j : Nat} {cs ds : List Int} (h : Goes ops k i cs j ds) (r : Runs ops m j ds) : Runs ops (k + m) i cs := by
  induction h with
  | nil i cs => rw [Nat.zero_add]; exact r
  | cons h _ ih => rw [show ∀ a : Nat, a + 1 + m = (a + m) + 1 from fun a => by omega]; exact .cons h (ih r)
theorem Runs.pos {ops : List OpD} {k i : Nat} {cs : List Int} (h : Runs ops k i cs) : 1 ≤ k := by cases h <;> omega

theorem getD_set_self {cs : List Int} {a : Nat} (h : a < cs.length) (v : Int) : (cs.set a v).getD a 0 = v := by
  rw [List.getD_eq_getElem?_getD]; simp [h]
theorem getD_set_ne {cs : List Int} {a x : Nat} (h : a ≠ x) (v : Int) : (cs.set a v).getD x 0 = cs.getD x 0 := by
  rw [List.getD_eq_getElem?_getD, List.getD_eq_getElem?_getD, List.getElem?_set_ne h]
theorem set_getD {cs : List Int} {a : Nat} {v : Int} (h : cs.getD a 0 = v) : cs.set a v = cs := by
  by_cases ha : a < cs.length
  · rw [← h, List.getD_eq_getElem?_getD, List.getElem?_eq_getElem ha]; simp
  · exact List.set_eq_of_length_le (by omega)

/-- The rounds of a loop that are left. -/
theorem goes_rounds {ops : List OpD} {i bk a s : Nat} (hi : i < bk) (hbk : bk < ops.length) (hno : ops.length ≤ 131072) (hob : opAt ops bk = ⟨2, a, ((i + 1 : Nat) : Int)⟩)
    (cs : List Int) (ha : a < cs.length) (hc : cs.getD a 0 = 0)
    (hgo : ∀ v : Int, Goes ops s (i + 1) (cs.set a v) bk (cs.set a v)) :
    ∀ n : Nat, n + 1 ≤ 2048 → Goes ops ((n + 1) * (s + 1)) (i + 1) (cs.set a ((n : Int) + 1)) (bk + 1) cs := by
  intro n
  induction n with
  | zero =>
    intro _
    have h := (hgo (((0 : Nat) : Int) + 1)).trans (.cons (.fall bk _ a _ hbk hob (by simpa using ha) (by rw [getD_set_self ha]; rfl)) (.nil _ _))
    rw [List.set_set, set_getD hc] at h
    simpa using h
  | succ n ih =>
    intro hn
    have h := (hgo (((n + 1 : Nat) : Int) + 1)).trans (.cons (.turn bk _ a (i + 1) (((n + 1 : Nat) : Int) + 1) hbk hob (by simpa using ha) (getD_set_self ha _) (by omega) (by omega) (by omega)) (.nil _ _))
    rw [List.set_set] at h
    have e : (((n + 1 : Nat) : Int) + 1) - 1 = (n : Int) + 1 := by omega
    rw [e] at h
    have := h.trans (ih (by omega))
    have e2 : s + (0 + 1) + (n + 1) * (s + 1) = (n + 1 + 1) * (s + 1) := by rw [Nat.succ_mul (n + 1)]; omega
    rw [e2] at this
    exact this

theorem bumpS_mem {k : Int} {σ : Stk} {x : Nat} (h : ∃ f ∈ σ.fr, f.1 = x) : ∃ f ∈ (bumpS k σ).fr, f.1 = x := by
  have e := bumpS_fr k σ
  obtain ⟨f, hf, rfl⟩ := h
  have : f.1 ∈ (bumpS k σ).fr.map (·.1) := by rw [e]; exact List.mem_map_of_mem hf
  obtain ⟨g, hg, hx⟩ := List.mem_map.1 this
  exact ⟨g, hg, hx⟩
theorem stepS_ok {L : Lims} {ops : List OpD} {i : Nat} {o : OpD} {σ ρ : Stk} (h : stepS L ops i o σ = .ok ρ) : okOp L i o = true := by
  unfold stepS at h
  by_cases hk : okOp L i o = false
  · rw [if_pos hk] at h; cases h
  · simpa using hk
theorem stepS_free {L : Lims} {ops : List OpD} {i : Nat} {o : OpD} {σ ρ : Stk} (h : stepS L ops i o σ = .ok ρ) (h1 : o.kind = 1) : ∀ f ∈ σ.fr, (opAt ops f.1).a ≠ o.a := by
  unfold stepS at h
  by_cases hk : okOp L i o = false
  · rw [if_pos hk] at h; cases h
  · rw [if_neg hk, if_pos h1] at h
    by_cases hx : (σ.fr.any (fun f => decide ((opAt ops f.1).a = o.a))) = true
    · rw [if_pos hx] at h; cases h
    · intro f hf he
      exact hx (List.any_eq_true.2 ⟨f, hf, by simpa using he⟩)
theorem stepS_back {L : Lims} {ops : List OpD} {i : Nat} {o : OpD} {ρ : Stk} {a : Nat} {s b : Int} {r : List (Nat × Int)} (h : stepS L ops i o ⟨(a, s) :: r, b⟩ = .ok ρ) (h2 : o.kind = 2) : (opAt ops a).a = o.a ∧ o.b = (a : Int) + 1 := by
  unfold stepS at h
  by_cases hk : okOp L i o = false
  · rw [if_pos hk] at h; cases h
  · rw [if_neg hk, if_neg (by omega), if_pos h2] at h
    simp only at h
    by_cases hx : (opAt ops a).a ≠ o.a ∨ o.b ≠ (a : Int) + 1
    · rw [if_pos hx] at h; cases h
    · exact ⟨Classical.not_not.1 fun hh => hx (.inl hh), Classical.not_not.1 fun hh => hx (.inr hh)⟩
theorem okOp_1 {L : Lims} {i : Nat} {o : OpD} (h : okOp L i o = true) (h1 : o.kind = 1) : 0 ≤ o.a ∧ o.a < L.ctr ∧ 1 ≤ o.b ∧ o.b ≤ 2048 := by
  unfold okOp at h
  rw [if_neg (by omega), if_pos h1] at h
  exact of_decide_eq_true h
theorem okOp_0 {L : Lims} {i : Nat} {o : OpD} (h : okOp L i o = true) (h1 : o.kind = 0) : (i : Int) = L.ops - 1 := by
  unfold okOp at h
  rw [if_pos h1] at h
  exact (of_decide_eq_true h).2.2
theorem capS_lt {x : Int} (h : capS x < 131073) : capS x = x := by unfold capS at h ⊢; split <;> rename_i h1 <;> simp only [h1, if_true, if_false] at h <;> omega

/-- From a place on to where the loop closes, or to the end. -/
theorem machine {L : Lims} {ops : List OpD} (hL : L.ops = ops.length) (hno : ops.length ≤ 131072) (hB : ∀ o ∈ ops, o.kind = 1 → 1 ≤ o.b) (hend : ∀ o, ops.getLast? = some o → o.kind = 0) (τ : Stk) :
    ∀ (f i : Nat) (σ : Stk), ops.length ≤ i + f → i ≤ ops.length → Small σ → walkS L ops (ops.drop i) i σ = .ok τ → (rowsS ops f i).1 < 131073 →
      ∀ cs : List Int, (cs.length : Int) = L.ctr → (∀ x : Nat, (∀ f ∈ σ.fr, (opAt ops f.1).a ≠ (x : Int)) → cs.getD x 0 = 0) →
      ((opAt ops (rowsS ops f i).2).kind = 2 → Goes ops (rowsS ops f i).1.toNat i cs (rowsS ops f i).2 cs) ∧ ((rowsS ops f i).2 = ops.length → i < ops.length → Runs ops (rowsS ops f i).1.toNat i cs) := by
  intro f
  induction f with
  | zero =>
    intro i σ hf hi hs h hlt cs hcs hz
    exact ⟨fun _ => .nil _ _, fun _ _ => by omega⟩
  | succ f ih =>
    intro i σ hf hi hs h
    unfold rowsS
    by_cases h0 : ops.length ≤ i ∨ (opAt ops i).kind = 2
    · rw [if_pos h0]
      intro _ cs _ _
      exact ⟨fun _ => .nil _ _, fun h1 h2 => by simp only at h1; omega⟩
    · rw [if_neg h0]
      have hlt : i < ops.length := by omega
      have hk2 : (opAt ops i).kind ≠ 2 := fun e => h0 (.inr e)
      have hop : ops[i] = opAt ops i := by unfold opAt; simp [hlt]
      have hdrop : ops.drop i = opAt ops i :: ops.drop (i + 1) := by rw [← hop]; exact List.drop_eq_getElem_cons hlt
      have hmem : opAt ops i ∈ ops := by rw [← hop]; exact List.getElem_mem hlt
      have h' := h
      rw [hdrop] at h
      unfold walkS at h
      by_cases h1 : (opAt ops i).kind = 1
      · rw [if_pos h1]
        cases hst : stepS L ops i (opAt ops i) σ with
        | error e => rw [hst] at h; cases h
        | ok ρ =>
          rw [hst] at h
          simp only at h
          have hρ := stepS_1 hst h1
          subst hρ
          have hs1 : Small ⟨(i, 0) :: σ.fr, σ.b⟩ := by
            refine ⟨?_, hs.2⟩
            intro y hy
            rcases List.mem_cons.1 hy with rfl | hy
            · simp
            · exact hs.1 y hy
          obtain ⟨j1, j2, j3⟩ := walk_rows hB hend τ f (i + 1) _ (by omega) (by omega) hs1 h
          have hnn := rowsS_nn hB f (i + 1)
          have hin := ih (i + 1) _ (by omega) (by omega) hs1 h
          generalize hins : (rowsS ops f (i + 1)).1 = ins at j2 hnn hin
          generalize hbk : (rowsS ops f (i + 1)).2 = bk at j1 j2 j3 hnn hin
          simp only [bumpS, Int.zero_add] at j2
          rw [capS_id hnn.2.1] at j2
          rcases j3 with j3 | j3
          · exfalso
            subst j3
            rw [List.drop_length] at j2
            simp only [walkS] at j2
            have hfin := walkS_error_end (L := L) (ops := ops) (opAt ops i :: ops.drop (i + 1)) i σ (fun o ho => hend o (by rw [← hdrop, List.getLast?_drop] at ho; simpa [show ¬ ops.length ≤ i by omega] using ho)) (by simp) τ (by unfold walkS; rw [hst]; exact h)
            cases j2
            simp at hfin
          · have hblt : bk < ops.length := by
              rcases Nat.lt_or_ge bk ops.length with hh | hh
              · exact hh
              · exfalso; unfold opAt at j3; rw [List.getD_eq_getElem?_getD, List.getElem?_eq_none hh] at j3; simp [default, instInhabitedOpD.default] at j3
            have hop2 : ops[bk] = opAt ops bk := by unfold opAt; simp [hblt]
            have hdrop2 : ops.drop bk = opAt ops bk :: ops.drop (bk + 1) := by rw [← hop2]; exact List.drop_eq_getElem_cons hblt
            rw [hdrop2] at j2
            unfold walkS at j2
            cases hst2 : stepS L ops bk (opAt ops bk) ⟨(i, ins) :: σ.fr, σ.b⟩ with
            | error e => rw [hst2] at j2; cases j2
            | ok ρ =>
              rw [hst2] at j2
              simp only at j2
              have hρ : ρ = bumpS (loopK (opAt ops i).b ins) σ := stepS_2 hst2 j3
              have hB1 := hB _ hmem h1
              have e1 : bumpS (loopK (opAt ops i).b ins) σ = bumpS (loopR (opAt ops i).b ins) σ := by
                obtain ⟨fr, b⟩ := σ
                cases fr with
                | nil => simp only [bumpS]; rw [loopKR hB1 hnn.1 hnn.2.1 b hs.2.1]
                | cons x r =>
                  obtain ⟨a, s⟩ := x
                  simp only [bumpS]; rw [loopKR hB1 hnn.1 hnn.2.1 s (hs.1 (a, s) (by simp)).1]
              rw [hρ, e1] at j2
              have hRn := loopR_nn hB1 hnn.1
              have hout := ih (bk + 1) _ (by omega) (by omega) (small_bump hs hRn) j2
              have hn2 := rowsS_nn hB f (bk + 1)
              obtain ⟨ba, bb⟩ := stepS_back hst2 j3
              have hfree := stepS_free hst h1
              obtain ⟨o1, o2, o3, o4⟩ := okOp_1 (stepS_ok hst) h1
              simp only
              intro hlt3 cs hcs hz
              have hsum := capS_lt hlt3
              rw [hsum] at hlt3 ⊢
              have hl2 : loopR (opAt ops i).b ins < 131073 := by omega
              have hins2 : ins < 131073 := by
                rcases Int.lt_or_le ins 131073 with hh | hh
                · exact hh
                · exfalso; unfold loopR at hl2; rw [if_neg (by omega)] at hl2; omega
              have hlr : loopR (opAt ops i).b ins = 1 + (opAt ops i).b * (ins + 1) := by
                unfold loopR at hl2 ⊢
                by_cases hh : ins < 131073 ∧ ins + 1 ≤ 131073 / (opAt ops i).b
                · rw [if_pos hh]
                · rw [if_neg hh] at hl2; omega
              obtain ⟨a, ha⟩ : ∃ a : Nat, (opAt ops i).a = a := ⟨(opAt ops i).a.toNat, by omega⟩
              have hal : a < cs.length := by omega
              have hc0 : cs.getD a 0 = 0 := hz a (fun f hf => by rw [← ha]; exact hfree f hf)
              have hoi : opAt ops i = ⟨1, (a : Int), (opAt ops i).b⟩ := by rw [← ha, ← h1]
              have hob : opAt ops bk = ⟨2, (a : Int), ((i + 1 : Nat) : Int)⟩ := by
                have e3 : opAt ops bk = ⟨(opAt ops bk).kind, (opAt ops bk).a, (opAt ops bk).b⟩ := rfl
                rw [e3, j3, ← ba, ha, bb]; simp
              have hgo : ∀ v : Int, Goes ops ins.toNat (i + 1) (cs.set a v) bk (cs.set a v) := fun v => (hin hins2 (cs.set a v) (by simpa using hcs) (fun x hx => by
                have hne : a ≠ x := fun e => by subst e; exact hx (i, 0) (by simp) ha
                rw [getD_set_ne hne]
                exact hz x (fun f hf => hx f (by simp [hf])))).1 j3
              obtain ⟨n, hn⟩ : ∃ n : Nat, (opAt ops i).b = (n : Int) + 1 := ⟨((opAt ops i).b - 1).toNat, by omega⟩
              have hround := goes_rounds (by omega) hblt hno hob cs hal hc0 hgo n (by omega)
              rw [← hn] at hround
              have hloop : Goes ops ((n + 1) * (ins.toNat + 1) + 1) i cs (bk + 1) cs := .cons (.head i cs a _ hlt hoi hal hc0 o3 o4) hround
              have hcount : ((n + 1) * (ins.toNat + 1) + 1) + (rowsS ops f (bk + 1)).1.toNat = (loopR (opAt ops i).b ins + (rowsS ops f (bk + 1)).1).toNat := by
                have e4 : (((n + 1) * (ins.toNat + 1) : Nat) : Int) = (opAt ops i).b * (ins + 1) := by
                  rw [hn, Int.natCast_mul]; congr 1; omega
                omega
              have hrest := hout (by omega) cs hcs (fun x hx => hz x (fun f hf => by
                obtain ⟨g, hg, e⟩ := bumpS_mem (k := loopR (opAt ops i).b ins) ⟨f, hf, rfl⟩
                rw [← e]; exact hx g hg))
              refine ⟨fun hk => ?_, fun hk _ => ?_⟩
              · rw [← hcount]; exact hloop.trans (hrest.1 hk)
              · rw [← hcount]
                refine hloop.runs (hrest.2 hk ?_)
                rcases Nat.lt_or_ge (bk + 1) ops.length with hh | hh
                · exact hh
                · exfalso
                  have := hend ops[bk] (by rw [List.getLast?_eq_getElem?, show ops.length - 1 = bk by omega]; simp [hblt])
                  rw [hop2] at this; omega
      · rw [if_neg h1]
        cases hst : stepS L ops i (opAt ops i) σ with
        | error e => rw [hst] at h; cases h
        | ok ρ =>
          rw [hst] at h
          simp only at h
          have hρ := (stepS_x hst h1 hk2).1
          subst hρ
          have hout := ih (i + 1) _ (by omega) (by omega) (small_bump hs (by omega)) h
          have hn2 := rowsS_nn hB f (i + 1)
          simp only
          intro hlt3 cs hcs hz
          have hsum := capS_lt hlt3
          rw [hsum] at hlt3 ⊢
          have hrest := hout (by omega) cs hcs (fun x hx => hz x (fun f hf => by
            obtain ⟨g, hg, e⟩ := bumpS_mem (k := 1) ⟨f, hf, rfl⟩
            rw [← e]; exact hx g hg))
          have hcount : (rowsS ops f (i + 1)).1.toNat + 1 = (1 + (rowsS ops f (i + 1)).1).toNat := by omega
          rw [← hcount]
          by_cases hk0 : (opAt ops i).kind = 0
          · have hlast := okOp_0 (stepS_ok hst) hk0
            have e5 : rowsS ops f (i + 1) = (0, i + 1) := rowsS_past (by omega)
            rw [e5]
            refine ⟨fun hk => ?_, fun _ _ => .fin i cs hlt hk0⟩
            exfalso
            simp only at hk
            unfold opAt at hk; rw [List.getD_eq_getElem?_getD, List.getElem?_eq_none (by omega)] at hk; simp [default, instInhabitedOpD.default] at hk
          · refine ⟨fun hk => .cons (.one i cs hlt hk0 h1 hk2) (hrest.1 hk), fun hk _ => .cons (.one i cs hlt hk0 h1 hk2) (hrest.2 hk ?_)⟩
            rcases Nat.lt_or_ge (i + 1) ops.length with hh | hh
            · exact hh
            · exfalso
              have := hend ops[i] (by rw [List.getLast?_eq_getElem?, show ops.length - 1 = i by omega]; simp [hlt])
              rw [hop] at this; omega

/-- A program without fault runs to its end in just its steps. -/
theorem runs_of {p : Pg} (h : (stepsR p).2 = 0) : 1 ≤ (stepsR p).1 ∧ (stepsR p).1 ≤ 131072 ∧ Runs p.ops (stepsR p).1.toNat 0 (List.replicate p.ctr.toNat 0) := by
  obtain ⟨e1, e2, hno⟩ := stepsR_ok h
  obtain ⟨_, hc, _, _, _, _, _, _, _, hw⟩ := stepsR_all h
  have h2 : (walkR p.lims p.ops).2 = 0 := by rw [← hw]; exact h
  have hB : ∀ o ∈ p.ops, o.kind = 1 → 1 ≤ o.b := fun o ho hk => (heads_ok e2 o ho hk).1
  unfold walkR at h2 hw
  cases hwk : walkS p.lims p.ops p.ops 0 ⟨[], 0⟩ with
  | error e =>
    rw [hwk] at h2
    exact absurd h2 (walkS_err _ _ _ _ _ _ hwk)
  | ok τ =>
    rw [hwk] at h2 hw
    simp only at h2 hw
    by_cases hl : lastEnd p.ops = false
    · rw [if_pos hl] at h2; exact absurd h2 (by decide)
    · rw [if_neg hl] at h2 hw
      by_cases ht : 131072 < τ.b
      · rw [if_pos ht] at h2; exact absurd h2 (by decide)
      · rw [if_neg ht] at hw
        have hst : (stepsR p).1 = (rowsS p.ops p.ops.length 0).1 := by rw [e1]
        have hlt : (rowsS p.ops p.ops.length 0).1 ≤ 131072 := by rw [← hst, hw]; simp only; omega
        have hend : ∀ o, p.ops.getLast? = some o → o.kind = 0 := by
          intro o ho
          unfold lastEnd at hl
          rw [ho] at hl
          simpa using hl
        have hne : 0 < p.ops.length := by
          rcases Nat.eq_zero_or_pos p.ops.length with h0 | h0
          · exfalso; have : p.ops = [] := List.length_eq_zero_iff.1 h0; rw [this] at hl; exact hl rfl
          · exact h0
        have hsm : Small ⟨[], 0⟩ := ⟨by simp, by simp⟩
        obtain ⟨j1, j2, j3⟩ := walk_rows hB hend τ p.ops.length 0 ⟨[], 0⟩ (by omega) (by omega) hsm (by simpa using hwk)
        have hm := machine (L := p.lims) rfl hno hB hend τ p.ops.length 0 ⟨[], 0⟩ (by omega) (by omega) hsm (by simpa using hwk) (by omega) (List.replicate p.ctr.toNat 0) (by
          simp only [List.length_replicate]; show ((p.ctr.toNat : Nat) : Int) = p.ctr; omega) (fun x _ => by
          rw [List.getD_eq_getElem?_getD, List.getElem?_replicate]; split <;> rfl)
        rw [hst]
        rcases j3 with j3 | j3
        · have hr := hm.2 j3 hne
          have := hr.pos
          exact ⟨by omega, hlt, hr⟩
        · exfalso
          generalize (rowsS p.ops p.ops.length 0).2 = bk at j1 j2 j3
          have hblt : bk < p.ops.length := by
            rcases Nat.lt_or_ge bk p.ops.length with hh | hh
            · exact hh
            · exfalso; unfold opAt at j3; rw [List.getD_eq_getElem?_getD, List.getElem?_eq_none hh] at j3; simp [default, instInhabitedOpD.default] at j3
          have hop2 : p.ops[bk] = opAt p.ops bk := by unfold opAt; simp [hblt]
          have hdrop2 : p.ops.drop bk = opAt p.ops bk :: p.ops.drop (bk + 1) := by rw [← hop2]; exact List.drop_eq_getElem_cons hblt
          rw [hdrop2] at j2
          unfold walkS at j2
          simp only [bumpS] at j2
          cases hst2 : stepS p.lims p.ops bk (opAt p.ops bk) ⟨[], capS (0 + (rowsS p.ops p.ops.length 0).1)⟩ with
          | error e => rw [hst2] at j2; cases j2
          | ok ρ =>
            unfold stepS at hst2
            by_cases hk : okOp p.lims bk (opAt p.ops bk) = false
            · rw [if_pos hk] at hst2; cases hst2
            · rw [if_neg hk, if_neg (by omega), if_pos j3] at hst2; cases hst2
end Go.Proofs.Ytfmpjbiaamkobaa
