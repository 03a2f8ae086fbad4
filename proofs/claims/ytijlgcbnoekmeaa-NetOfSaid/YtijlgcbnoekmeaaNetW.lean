/-
  Layer 10, plain: firings reckoned in 64 bits. No program in sight.
-/
import Derived.Test.YtijlgcbnoekmeaaNetP
namespace Go.Proofs.Ytijlgcbnoekmeaa
open Go.RowKit (wrap64)
set_option linter.all false

theorem wrap_spec (x : Int) : ∃ k : Int, wrap64 x = x + 18446744073709551616 * k := ⟨-((x + 9223372036854775808) / 18446744073709551616), by unfold wrap64; omega⟩
theorem wrap_of {x y k : Int} (h : x = y + 18446744073709551616 * k) : wrap64 x = wrap64 y := by
  subst h; unfold wrap64
  rw [show y + 18446744073709551616 * k + 9223372036854775808 = y + 9223372036854775808 + 18446744073709551616 * k by omega, Int.add_mul_emod_self_left]
theorem wrap_in {x : Int} (h : -9223372036854775808 ≤ x ∧ x ≤ 9223372036854775807) : wrap64 x = x := by unfold wrap64; omega
theorem wrap_bd (x : Int) : -9223372036854775808 ≤ wrap64 x ∧ wrap64 x ≤ 9223372036854775807 := by unfold wrap64; omega
theorem wrap_addl (x y : Int) : wrap64 (wrap64 x + y) = wrap64 (x + y) := by
  obtain ⟨k, hk⟩ := wrap_spec x; exact wrap_of (k := k) (by rw [hk]; omega)
theorem wrap_subl (x y : Int) : wrap64 (wrap64 x - y) = wrap64 (x - y) := by
  obtain ⟨k, hk⟩ := wrap_spec x; exact wrap_of (k := k) (by rw [hk]; omega)
theorem wrap_addr (x y : Int) : wrap64 (x + wrap64 y) = wrap64 (x + y) := by
  obtain ⟨k, hk⟩ := wrap_spec y; exact wrap_of (k := k) (by rw [hk]; omega)
theorem wrap_subr (x y : Int) : wrap64 (x - wrap64 y) = wrap64 (x - y) := by
  obtain ⟨k, hk⟩ := wrap_spec y; exact wrap_of (k := -k) (by rw [hk]; omega)
theorem wrap_wrap (x : Int) : wrap64 (wrap64 x) = wrap64 x := wrap_in (wrap_bd x)

def takeOneW (arcs : List ArcD) (t : List Int) (i : Nat) : List Int := t.set i (wrap64 (t.getD i 0 - (arcAt arcs i).take))
def giveOneW (arcs : List ArcD) (t : List Int) (i : Nat) : List Int := t.set i (wrap64 (t.getD i 0 + (arcAt arcs i).give))
def takeAllW (arcs : List ArcD) (t : List Int) (l : List Nat) : List Int := l.foldl (takeOneW arcs) t
def giveAllW (arcs : List ArcD) (t : List Int) (l : List Nat) : List Int := l.foldl (giveOneW arcs) t
def fireOneW (arcs : List ArcD) (s : Mark) (v : Nat) : Mark :=
  ⟨giveAllW arcs (takeAllW arcs s.toks (inTo arcs v)) (outOf arcs v), s.fired.set v (wrap64 (s.fired.getD v 0 + 1))⟩
def fireW (arcs : List ArcD) (nodes : Nat) : Mark → List Int → Nat × Mark
  | s, [] => (0, s)
  | s, v :: r => if mayS arcs nodes s.toks v then ((fireW arcs nodes (fireOneW arcs s v.toNat) r).1 + 1, (fireW arcs nodes (fireOneW arcs s v.toNat) r).2) else (0, s)

theorem takeAllW_len (arcs : List ArcD) (l : List Nat) : ∀ t, (takeAllW arcs t l).length = t.length := by
  induction l with
  | nil => intro t; rfl
  | cons x r ih => intro t; show (takeAllW arcs (takeOneW arcs t x) r).length = _; rw [ih]; simp [takeOneW]
theorem giveAllW_len (arcs : List ArcD) (l : List Nat) : ∀ t, (giveAllW arcs t l).length = t.length := by
  induction l with
  | nil => intro t; rfl
  | cons x r ih => intro t; show (giveAllW arcs (giveOneW arcs t x) r).length = _; rw [ih]; simp [giveOneW]
theorem fireOneW_len (arcs : List ArcD) (s : Mark) (v : Nat) : (fireOneW arcs s v).toks.length = s.toks.length ∧ (fireOneW arcs s v).fired.length = s.fired.length := by
  unfold fireOneW; simp [giveAllW_len, takeAllW_len]
theorem fitsW_one {nodes : Nat} {arcs : List ArcD} {s : Mark} (h : Fits nodes arcs s) (v : Nat) : Fits nodes arcs (fireOneW arcs s v) := by
  have := fireOneW_len arcs s v
  exact ⟨this.1.trans h.t, this.2.trans h.f⟩
theorem fitsW_fire {nodes : Nat} {arcs : List ArcD} (vs : List Int) : ∀ s, Fits nodes arcs s → Fits nodes arcs (fireW arcs nodes s vs).2 := by
  induction vs with
  | nil => intro s h; exact h
  | cons v r ih =>
    intro s h
    unfold fireW
    split
    · exact ih _ (fitsW_one h _)
    · exact h
theorem fireW_le (arcs : List ArcD) (nodes : Nat) (vs : List Int) : ∀ s, (fireW arcs nodes s vs).1 ≤ vs.length := by
  induction vs with
  | nil => intro s; simp [fireW]
  | cons v r ih =>
    intro s
    unfold fireW
    split
    · simp only [List.length_cons]; have := ih (fireOneW arcs s v.toNat); omega
    · simp

/-- Within bounds there is no wrapping. -/
theorem takeW_eq {arcs : List ArcD} (ha : ∀ a ∈ arcs, 1 ≤ a.take ∧ a.take ≤ 64) (l : List Nat) : ∀ (M : Int) (t : List Int), (∀ i ∈ l, i < t.length ∧ i < arcs.length) → (∀ x ∈ t, -M ≤ x ∧ x ≤ M) → M + 64 * l.length ≤ 9000000000000000000 → takeAllW arcs t l = takeAll arcs t l := by
  induction l with
  | nil => intro M t _ _ _; rfl
  | cons i r ih =>
    intro M t hl h hM
    have hi := hl i (by simp)
    have hb := Bd.at h hi.1
    have ht := ha _ (arcAt_mem hi.2)
    simp only [List.length_cons] at hM
    have e : takeOneW arcs t i = takeOne arcs t i := by unfold takeOneW takeOne; rw [wrap_in (by omega)]
    show takeAllW arcs (takeOneW arcs t i) r = takeAll arcs (takeOne arcs t i) r
    rw [e]
    have h1 := bd_set (d := 64) h i (t.getD i 0 - (arcAt arcs i).take) (by omega) (by omega)
    exact ih (M + 64) (takeOne arcs t i) (fun j hj => by simp [takeOne]; exact hl j (by simp [hj])) h1 (by omega)
theorem giveW_eq {arcs : List ArcD} (ha : ∀ a ∈ arcs, 1 ≤ a.give ∧ a.give ≤ 64) (l : List Nat) : ∀ (M : Int) (t : List Int), (∀ i ∈ l, i < t.length ∧ i < arcs.length) → (∀ x ∈ t, -M ≤ x ∧ x ≤ M) → M + 64 * l.length ≤ 9000000000000000000 → giveAllW arcs t l = giveAll arcs t l := by
  induction l with
  | nil => intro M t _ _ _; rfl
  | cons i r ih =>
    intro M t hl h hM
    have hi := hl i (by simp)
    have hb := Bd.at h hi.1
    have ht := ha _ (arcAt_mem hi.2)
    simp only [List.length_cons] at hM
    have e : giveOneW arcs t i = giveOne arcs t i := by unfold giveOneW giveOne; rw [wrap_in (by omega)]
    show giveAllW arcs (giveOneW arcs t i) r = giveAll arcs (giveOne arcs t i) r
    rw [e]
    have h1 := bd_set (d := 64) h i (t.getD i 0 + (arcAt arcs i).give) (by omega) (by omega)
    exact ih (M + 64) (giveOne arcs t i) (fun j hj => by simp [giveOne]; exact hl j (by simp [hj])) h1 (by omega)
theorem oneW_eq {nodes : Nat} {arcs : List ArcD} {s : Mark} (hs : Sound nodes arcs) (hf : Fits nodes arcs s) {M : Int} (h : Bd M s) (hM : M ≤ 8000000000000000000) {v : Nat} (hv : v < nodes) : fireOneW arcs s v = fireOne arcs s v := by
  have hm := hs.m
  have l1 := inTo_len arcs v
  have l2 := outOf_len arcs v
  have e1 := takeW_eq hs.take (inTo arcs v) M s.toks (fun i hi => ⟨by rw [hf.t]; exact inTo_lt hi, inTo_lt hi⟩) h.1 (by omega)
  have h1 := bd_take hs.take (inTo arcs v) M s.toks (fun i hi => ⟨by rw [hf.t]; exact inTo_lt hi, inTo_lt hi⟩) h.1
  have e2 := giveW_eq hs.give (outOf arcs v) _ _ (fun i hi => ⟨by rw [takeAll_len, hf.t]; exact outOf_lt hi, outOf_lt hi⟩) h1 (by omega)
  have hb := Bd.at h.2 (show v < s.fired.length by rw [hf.f]; exact hv)
  unfold fireOneW fireOne
  rw [e1, e2, wrap_in (by omega)]
theorem fireW_eq {nodes : Nat} {arcs : List ArcD} (hs : Sound nodes arcs) (vs : List Int) : ∀ (s : Mark) (M : Int), Fits nodes arcs s → Bd M s → M + 12288 * vs.length ≤ 8000000000000000000 → fireW arcs nodes s vs = fireS arcs nodes s vs := by
  induction vs with
  | nil => intro s M _ _ _; rfl
  | cons v r ih =>
    intro s M hf h hM
    simp only [List.length_cons] at hM
    unfold fireW fireS
    split
    · rename_i hv
      have hb := ((mayS_iff _ _ _ _).1 hv).1
      rw [oneW_eq hs hf h (by omega) (show v.toNat < nodes by omega), ih _ _ (fits_one hf v.toNat) (bd_one hs hf h v.toNat) (by omega)]
    · rfl

/-- What an arc has by the document's answer. -/
def hasW (arcs : List ArcD) (F : List Int) (j : Nat) : Int :=
  wrap64 ((arcAt arcs j).start + (arcAt arcs j).give * F.getD (arcAt arcs j).fr.toNat 0 - (arcAt arcs j).take * F.getD (arcAt arcs j).dst.toNat 0)
def EqnW (arcs : List ArcD) (s : Mark) : Prop := ∀ j, j < arcs.length → s.toks.getD j 0 = hasW arcs s.fired j

theorem takeAllW_at (arcs : List ArcD) (l : List Nat) (hl : l.Nodup) (j : Nat) : ∀ t : List Int, (∀ i ∈ l, i < t.length) → (takeAllW arcs t l).getD j 0 = if j ∈ l then wrap64 (t.getD j 0 - (arcAt arcs j).take) else t.getD j 0 := by
  induction l with
  | nil => intro t _; simp [takeAllW]
  | cons x r ih =>
    intro t ht
    have hx := ht x (by simp)
    have hn := List.nodup_cons.1 hl
    show (takeAllW arcs (takeOneW arcs t x) r).getD j 0 = _
    rw [ih hn.2 _ (fun i hi => by simp [takeOneW]; exact ht i (by simp [hi]))]
    by_cases e : j = x
    · subst e
      rw [if_neg hn.1, if_pos (by simp)]
      simp [takeOneW, hx]
    · have e2 : (takeOneW arcs t x).getD j 0 = t.getD j 0 := by
        simp only [takeOneW, List.getD_eq_getElem?_getD, List.getElem?_set]
        rw [if_neg (fun h => e h.symm)]
      rw [e2]
      by_cases hj : j ∈ r
      · rw [if_pos hj, if_pos (by simp [hj])]
      · rw [if_neg hj, if_neg (by simp [hj, e])]
theorem giveAllW_at (arcs : List ArcD) (l : List Nat) (hl : l.Nodup) (j : Nat) : ∀ t : List Int, (∀ i ∈ l, i < t.length) → (giveAllW arcs t l).getD j 0 = if j ∈ l then wrap64 (t.getD j 0 + (arcAt arcs j).give) else t.getD j 0 := by
  induction l with
  | nil => intro t _; simp [giveAllW]
  | cons x r ih =>
    intro t ht
    have hx := ht x (by simp)
    have hn := List.nodup_cons.1 hl
    show (giveAllW arcs (giveOneW arcs t x) r).getD j 0 = _
    rw [ih hn.2 _ (fun i hi => by simp [giveOneW]; exact ht i (by simp [hi]))]
    by_cases e : j = x
    · subst e
      rw [if_neg hn.1, if_pos (by simp)]
      simp [giveOneW, hx]
    · have e2 : (giveOneW arcs t x).getD j 0 = t.getD j 0 := by
        simp only [giveOneW, List.getD_eq_getElem?_getD, List.getElem?_set]
        rw [if_neg (fun h => e h.symm)]
      rw [e2]
      by_cases hj : j ∈ r
      · rw [if_pos hj, if_pos (by simp [hj])]
      · rw [if_neg hj, if_neg (by simp [hj, e])]

theorem hasW_step {g t f1 f2 s : Int} (d1 d2 : Int) : wrap64 (s + g * wrap64 (f1 + d1) - t * wrap64 (f2 + d2)) = wrap64 (s + g * f1 - t * f2 + g * d1 - t * d2) := by
  obtain ⟨k1, h1⟩ := wrap_spec (f1 + d1)
  obtain ⟨k2, h2⟩ := wrap_spec (f2 + d2)
  refine wrap_of (k := g * k1 - t * k2) ?_
  rw [h1, h2]
  simp only [Int.mul_add, Int.mul_sub, Int.mul_left_comm g, Int.mul_left_comm t]
  omega

theorem eqnW_one {nodes : Nat} {arcs : List ArcD} {s : Mark} (hs : Sound nodes arcs) (hf : Fits nodes arcs s) (h : EqnW arcs s) {v : Nat} (hv : v < nodes) (hw : ∀ x ∈ s.fired, wrap64 x = x) : EqnW arcs (fireOneW arcs s v) := by
  intro j hj
  have hm := arcAt_mem hj
  have h1 := hs.fr _ hm
  have h2 := hs.dst _ hm
  have hq := h j hj
  have e0 : (fireOneW arcs s v).toks.getD j 0 = (giveAllW arcs (takeAllW arcs s.toks (inTo arcs v)) (outOf arcs v)).getD j 0 := rfl
  rw [e0, giveAllW_at _ _ (nodup_outOf arcs v) j _ (fun i hi => by rw [takeAllW_len, hf.t]; exact outOf_lt hi), takeAllW_at _ _ (nodup_inTo arcs v) j _ (fun i hi => by rw [hf.t]; exact inTo_lt hi), hq]
  simp only [mem_inTo hj, mem_outOf hj]
  unfold hasW
  show _ = wrap64 ((arcAt arcs j).start + (arcAt arcs j).give * (s.fired.set v (wrap64 (s.fired.getD v 0 + 1))).getD (arcAt arcs j).fr.toNat 0 - (arcAt arcs j).take * (s.fired.set v (wrap64 (s.fired.getD v 0 + 1))).getD (arcAt arcs j).dst.toNat 0)
  rw [getD_set _ _ _ _ (by rw [hf.f]; exact hv), getD_set _ _ _ _ (by rw [hf.f]; exact hv)]
  have e1 : ((arcAt arcs j).fr = v) = ((arcAt arcs j).fr.toNat = v) := by apply propext; omega
  have e2 : ((arcAt arcs j).dst = v) = ((arcAt arcs j).dst.toNat = v) := by apply propext; omega
  have hz : ∀ x : Nat, wrap64 (s.fired.getD x 0 + 0) = s.fired.getD x 0 := by
    intro x
    rw [Int.add_zero, List.getD_eq_getElem?_getD]
    cases hx : s.fired[x]? with
    | none => exact wrap_in (x := 0) (by omega)
    | some y => exact hw y (List.mem_of_getElem? hx)
  simp only [e1, e2]
  by_cases c1 : (arcAt arcs j).fr.toNat = v <;> by_cases c2 : (arcAt arcs j).dst.toNat = v
  · rw [if_pos c1, if_pos c2, if_pos c1, if_pos c2, c1, c2, wrap_subl, wrap_addl, hasW_step]; congr 1; omega
  · rw [if_pos c1, if_neg c2, if_pos c1, if_neg c2, c1, wrap_addl, ← hz (arcAt arcs j).dst.toNat, hasW_step, hz]; congr 1; omega
  · rw [if_neg c1, if_pos c2, if_neg c1, if_pos c2, c2, wrap_subl, ← hz (arcAt arcs j).fr.toNat, hasW_step, hz]; congr 1; omega
  · rw [if_neg c1, if_neg c2, if_neg c1, if_neg c2]

theorem wf_one {arcs : List ArcD} {s : Mark} (hw : ∀ x ∈ s.fired, wrap64 x = x) (v : Nat) : ∀ x ∈ (fireOneW arcs s v).fired, wrap64 x = x := by
  intro x hx
  rcases List.mem_or_eq_of_mem_set (show x ∈ s.fired.set v (wrap64 (s.fired.getD v 0 + 1)) from hx) with h1 | rfl
  · exact hw x h1
  · exact wrap_wrap _
theorem invW_fire {nodes : Nat} {arcs : List ArcD} (hs : Sound nodes arcs) (vs : List Int) : ∀ s, Fits nodes arcs s → EqnW arcs s → (∀ x ∈ s.fired, wrap64 x = x) → EqnW arcs (fireW arcs nodes s vs).2 ∧ ∀ x ∈ (fireW arcs nodes s vs).2.fired, wrap64 x = x := by
  induction vs with
  | nil => intro s _ h1 h2; exact ⟨h1, h2⟩
  | cons v r ih =>
    intro s hf h1 h2
    unfold fireW
    split
    · rename_i hv
      have hb := ((mayS_iff _ _ _ _).1 hv).1
      exact ih _ (fitsW_one hf _) (eqnW_one hs hf h1 (by omega) h2) (wf_one h2 _)
    · exact ⟨h1, h2⟩
theorem eqnW_start {nodes : Nat} {arcs : List ArcD} (hs : Sound nodes arcs) : EqnW arcs (start arcs nodes) := by
  intro j hj
  have := hs.start _ (arcAt_mem hj)
  unfold hasW
  rw [start_tok hj, start_fired, start_fired]; simp only [Int.mul_zero, Int.add_zero, Int.sub_zero]; rw [wrap_in (by omega)]
theorem wf_start (arcs : List ArcD) (nodes : Nat) : ∀ x ∈ (start arcs nodes).fired, wrap64 x = x := by
  intro x hx
  have := (List.mem_replicate.1 hx).2; subst this; exact wrap_in (by omega)

/-- The first in-arc that lacks tokens, sought among all arcs. -/
theorem short_hit {arcs : List ArcD} {t : List Int} {v : Int} {k : Nat} (hk : k < arcs.length) (hno : ∀ j, j < k → (arcAt arcs j).dst = v → (arcAt arcs j).take ≤ t.getD j 0) (hd : (arcAt arcs k).dst = v) (hs : t.getD k 0 < (arcAt arcs k).take) : shortOn arcs t (inTo arcs v) = (k : Int) := by
  have key : ∀ l1 l2 : List Nat, (∀ j ∈ l1, (arcAt arcs j).dst = v → (arcAt arcs j).take ≤ t.getD j 0) → shortOn arcs t ((l1 ++ k :: l2).filter fun i => decide ((arcAt arcs i).dst = v)) = (k : Int) := by
    intro l1
    induction l1 with
    | nil => intro l2 _; rw [List.nil_append, List.filter_cons_of_pos (by simpa using hd)]; unfold shortOn; rw [if_pos hs]
    | cons x r ih =>
      intro l2 h
      have hr := ih l2 (fun j hj => h j (by simp [hj]))
      rw [List.cons_append]
      by_cases hx : (arcAt arcs x).dst = v
      · rw [List.filter_cons_of_pos (by simpa using hx)]
        unfold shortOn
        rw [if_neg (by have := h x (by simp) hx; omega)]
        exact hr
      · rw [List.filter_cons_of_neg (by simpa using hx)]; exact hr
  have hsplit : List.range arcs.length = List.range k ++ k :: (List.range (arcs.length - k - 1)).map (fun i => k + 1 + i) := by
    conv => lhs; rw [show arcs.length = k + 1 + (arcs.length - k - 1) by omega, List.range_add, List.range_succ]
    simp
  unfold inTo
  rw [hsplit]
  exact key _ _ (fun j hj hd => hno j (by simpa using hj) hd)
theorem short_miss {arcs : List ArcD} {t : List Int} {v : Int} (hno : ∀ j, j < arcs.length → (arcAt arcs j).dst = v → (arcAt arcs j).take ≤ t.getD j 0) : shortOn arcs t (inTo arcs v) = -1 := by
  rcases shortOn_cases arcs t (inTo arcs v) with ⟨h, _⟩ | ⟨i, hi, _, h⟩
  · exact h
  · have := hno i (inTo_lt hi) ((mem_inTo (inTo_lt hi)).1 hi); omega
theorem shortS_any {nodes : Nat} {arcs : List ArcD} (hs : Sound nodes arcs) (t : List Int) (v : Int) : shortS arcs nodes t v = shortOn arcs t (inTo arcs v) := by
  unfold shortS
  split
  · rfl
  · rename_i h
    rw [short_miss (fun j hj hd => by have := hs.dst _ (arcAt_mem hj); omega)]
end Go.Proofs.Ytijlgcbnoekmeaa
