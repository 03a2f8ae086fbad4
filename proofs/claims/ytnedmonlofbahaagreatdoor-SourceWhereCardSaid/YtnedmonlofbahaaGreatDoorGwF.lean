/-
  GtA, GtC: what is wanted of them.
-/
import Derived.Test.YtnedmonlofbahaaGreatDoorGwE
namespace Go.Proofs.YtnedmonlofbahaaGreatDoor
open Go Go.RowKit Go.Joins
set_option linter.all false

theorem nodup_of {α β : Type} {f : α → β} {l : List α} (h : ∀ (i k : Nat) (hi : i < l.length) (hk : k < i), f (l[k]'(by omega)) ≠ f l[i]) : (l.map f).Nodup := by
  unfold List.Nodup
  rw [List.pairwise_iff_getElem]
  intro i j hi hj hij
  simp only [List.length_map] at hi hj
  simp only [List.getElem_map]
  exact h j i hj hij
theorem of_nodup {α β : Type} {f : α → β} {l : List α} (h : (l.map f).Nodup) (i k : Nat) (hi : i < l.length) (hk : k < i) : f (l[k]'(by omega)) ≠ f l[i] := by
  unfold List.Nodup at h
  rw [List.pairwise_iff_getElem] at h
  have := h k i (by simp; omega) (by simpa using hi) hk
  simpa using this
theorem nodup_two {α : Type} {l m : List α} (h1 : l.Nodup) (h2 : m.Nodup) (h3 : ∀ a ∈ l, ∀ b ∈ m, a ≠ b) : (l ++ m).Nodup := by
  unfold List.Nodup
  rw [List.pairwise_append]
  exact ⟨h1, h2, h3⟩
theorem two_nodup {α : Type} {l m : List α} (h : (l ++ m).Nodup) : l.Nodup ∧ m.Nodup ∧ ∀ a ∈ l, ∀ b ∈ m, a ≠ b := by
  unfold List.Nodup at h
  rw [List.pairwise_append] at h
  exact h
theorem any_take_false {α : Type} {p : α → Bool} {l : List α} {i : Nat} (h : (l.take i).any p = false) (k : Nat) (hk : k < l.length) (hki : k < i) : p l[k] = false := by
  have := List.any_eq_false.1 h l[k] (List.mem_take_iff_getElem.2 ⟨k, by omega, rfl⟩)
  simpa using this
theorem take_any_false {α : Type} {p : α → Bool} {l : List α} {i : Nat} (h : ∀ (k : Nat) (hk : k < l.length), k < i → p l[k] = false) : (l.take i).any p = false := by
  rw [List.any_eq_false]
  intro x hx
  obtain ⟨k, hk, rfl⟩ := List.mem_take_iff_getElem.1 hx
  rw [h k (by omega) (by omega)]; simp

def outsL (g : Gr) : List (Int × Int) := g.edges.map (fun x => (x.f, x.fp)) ++ g.outs.map (fun x => (x.ac, x.po))
def insL (g : Gr) : List (Int × Int) := g.edges.map (fun x => (x.t, x.tp)) ++ g.ins.map (fun x => (x.ac, x.po))
def allN (g : Gr) : List ByteArray := g.acts.map (·.name) ++ (g.ins.map (·.name) ++ g.outs.map (·.name))
def InR (l : List GAct) (n : GAct → Nat) (q : Int × Int) : Prop := ∃ (k : Nat) (hk : k < l.length), q.1 = k ∧ 0 ≤ q.2 ∧ q.2 < n l[k]
structure Fair (g : Gr) : Prop where
  nm : nameB g.name = true
  na1 : 1 ≤ g.acts.length
  na : g.acts.length ≤ 32
  ne : g.edges.length ≤ 96
  ni : g.ins.length ≤ 16
  no : g.outs.length ≤ 16
  nms : ∀ s ∈ allN g, nameB s = true
  nmd : ((allN g).map bytesN).Nodup
  shp : ∀ x ∈ g.acts, (shapeS x.tag x.xs).1 = 0
  ln : ∀ x ∈ g.edges, x.xs.length ≤ 256
  od : (outsL g).Nodup
  idn : (insL g).Nodup
  orr : ∀ q ∈ outsL g, InR g.acts nOut q
  irr : ∀ q ∈ insL g, InR g.acts nIn q
structure Cov (g : Gr) : Prop where
  o : ∀ (k : Nat) (hk : k < g.acts.length) (p : Nat), p < nOut g.acts[k] → ((k : Int), (p : Int)) ∈ outsL g
  i : ∀ (k : Nat) (hk : k < g.acts.length) (p : Nat), p < nIn g.acts[k] → ((k : Int), (p : Int)) ∈ insL g

theorem nameE_zero {l : List ByteArray} {s : ByteArray} : nameE l s = 0 ↔ nameB s = true ∧ ∀ t ∈ l, bytesN t ≠ bytesN s := by
  unfold nameE
  cases h : nameB s with
  | false => simp
  | true =>
    simp only [Bool.true_eq_false, if_false, true_and]
    constructor
    · intro h2 t ht e
      rw [if_pos (List.any_eq_true.2 ⟨t, ht, by simp [e]⟩)] at h2
      cases h2
    · intro h2
      rw [if_neg]
      intro h3
      obtain ⟨t, ht, he⟩ := List.any_eq_true.1 h3
      exact h2 t ht (by simpa using he)
theorem endE_make {g : Gr} {n : GAct → Nat} {tk : Bool} {a p : Int} (h : InR g.acts n (a, p)) (ht : tk = false) : endE g n tk a p = 0 := by
  obtain ⟨k, hk, e, h0, h1⟩ := h
  simp only at e h0 h1
  subst e ht
  unfold endE
  rw [dif_pos ⟨by omega, by omega⟩, if_pos ⟨h0, by simpa using h1⟩]
  rfl
theorem outTk_mem (g : Gr) (a p : Int) : outTk g g.edges.length g.outs.length a p = true ↔ (a, p) ∈ outsL g := by
  unfold outTk outsL
  simp only [List.take_length, Bool.or_eq_true, List.any_eq_true, List.mem_append, List.mem_map, decide_eq_true_eq, Prod.mk.injEq]
theorem inTk_mem (g : Gr) (a p : Int) : inTk g g.edges.length g.ins.length a p = true ↔ (a, p) ∈ insL g := by
  unfold inTk insL
  simp only [List.take_length, Bool.or_eq_true, List.any_eq_true, List.mem_append, List.mem_map, decide_eq_true_eq, Prod.mk.injEq]
theorem openE_false {g : Gr} {i : Nat} {x : GAct} : openE g i x = false ↔ (∀ p < nIn x, ((i : Int), (p : Int)) ∈ insL g) ∧ (∀ p < nOut x, ((i : Int), (p : Int)) ∈ outsL g) := by
  unfold openE
  simp only [Bool.or_eq_false_iff, List.any_eq_false, List.mem_range, Bool.not_eq_true', Bool.not_eq_false, inTk_mem, outTk_mem]

theorem Sound.fair {g : Gr} (h : Sound g) : Fair g ∧ Cov g := by
  have hA := fun i hi => (h.act i hi)
  have hE1 : ∀ i (hi : i < g.edges.length), InR g.acts nOut (g.edges[i].f, g.edges[i].fp) ∧ outTk g i 0 g.edges[i].f g.edges[i].fp = false := fun i hi => by
    obtain ⟨x, hx, e, h0, h1, ht⟩ := endE_zero (h.edge i hi).1
    exact ⟨⟨x, hx, e, h0, h1⟩, ht⟩
  have hE2 : ∀ i (hi : i < g.edges.length), InR g.acts nIn (g.edges[i].t, g.edges[i].tp) ∧ inTk g i 0 g.edges[i].t g.edges[i].tp = false := fun i hi => by
    obtain ⟨x, hx, e, h0, h1, ht⟩ := endE_zero (h.edge i hi).2.1
    exact ⟨⟨x, hx, e, h0, h1⟩, ht⟩
  have hI : ∀ i (hi : i < g.ins.length), InR g.acts nIn (g.ins[i].ac, g.ins[i].po) ∧ inTk g g.edges.length i g.ins[i].ac g.ins[i].po = false := fun i hi => by
    obtain ⟨x, hx, e, h0, h1, ht⟩ := endE_zero (h.inp i hi).2
    exact ⟨⟨x, hx, e, h0, h1⟩, ht⟩
  have hO : ∀ i (hi : i < g.outs.length), InR g.acts nOut (g.outs[i].ac, g.outs[i].po) ∧ outTk g g.edges.length i g.outs[i].ac g.outs[i].po = false := fun i hi => by
    obtain ⟨x, hx, e, h0, h1, ht⟩ := endE_zero (h.out i hi).2
    exact ⟨⟨x, hx, e, h0, h1⟩, ht⟩
  have nA := fun i hi => nameE_zero.1 (h.act i hi).1
  have nI := fun i hi => nameE_zero.1 (h.inp i hi).1
  have nO := fun i hi => nameE_zero.1 (h.out i hi).1
  refine ⟨⟨h.nm, h.na1, h.na, h.ne, h.ni, h.no, ?_, ?_, ?_, ?_, ?_, ?_, ?_, ?_⟩, ⟨?_, ?_⟩⟩
  · intro s hs
    simp only [allN, List.mem_append, List.mem_map] at hs
    rcases hs with ⟨x, hx, rfl⟩ | ⟨x, hx, rfl⟩ | ⟨x, hx, rfl⟩ <;> obtain ⟨i, hi, rfl⟩ := List.getElem_of_mem hx
    · exact (nA i hi).1
    · exact (nI i hi).1
    · exact (nO i hi).1
  · simp only [allN, List.map_append, List.map_map]
    refine nodup_two (nodup_of fun i k hi hk => ?_) (nodup_two (nodup_of fun i k hi hk => ?_) (nodup_of fun i k hi hk => ?_) ?_) ?_
    · exact (nA i hi).2 _ (by simp only [namesOf, List.take_zero, List.map_nil, List.append_nil, List.mem_map]; exact ⟨_, List.mem_take_iff_getElem.2 ⟨k, by omega, rfl⟩, rfl⟩)
    · exact (nI i hi).2 _ (by simp only [namesOf, List.take_zero, List.map_nil, List.append_nil, List.mem_append, List.mem_map]; exact .inr ⟨_, List.mem_take_iff_getElem.2 ⟨k, by omega, rfl⟩, rfl⟩)
    · exact (nO i hi).2 _ (by simp only [namesOf, List.mem_append, List.mem_map]; exact .inr (.inr ⟨_, List.mem_take_iff_getElem.2 ⟨k, by omega, rfl⟩, rfl⟩))
    · intro a ha b hb
      obtain ⟨x, hx, rfl⟩ := List.mem_map.1 ha
      obtain ⟨y, hy, rfl⟩ := List.mem_map.1 hb
      obtain ⟨i, hi, rfl⟩ := List.getElem_of_mem hy
      exact (nO i hi).2 _ (by simp only [namesOf, List.take_length, List.mem_append, List.mem_map]; exact .inr (.inl ⟨_, hx, rfl⟩))
    · intro a ha b hb
      obtain ⟨x, hx, rfl⟩ := List.mem_map.1 ha
      rcases List.mem_append.1 hb with hb | hb <;> obtain ⟨y, hy, rfl⟩ := List.mem_map.1 hb <;> obtain ⟨i, hi, rfl⟩ := List.getElem_of_mem hy
      · exact (nI i hi).2 _ (by simp only [namesOf, List.take_length, List.mem_append, List.mem_map]; exact .inl ⟨_, hx, rfl⟩)
      · exact (nO i hi).2 _ (by simp only [namesOf, List.take_length, List.mem_append, List.mem_map]; exact .inl ⟨_, hx, rfl⟩)
  · intro x hx
    obtain ⟨i, hi, rfl⟩ := List.getElem_of_mem hx
    exact (h.act i hi).2
  · intro x hx
    obtain ⟨i, hi, rfl⟩ := List.getElem_of_mem hx
    exact (h.edge i hi).2.2
  · refine nodup_two (nodup_of fun i k hi hk e => ?_) (nodup_of fun i k hi hk e => ?_) ?_
    · have := (hE1 i hi).2
      unfold outTk at this
      have := any_take_false (Bool.or_eq_false_iff.1 this).1 k (by omega) hk
      simp at e this
      exact this e.1 e.2
    · have := (hO i hi).2
      unfold outTk at this
      have := any_take_false (Bool.or_eq_false_iff.1 this).2 k (by omega) hk
      simp at e this
      exact this e.1 e.2
    · intro a ha b hb e
      obtain ⟨x, hx, rfl⟩ := List.mem_map.1 ha
      obtain ⟨y, hy, rfl⟩ := List.mem_map.1 hb
      obtain ⟨i, hi, rfl⟩ := List.getElem_of_mem hy
      obtain ⟨k, hk, rfl⟩ := List.getElem_of_mem hx
      have := (hO i hi).2
      unfold outTk at this
      have := any_take_false (Bool.or_eq_false_iff.1 this).1 k (by omega) hk
      simp at e this
      exact this e.1 e.2
  · refine nodup_two (nodup_of fun i k hi hk e => ?_) (nodup_of fun i k hi hk e => ?_) ?_
    · have := (hE2 i hi).2
      unfold inTk at this
      have := any_take_false (Bool.or_eq_false_iff.1 this).1 k (by omega) hk
      simp at e this
      exact this e.1 e.2
    · have := (hI i hi).2
      unfold inTk at this
      have := any_take_false (Bool.or_eq_false_iff.1 this).2 k (by omega) hk
      simp at e this
      exact this e.1 e.2
    · intro a ha b hb e
      obtain ⟨x, hx, rfl⟩ := List.mem_map.1 ha
      obtain ⟨y, hy, rfl⟩ := List.mem_map.1 hb
      obtain ⟨i, hi, rfl⟩ := List.getElem_of_mem hy
      obtain ⟨k, hk, rfl⟩ := List.getElem_of_mem hx
      have := (hI i hi).2
      unfold inTk at this
      have := any_take_false (Bool.or_eq_false_iff.1 this).1 k (by omega) hk
      simp at e this
      exact this e.1 e.2
  · intro q hq
    rcases List.mem_append.1 hq with hq | hq <;> obtain ⟨x, hx, rfl⟩ := List.mem_map.1 hq <;> obtain ⟨i, hi, rfl⟩ := List.getElem_of_mem hx
    · exact (hE1 i hi).1
    · exact (hO i hi).1
  · intro q hq
    rcases List.mem_append.1 hq with hq | hq <;> obtain ⟨x, hx, rfl⟩ := List.mem_map.1 hq <;> obtain ⟨i, hi, rfl⟩ := List.getElem_of_mem hx
    · exact (hE2 i hi).1
    · exact (hI i hi).1
  · exact fun k hk p hp => (openE_false.1 (h.opn k hk)).2 p hp
  · exact fun k hk p hp => (openE_false.1 (h.opn k hk)).1 p hp

theorem Fair.find {g : Gr} (h : Fair g) : (Cov g → (findG g).1 = 0) ∧ (¬ Cov g → (findG g).1 = 87) := by
  have hA : ∀ i (hi : i < g.acts.length), (actE g i g.acts[i]).1 = 0 := fun i hi => by
    have hn : nameE (namesOf g i 0 0) g.acts[i].name = 0 := nameE_zero.2 ⟨h.nms _ (by simp only [allN, List.mem_append, List.mem_map]; exact .inl ⟨_, List.getElem_mem hi, rfl⟩), fun t ht => by
      simp only [namesOf, List.take_zero, List.map_nil, List.append_nil, List.mem_map] at ht
      obtain ⟨x, hx, rfl⟩ := ht
      obtain ⟨k, hk, rfl⟩ := List.mem_take_iff_getElem.1 hx
      have hd := h.nmd
      simp only [allN, List.map_append, List.map_map] at hd
      exact of_nodup (two_nodup hd).1 i k hi (by omega)⟩
    unfold actE
    rw [if_neg (fun h => h hn)]
    exact h.shp _ (List.getElem_mem hi)
  have od := two_nodup (show (g.edges.map (fun x => (x.f, x.fp)) ++ g.outs.map (fun x => (x.ac, x.po))).Nodup from h.od)
  have idn := two_nodup (show (g.edges.map (fun x => (x.t, x.tp)) ++ g.ins.map (fun x => (x.ac, x.po))).Nodup from h.idn)
  have hE : ∀ i (hi : i < g.edges.length), (edgeE g i g.edges[i]).1 = 0 := fun i hi => by
    have h1 : endE g nOut (outTk g i 0 g.edges[i].f g.edges[i].fp) g.edges[i].f g.edges[i].fp = 0 := by
      refine endE_make (h.orr _ (List.mem_append.2 (.inl (List.mem_map.2 ⟨_, List.getElem_mem hi, rfl⟩)))) ?_
      unfold outTk
      simp only [List.take_zero, List.any_nil, Bool.or_false]
      refine take_any_false fun k hk hki => ?_
      have := of_nodup od.1 i k hi hki
      simpa using this
    have h2 : endE g nIn (inTk g i 0 g.edges[i].t g.edges[i].tp) g.edges[i].t g.edges[i].tp = 0 := by
      refine endE_make (h.irr _ (List.mem_append.2 (.inl (List.mem_map.2 ⟨_, List.getElem_mem hi, rfl⟩)))) ?_
      unfold inTk
      simp only [List.take_zero, List.any_nil, Bool.or_false]
      refine take_any_false fun k hk hki => ?_
      have := of_nodup idn.1 i k hi hki
      simpa using this
    have h3 := h.ln _ (List.getElem_mem hi)
    unfold edgeE
    rw [if_neg (fun h => h h1), if_neg (fun h => h h2), if_neg (by omega)]
  have hI : ∀ i (hi : i < g.ins.length), (inE g i g.ins[i]).1 = 0 := fun i hi => by
    have hn : nameE (namesOf g g.acts.length i 0) g.ins[i].name = 0 := nameE_zero.2 ⟨h.nms _ (by simp only [allN, List.mem_append, List.mem_map]; exact .inr (.inl ⟨_, List.getElem_mem hi, rfl⟩)), fun t ht => by
      have hd := h.nmd
      simp only [allN, List.map_append, List.map_map] at hd
      have hd1 := two_nodup hd
      have hd2 := two_nodup hd1.2.1
      simp only [namesOf, List.take_zero, List.map_nil, List.append_nil, List.take_length, List.mem_append, List.mem_map] at ht
      rcases ht with ⟨x, hx, rfl⟩ | ⟨x, hx, rfl⟩
      · exact hd1.2.2 _ (List.mem_map.2 ⟨x, hx, rfl⟩) _ (List.mem_append.2 (.inl (List.mem_map.2 ⟨_, List.getElem_mem hi, rfl⟩)))
      · obtain ⟨k, hk, rfl⟩ := List.mem_take_iff_getElem.1 hx
        exact of_nodup hd2.1 i k hi (by omega)⟩
    have h2 : endE g nIn (inTk g g.edges.length i g.ins[i].ac g.ins[i].po) g.ins[i].ac g.ins[i].po = 0 := by
      refine endE_make (h.irr _ (List.mem_append.2 (.inr (List.mem_map.2 ⟨_, List.getElem_mem hi, rfl⟩)))) ?_
      unfold inTk
      rw [Bool.or_eq_false_iff]
      refine ⟨take_any_false fun k hk hki => ?_, take_any_false fun k hk hki => ?_⟩
      · have := idn.2.2 _ (List.mem_map.2 ⟨_, List.getElem_mem hk, rfl⟩) _ (List.mem_map.2 ⟨_, List.getElem_mem hi, rfl⟩)
        simpa using this
      · have := of_nodup idn.2.1 i k hi hki
        simpa using this
    unfold inE
    rw [if_neg (fun h => h hn)]
    exact h2
  have hO : ∀ i (hi : i < g.outs.length), (outE g i g.outs[i]).1 = 0 := fun i hi => by
    have hn : nameE (namesOf g g.acts.length g.ins.length i) g.outs[i].name = 0 := nameE_zero.2 ⟨h.nms _ (by simp only [allN, List.mem_append, List.mem_map]; exact .inr (.inr ⟨_, List.getElem_mem hi, rfl⟩)), fun t ht => by
      have hd := h.nmd
      simp only [allN, List.map_append, List.map_map] at hd
      have hd1 := two_nodup hd
      have hd2 := two_nodup hd1.2.1
      simp only [namesOf, List.take_length, List.mem_append, List.mem_map] at ht
      rcases ht with ⟨x, hx, rfl⟩ | ⟨x, hx, rfl⟩ | ⟨x, hx, rfl⟩
      · exact hd1.2.2 _ (List.mem_map.2 ⟨x, hx, rfl⟩) _ (List.mem_append.2 (.inr (List.mem_map.2 ⟨_, List.getElem_mem hi, rfl⟩)))
      · exact hd2.2.2 _ (List.mem_map.2 ⟨x, hx, rfl⟩) _ (List.mem_map.2 ⟨_, List.getElem_mem hi, rfl⟩)
      · obtain ⟨k, hk, rfl⟩ := List.mem_take_iff_getElem.1 hx
        exact of_nodup hd2.2.1 i k hi (by omega)⟩
    have h2 : endE g nOut (outTk g g.edges.length i g.outs[i].ac g.outs[i].po) g.outs[i].ac g.outs[i].po = 0 := by
      refine endE_make (h.orr _ (List.mem_append.2 (.inr (List.mem_map.2 ⟨_, List.getElem_mem hi, rfl⟩)))) ?_
      unfold outTk
      rw [Bool.or_eq_false_iff]
      refine ⟨take_any_false fun k hk hki => ?_, take_any_false fun k hk hki => ?_⟩
      · have := od.2.2 _ (List.mem_map.2 ⟨_, List.getElem_mem hk, rfl⟩) _ (List.mem_map.2 ⟨_, List.getElem_mem hi, rfl⟩)
        simpa using this
      · have := of_nodup od.2.1 i k hi hki
        simpa using this
    unfold outE
    rw [if_neg (fun h => h hn)]
    exact h2
  have hhd : (headG g).1 = 0 := by
    have := h.nm; have := h.na1; have := h.na; have := h.ne; have := h.ni; have := h.no
    unfold headG manyG
    rw [if_neg (by simp [h.nm]), if_neg (by omega), if_neg (by omega), if_neg (by omega), if_neg (by omega), if_neg (by omega)]
  have hT : findG g = nextS (firstE (openF g) 0 g.acts) 1 (0, 0, 0, 0) := by
    rw [findG_tail, if_neg (fun h => h hhd)]
    unfold tailG
    rw [firstE_none _ _ (fun j hj => by rw [Nat.zero_add]; exact hA j hj), firstE_none _ _ (fun j hj => by rw [Nat.zero_add]; exact hE j hj), firstE_none _ _ (fun j hj => by rw [Nat.zero_add]; exact hI j hj), firstE_none _ _ (fun j hj => by rw [Nat.zero_add]; exact hO j hj)]
    rfl
  rw [hT]
  constructor
  · intro hc
    rw [firstE_none]
    · rfl
    · intro j hj
      rw [Nat.zero_add]
      unfold openF
      rw [openE_false.2 ⟨fun p hp => hc.i j hj p hp, fun p hp => hc.o j hj p hp⟩]
      rfl
  · intro hc
    cases hf : firstE (openF g) 0 g.acts with
    | some ked =>
      obtain ⟨k, e, d⟩ := ked
      obtain ⟨h1, x, h2⟩ := firstE_some _ _ _ _ hf
      unfold openF at h2
      simp only [Prod.mk.injEq] at h2
      simp only at h1
      show e = 87
      rw [h2.1] at h1 ⊢
      split
      · rfl
      · rename_i h3
        rw [if_neg h3] at h1; exact absurd rfl h1
    | none =>
      refine absurd ⟨fun k hk p hp => ?_, fun k hk p hp => ?_⟩ hc
      all_goals
        have := firstE_all_of _ _ hf k hk
        rw [Nat.zero_add] at this
        unfold openF at this
        have ho : openE g k g.acts[k] = false := by
          cases e : openE g k g.acts[k] with
          | false => rfl
          | true => rw [e] at this; simp at this
      · exact (openE_false.1 ho).2 p hp
      · exact (openE_false.1 ho).1 p hp
theorem find_fair {g : Gr} (h : (findG g).1 = 0) : Fair g ∧ Cov g := (sound_of h).fair

theorem Fair.names {g : Gr} (h : Fair g) {j k : Nat} (hk : k < g.acts.length) (hj : j < k) : (g.acts[j]'(by omega)).name ≠ g.acts[k].name := fun e => by
  have hd := h.nmd
  simp only [allN, List.map_append, List.map_map] at hd
  exact of_nodup (two_nodup hd).1 k j hk hj (by simp only [Function.comp]; rw [e])
theorem Fair.ends {g : Gr} (h : Fair g) {k : Nat} (hk : k < g.edges.length) : (0 ≤ g.edges[k].f ∧ g.edges[k].f < g.acts.length ∧ 0 ≤ g.edges[k].fp) ∧ (0 ≤ g.edges[k].t ∧ g.edges[k].t < g.acts.length ∧ 0 ≤ g.edges[k].tp) := by
  obtain ⟨a, ha, e1, e2, e3⟩ := h.orr (g.edges[k].f, g.edges[k].fp) (List.mem_append.2 (.inl (List.mem_map.2 ⟨_, List.getElem_mem hk, rfl⟩)))
  obtain ⟨b, hb, f1, f2, f3⟩ := h.irr (g.edges[k].t, g.edges[k].tp) (List.mem_append.2 (.inl (List.mem_map.2 ⟨_, List.getElem_mem hk, rfl⟩)))
  simp only at e1 e2 f1 f2
  omega
theorem Fair.edges {g : Gr} (h : Fair g) {j k : Nat} (hk : k < g.edges.length) (hj : j < k) : ¬ ((g.edges[j]'(by omega)).f = g.edges[k].f ∧ (g.edges[j]'(by omega)).fp = g.edges[k].fp) ∧ ¬ ((g.edges[j]'(by omega)).t = g.edges[k].t ∧ (g.edges[j]'(by omega)).tp = g.edges[k].tp) := by
  have d1 := of_nodup (two_nodup (show (g.edges.map (fun x => (x.f, x.fp)) ++ g.outs.map (fun x => (x.ac, x.po))).Nodup from h.od)).1 k j hk hj
  have d2 := of_nodup (two_nodup (show (g.edges.map (fun x => (x.t, x.tp)) ++ g.ins.map (fun x => (x.ac, x.po))).Nodup from h.idn)).1 k j hk hj
  exact ⟨fun e => d1 (by rw [Prod.mk.injEq]; exact e), fun e => d2 (by rw [Prod.mk.injEq]; exact e)⟩
theorem filter_const {α β : Type} (f : α → β) (p : β → Bool) (b : Bool) : ∀ (l : List α), (∀ x ∈ l, p (f x) = b) → (l.map f).filter p = if b then l.map f else []
  | [], _ => by cases b <;> rfl
  | x :: r, h => by
    have h0 := h x (by simp)
    have ih := filter_const f p b r (fun y hy => h y (by simp [hy]))
    cases b <;> simp_all
theorem draw_kinds (g : Gr) : ofK 1 (drawI g) = g.acts.map actIt ∧ ofK 2 (drawI g) = g.edges.map (edgeIt g) ∧ ofK 3 (drawI g) = g.ins.map (inIt g) ∧ ofK 4 (drawI g) = g.outs.map (outIt g) := by
  unfold ofK drawI
  simp only [List.filter_append]
  refine ⟨?_, ?_, ?_, ?_⟩
  · rw [filter_const actIt _ true _ (fun x _ => rfl), filter_const (edgeIt g) _ false _ (fun x _ => rfl), filter_const (inIt g) _ false _ (fun x _ => rfl), filter_const (outIt g) _ false _ (fun x _ => rfl)]
    simp
  · rw [filter_const actIt _ false _ (fun x _ => rfl), filter_const (edgeIt g) _ true _ (fun x _ => rfl), filter_const (inIt g) _ false _ (fun x _ => rfl), filter_const (outIt g) _ false _ (fun x _ => rfl)]
    simp
  · rw [filter_const actIt _ false _ (fun x _ => rfl), filter_const (edgeIt g) _ false _ (fun x _ => rfl), filter_const (inIt g) _ true _ (fun x _ => rfl), filter_const (outIt g) _ false _ (fun x _ => rfl)]
    simp
  · rw [filter_const actIt _ false _ (fun x _ => rfl), filter_const (edgeIt g) _ false _ (fun x _ => rfl), filter_const (inIt g) _ false _ (fun x _ => rfl), filter_const (outIt g) _ true _ (fun x _ => rfl)]
    simp
theorem numV_draw {g : Gr} (h : Fair g) {a : Int} (h0 : 0 ≤ a) (h1 : a < g.acts.length) : numV (drawI g) (nameAt g a) - 1 = a := by
  obtain ⟨k, rfl⟩ : ∃ k : Nat, a = k := ⟨a.toNat, by omega⟩
  have hk : k < g.acts.length := by omega
  rw [nameAt_is g hk]
  unfold numV
  rw [(draw_kinds g).1]
  have : (g.acts.map actIt).findIdx? (fun x => decide (x.name = g.acts[k].name)) = some k := by
    rw [List.findIdx?_eq_some_iff_getElem]
    refine ⟨by simpa using hk, by simp [actIt], fun j hj => ?_⟩
    have := h.names hk hj
    simp only [List.getElem_map, actIt, decide_eq_true_eq]
    exact this
  rw [this]
  simp
theorem tag_word {t : Int} (h1 : 1 ≤ t) (h2 : t ≤ 11) : (tagS (wordS t).1).1 = t := by
  rcases tag_cases h1 h2 with rfl | rfl | rfl | rfl | rfl | rfl | rfl | rfl | rfl | rfl | rfl <;> kernel_rfl
theorem build_draw {g : Gr} (h : Fair g) : buildG (drawS g) = g.bare := by
  have hk := draw_kinds g
  unfold buildG buildP Gr.bare drawS
  simp only
  rw [hk.1, hk.2.1, hk.2.2.1, hk.2.2.2]
  simp only [List.map_map, Gr.mk.injEq, true_and]
  refine ⟨?_, ?_, ?_, ?_⟩
  · refine List.map_congr_left fun x hx => ?_
    have hs := shape_good (h.shp x hx)
    simp only [Function.comp, itAct, actIt, GAct.bare, tag_word hs.1 hs.2.1]
  · refine List.map_congr_left fun x hx => ?_
    obtain ⟨i, hi, rfl⟩ := List.getElem_of_mem hx
    obtain ⟨⟨a1, a2, -⟩, b1, b2, -⟩ := h.ends hi
    simp only [Function.comp, itEdge, edgeIt, GEdge.bare, numV_draw h a1 a2, numV_draw h b1 b2]
  · have := List.map_congr_left (l := g.ins) (f := itIn (numV (drawI g)) ∘ inIt g) (g := id) fun x hx => by
      obtain ⟨k, hk, e1, e2, -⟩ := h.irr (x.ac, x.po) (List.mem_append.2 (.inr (List.mem_map.2 ⟨x, hx, rfl⟩)))
      simp only at e1
      have := numV_draw h (a := x.ac) (by omega) (by omega)
      simp only [Function.comp, itIn, inIt, this, id]
    rw [this, List.map_id]
  · have := List.map_congr_left (l := g.outs) (f := itOut (numV (drawI g)) ∘ outIt g) (g := id) fun x hx => by
      obtain ⟨k, hk, e1, e2, -⟩ := h.orr (x.ac, x.po) (List.mem_append.2 (.inr (List.mem_map.2 ⟨x, hx, rfl⟩)))
      simp only at e1
      have := numV_draw h (a := x.ac) (by omega) (by omega)
      simp only [Function.comp, itOut, outIt, this, id]
    rw [this, List.map_id]
theorem draw_kind (g : Gr) : ∀ x ∈ drawI g, 1 ≤ x.kind ∧ x.kind ≤ 4 := by
  intro x hx
  unfold drawI at hx
  simp only [List.mem_append, List.mem_map] at hx
  rcases hx with ((⟨y, _, rfl⟩ | ⟨y, _, rfl⟩) | ⟨y, _, rfl⟩) | ⟨y, _, rfl⟩ <;> simp [actIt, edgeIt, inIt, outIt]
theorem buildF_draw {g : Gr} (h : (findG g).1 = 0) : buildF (drawS g) = (0, 0) ∧ buildG (drawS g) = g.bare := by
  have hb := build_draw (find_fair h).1
  refine ⟨?_, hb⟩
  unfold buildF
  have hn : (drawS g).items.find? badK = none := by
    rw [List.find?_eq_none]
    intro x hx
    have := draw_kind g x hx
    unfold badK
    simp
    omega
  rw [hn, hb, findG_bare]
  simp [h]
theorem word_len (t : Int) : (wordS t).1.size ≤ 20 := by
  unfold wordS
  split
  · rename_i h
    rcases tag_cases h.1 h.2 with rfl | rfl | rfl | rfl | rfl | rfl | rfl | rfl | rfl | rfl | rfl <;> decide +kernel
  · decide
theorem nameB_len {s : ByteArray} (h : nameB s = true) : s.size ≤ 16 := by
  rw [← bytesN_len]
  unfold nameB nameL at h
  cases hb : bytesN s with
  | nil => simp
  | cons b r =>
    rw [hb] at h
    simp only [Bool.and_eq_true, decide_eq_true_eq] at h
    simp only [List.length_cons]
    omega
theorem draw_small {s : Sk} {g : Gr} (h : s.bare = drawS g) (hf : Fair g) (hw : GFew g) : SLen s ∧ (∀ x ∈ s.items, 1 ≤ x.kind ∧ x.kind ≤ 4) ∧ s.items.length ≤ 160 ∧ (∀ x ∈ s.items, x.xs.length ≤ 1048576) := by
  have hi : s.items.map SIt.bare = drawI g := congrArg Sk.items h
  have hn : s.name = g.name := congrArg Sk.name h
  have hl : s.items.length = g.acts.length + g.edges.length + g.ins.length + g.outs.length := by
    have := congrArg List.length hi
    simp only [drawI, List.length_map, List.length_append] at this
    omega
  have hnm : ∀ a, (nameAt g a).size ≤ 16 := fun a => by
    unfold nameAt
    by_cases ha : a.toNat < g.acts.length
    · rw [List.getD_eq_getElem?_getD, List.getElem?_eq_getElem ha]
      exact nameB_len (hf.nms _ (List.mem_append.2 (.inl (List.mem_map.2 ⟨_, List.getElem_mem ha, rfl⟩))))
    · rw [List.getD_eq_getElem?_getD, List.getElem?_eq_none (by omega)]
      decide
  have hx : ∀ x ∈ drawI g, x.xs.length ≤ 1048576 ∧ x.name.size ≤ 16 ∧ x.tag.size ≤ 20 ∧ x.fn.size ≤ 16 ∧ x.tn.size ≤ 16 := by
    intro x hx
    unfold drawI at hx
    simp only [List.mem_append, List.mem_map] at hx
    have h0 : (⟨#[]⟩ : ByteArray).size ≤ 16 := by decide
    have h1 : (⟨#[]⟩ : ByteArray).size ≤ 20 := by decide
    rcases hx with ((⟨y, hy, rfl⟩ | ⟨y, hy, rfl⟩) | ⟨y, hy, rfl⟩) | ⟨y, hy, rfl⟩
    · exact ⟨hw.ax y hy, nameB_len (hf.nms _ (List.mem_append.2 (.inl (List.mem_map.2 ⟨_, hy, rfl⟩)))), word_len _, h0, h0⟩
    · exact ⟨hw.ex y hy, h0, h1, hnm _, hnm _⟩
    · exact ⟨by simp [inIt], nameB_len (hf.nms _ (List.mem_append.2 (.inr (List.mem_append.2 (.inl (List.mem_map.2 ⟨_, hy, rfl⟩)))))), h1, h0, hnm _⟩
    · exact ⟨by simp [outIt], nameB_len (hf.nms _ (List.mem_append.2 (.inr (List.mem_append.2 (.inr (List.mem_map.2 ⟨_, hy, rfl⟩)))))), h1, hnm _, h0⟩
  have hb : ∀ x ∈ s.items, x.bare ∈ drawI g := fun x hx => hi ▸ List.mem_map_of_mem hx
  have := hf.na; have := hf.ne; have := hf.ni; have := hf.no
  refine ⟨⟨by omega, by rw [hn]; have := nameB_len hf.nm; omega, fun x hm => ?_⟩, fun x hm => by have := draw_kind g _ (hb x hm); exact this, by omega, fun x hm => (hx _ (hb x hm)).1⟩
  obtain ⟨a, b, c, d, e⟩ := hx _ (hb x hm)
  have a' : x.xs.length ≤ 1048576 := a
  have b' : x.name.size ≤ 16 := b
  have c' : x.tag.size ≤ 20 := c
  have d' : x.fn.size ≤ 16 := d
  have e' : x.tn.size ≤ 16 := e
  omega
theorem tags_bare {q g : Gr} (h : ∀ x ∈ g.acts, 0 ≤ x.tag ∧ x.tag ≤ 255) (e : q.bare = g.bare) : ∀ x ∈ q.acts, 0 ≤ x.tag ∧ x.tag ≤ 255 := fun x hx => by
  have h2 : q.acts.map GAct.bare = g.acts.map GAct.bare := congrArg Gr.acts e
  have hm : x.bare ∈ g.acts.map GAct.bare := h2 ▸ List.mem_map_of_mem hx
  obtain ⟨y, hy, he⟩ := List.mem_map.1 hm
  have e1 : y.tag = x.tag := by have := congrArg GAct.tag he; exact this
  rw [← e1]; exact h y hy
end Go.Proofs.YtnedmonlofbahaaGreatDoor
