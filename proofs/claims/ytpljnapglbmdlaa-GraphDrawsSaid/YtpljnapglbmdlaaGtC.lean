/-
  Layer 8, plain: what is drawn of a sound graph is built again as it was.
-/
import Derived.Test.YtpljnapglbmdlaaGtA
import Derived.Test.YtpljnapglbmdlaaGsB
import Derived.Test.YtpljnapglbmdlaaGsD
namespace Go.Proofs.Ytpljnapglbmdlaa
open Go Go.RowKit Go.Joins
set_option linter.all false

theorem filter_const {α β : Type} (f : α → β) (p : β → Bool) (b : Bool) : ∀ (l : List α), (∀ x ∈ l, p (f x) = b) → (l.map f).filter p = if b then l.map f else []
  | [], _ => by cases b <;> rfl
  | x :: r, h => by
    have h0 := h x (by simp)
    have ih := filter_const f p b r (fun y hy => h y (by simp [hy]))
    cases b <;> simp_all
theorem draw_kinds (g : Gr) : ofK 1 (drawI g) = g.acts.map actIt ∧ ofK 2 (drawI g) = g.edges.map (edgeIt g) ∧ ofK 3 (drawI g) = g.ins.map (inIt g) ∧ ofK 4 (drawI g) = g.outs.map (outIt g) := by
  unfold ofK drawI
  simp only [List.filter_append]
  refine ⟨?_, ?_, ?_, ?_⟩
  · rw [filter_const actIt _ true _ (fun x _ => rfl), filter_const (edgeIt g) _ false _ (fun x _ => rfl), filter_const (inIt g) _ false _ (fun x _ => rfl), filter_const (outIt g) _ false _ (fun x _ => rfl)]
    simp
  · rw [filter_const actIt _ false _ (fun x _ => rfl), filter_const (edgeIt g) _ true _ (fun x _ => rfl), filter_const (inIt g) _ false _ (fun x _ => rfl), filter_const (outIt g) _ false _ (fun x _ => rfl)]
    simp
  · rw [filter_const actIt _ false _ (fun x _ => rfl), filter_const (edgeIt g) _ false _ (fun x _ => rfl), filter_const (inIt g) _ true _ (fun x _ => rfl), filter_const (outIt g) _ false _ (fun x _ => rfl)]
    simp
  · rw [filter_const actIt _ false _ (fun x _ => rfl), filter_const (edgeIt g) _ false _ (fun x _ => rfl), filter_const (inIt g) _ false _ (fun x _ => rfl), filter_const (outIt g) _ true _ (fun x _ => rfl)]
    simp
theorem numV_draw {g : Gr} (h : Fair g) {a : Int} (h0 : 0 ≤ a) (h1 : a < g.acts.length) : numV (drawI g) (nameAt g a) - 1 = a := by
  obtain ⟨k, rfl⟩ : ∃ k : Nat, a = k := ⟨a.toNat, by omega⟩
  have hk : k < g.acts.length := by omega
  rw [nameAt_is g hk]
  unfold numV
  rw [(draw_kinds g).1]
  have : (g.acts.map actIt).findIdx? (fun x => decide (x.name = g.acts[k].name)) = some k := by
    rw [List.findIdx?_eq_some_iff_getElem]
    refine ⟨by simpa using hk, by simp [actIt], fun j hj => ?_⟩
    have := h.names hk hj
    simp only [List.getElem_map, actIt, decide_eq_true_eq]
    exact this
  rw [this]
  simp
theorem tag_word {t : Int} (h1 : 1 ≤ t) (h2 : t ≤ 11) : (tagS (wordS t).1).1 = t := by
  rcases tag_cases h1 h2 with rfl | rfl | rfl | rfl | rfl | rfl | rfl | rfl | rfl | rfl | rfl <;> kernel_rfl
theorem build_draw {g : Gr} (h : Fair g) : buildG (drawS g) = g.bare := by
  have hk := draw_kinds g
  unfold buildG buildP Gr.bare drawS
  simp only
  rw [hk.1, hk.2.1, hk.2.2.1, hk.2.2.2]
  simp only [List.map_map, Gr.mk.injEq, true_and]
  refine ⟨?_, ?_, ?_, ?_⟩
  · refine List.map_congr_left fun x hx => ?_
    have hs := shape_good (h.shp x hx)
    simp only [Function.comp, itAct, actIt, GAct.bare, tag_word hs.1 hs.2.1]
  · refine List.map_congr_left fun x hx => ?_
    obtain ⟨i, hi, rfl⟩ := List.getElem_of_mem hx
    obtain ⟨⟨a1, a2, -⟩, b1, b2, -⟩ := h.ends hi
    simp only [Function.comp, itEdge, edgeIt, GEdge.bare, numV_draw h a1 a2, numV_draw h b1 b2]
  · have := List.map_congr_left (l := g.ins) (f := itIn (numV (drawI g)) ∘ inIt g) (g := id) fun x hx => by
      obtain ⟨k, hk, e1, e2, -⟩ := h.irr (x.ac, x.po) (List.mem_append.2 (.inr (List.mem_map.2 ⟨x, hx, rfl⟩)))
      simp only at e1
      have := numV_draw h (a := x.ac) (by omega) (by omega)
      simp only [Function.comp, itIn, inIt, this, id]
    rw [this, List.map_id]
  · have := List.map_congr_left (l := g.outs) (f := itOut (numV (drawI g)) ∘ outIt g) (g := id) fun x hx => by
      obtain ⟨k, hk, e1, e2, -⟩ := h.orr (x.ac, x.po) (List.mem_append.2 (.inr (List.mem_map.2 ⟨x, hx, rfl⟩)))
      simp only at e1
      have := numV_draw h (a := x.ac) (by omega) (by omega)
      simp only [Function.comp, itOut, outIt, this, id]
    rw [this, List.map_id]
theorem draw_kind (g : Gr) : ∀ x ∈ drawI g, 1 ≤ x.kind ∧ x.kind ≤ 4 := by
  intro x hx
  unfold drawI at hx
  simp only [List.mem_append, List.mem_map] at hx
  rcases hx with ((⟨y, _, rfl⟩ | ⟨y, _, rfl⟩) | ⟨y, _, rfl⟩) | ⟨y, _, rfl⟩ <;> simp [actIt, edgeIt, inIt, outIt]
theorem buildF_draw {g : Gr} (h : (findG g).1 = 0) : buildF (drawS g) = (0, 0) ∧ buildG (drawS g) = g.bare := by
  have hb := build_draw (find_fair h).1
  refine ⟨?_, hb⟩
  unfold buildF
  have hn : (drawS g).items.find? badK = none := by
    rw [List.find?_eq_none]
    intro x hx
    have := draw_kind g x hx
    unfold badK
    simp
    omega
  rw [hn, hb, findG_bare]
  simp [h]
theorem word_len (t : Int) : (wordS t).1.size ≤ 20 := by
  unfold wordS
  split
  · rename_i h
    rcases tag_cases h.1 h.2 with rfl | rfl | rfl | rfl | rfl | rfl | rfl | rfl | rfl | rfl | rfl <;> decide +kernel
  · decide
theorem nameB_len {s : ByteArray} (h : nameB s = true) : s.size ≤ 16 := by
  rw [← bytesN_len]
  unfold nameB nameL at h
  cases hb : bytesN s with
  | nil => simp
  | cons b r =>
    rw [hb] at h
    simp only [Bool.and_eq_true, decide_eq_true_eq] at h
    simp only [List.length_cons]
    omega
/-- The lengths of what is drawn. -/
theorem draw_small {s : Sk} {g : Gr} (h : s.bare = drawS g) (hf : Fair g) (hw : GFew g) : SLen s ∧ (∀ x ∈ s.items, 1 ≤ x.kind ∧ x.kind ≤ 4) ∧ s.items.length ≤ 160 ∧ (∀ x ∈ s.items, x.xs.length ≤ 1048576) := by
  have hi : s.items.map SIt.bare = drawI g := congrArg Sk.items h
  have hn : s.name = g.name := congrArg Sk.name h
  have hl : s.items.length = g.acts.length + g.edges.length + g.ins.length + g.outs.length := by
    have := congrArg List.length hi
    simp only [drawI, List.length_map, List.length_append] at this
    omega
  have hnm : ∀ a, (nameAt g a).size ≤ 16 := fun a => by
    unfold nameAt
    by_cases ha : a.toNat < g.acts.length
    · rw [List.getD_eq_getElem?_getD, List.getElem?_eq_getElem ha]
      exact nameB_len (hf.nms _ (List.mem_append.2 (.inl (List.mem_map.2 ⟨_, List.getElem_mem ha, rfl⟩))))
    · rw [List.getD_eq_getElem?_getD, List.getElem?_eq_none (by omega)]
      decide
  have hx : ∀ x ∈ drawI g, x.xs.length ≤ 1048576 ∧ x.name.size ≤ 16 ∧ x.tag.size ≤ 20 ∧ x.fn.size ≤ 16 ∧ x.tn.size ≤ 16 := by
    intro x hx
    unfold drawI at hx
    simp only [List.mem_append, List.mem_map] at hx
    have h0 : (⟨#[]⟩ : ByteArray).size ≤ 16 := by decide
    have h1 : (⟨#[]⟩ : ByteArray).size ≤ 20 := by decide
    rcases hx with ((⟨y, hy, rfl⟩ | ⟨y, hy, rfl⟩) | ⟨y, hy, rfl⟩) | ⟨y, hy, rfl⟩
    · exact ⟨hw.ax y hy, nameB_len (hf.nms _ (List.mem_append.2 (.inl (List.mem_map.2 ⟨_, hy, rfl⟩)))), word_len _, h0, h0⟩
    · exact ⟨hw.ex y hy, h0, h1, hnm _, hnm _⟩
    · exact ⟨by simp [inIt], nameB_len (hf.nms _ (List.mem_append.2 (.inr (List.mem_append.2 (.inl (List.mem_map.2 ⟨_, hy, rfl⟩)))))), h1, h0, hnm _⟩
    · exact ⟨by simp [outIt], nameB_len (hf.nms _ (List.mem_append.2 (.inr (List.mem_append.2 (.inr (List.mem_map.2 ⟨_, hy, rfl⟩)))))), h1, hnm _, h0⟩
  have hb : ∀ x ∈ s.items, x.bare ∈ drawI g := fun x hx => hi ▸ List.mem_map_of_mem hx
  have := hf.na; have := hf.ne; have := hf.ni; have := hf.no
  refine ⟨⟨by omega, by rw [hn]; have := nameB_len hf.nm; omega, fun x hm => ?_⟩, fun x hm => by have := draw_kind g _ (hb x hm); exact this, by omega, fun x hm => (hx _ (hb x hm)).1⟩
  obtain ⟨a, b, c, d, e⟩ := hx _ (hb x hm)
  have a' : x.xs.length ≤ 1048576 := a
  have b' : x.name.size ≤ 16 := b
  have c' : x.tag.size ≤ 20 := c
  have d' : x.fn.size ≤ 16 := d
  have e' : x.tn.size ≤ 16 := e
  omega
theorem tags_bare {q g : Gr} (h : ∀ x ∈ g.acts, 0 ≤ x.tag ∧ x.tag ≤ 255) (e : q.bare = g.bare) : ∀ x ∈ q.acts, 0 ≤ x.tag ∧ x.tag ≤ 255 := fun x hx => by
  have h2 : q.acts.map GAct.bare = g.acts.map GAct.bare := congrArg Gr.acts e
  have hm : x.bare ∈ g.acts.map GAct.bare := h2 ▸ List.mem_map_of_mem hx
  obtain ⟨y, hy, he⟩ := List.mem_map.1 hm
  have e1 : y.tag = x.tag := by have := congrArg GAct.tag he; exact this
  rw [← e1]; exact h y hy
end Go.Proofs.Ytpljnapglbmdlaa
