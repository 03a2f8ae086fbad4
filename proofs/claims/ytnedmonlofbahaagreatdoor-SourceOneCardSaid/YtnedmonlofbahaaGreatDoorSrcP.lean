/-
  Layer 9, plain: reading and printing graphs: what is printed is read as the same graph; places.
-/
import Derived.Test.YtnedmonlofbahaaGreatDoorGwF
import Derived.Test.YtnedmonlofbahaaGreatDoorSwD
namespace Go.Proofs.YtnedmonlofbahaaGreatDoor
open Go Go.RowKit Go.Joins
set_option linter.all false

structure GNum (g : Gr) : Prop where
  ax : ∀ x ∈ g.acts, ∀ y ∈ x.xs, BndZ y
  en : ∀ x ∈ g.edges, BndZ x.fp ∧ BndZ x.tp
  ex : ∀ x ∈ g.edges, ∀ y ∈ x.xs, BndZ y
  ix : ∀ x ∈ g.ins, BndZ x.po
  ox : ∀ x ∈ g.outs, BndZ x.po
theorem GNum.same {g h : Gr} (e : g.bare = h.bare) (k : GNum g) : GNum h := by
  obtain ⟨-, e2, e3, e4, e5⟩ := bare_parts e
  have ha : ∀ x ∈ h.acts, ∃ y ∈ g.acts, y.xs = x.xs := fun x hx => by
    have hm : x.bare ∈ g.acts.map GAct.bare := e2 ▸ List.mem_map_of_mem hx
    obtain ⟨y, hy, he⟩ := List.mem_map.1 hm
    exact ⟨y, hy, by have := congrArg GAct.xs he; exact this⟩
  have hb : ∀ x ∈ h.edges, ∃ y ∈ g.edges, y.xs = x.xs ∧ y.fp = x.fp ∧ y.tp = x.tp := fun x hx => by
    have hm : x.bare ∈ g.edges.map GEdge.bare := e3 ▸ List.mem_map_of_mem hx
    obtain ⟨y, hy, he⟩ := List.mem_map.1 hm
    exact ⟨y, hy, by have := congrArg GEdge.xs he; exact this, by have := congrArg GEdge.fp he; exact this, by have := congrArg GEdge.tp he; exact this⟩
  refine ⟨fun x hx y hy => ?_, fun x hx => ?_, fun x hx y hy => ?_, fun x hx => k.ix x (e4 ▸ hx), fun x hx => k.ox x (e5 ▸ hx)⟩
  · obtain ⟨z, hz, hq⟩ := ha x hx
    exact k.ax z hz y (hq ▸ hy)
  · obtain ⟨z, hz, _, q1, q2⟩ := hb x hx
    rw [← q1, ← q2]; exact k.en z hz
  · obtain ⟨z, hz, hq, _⟩ := hb x hx
    exact k.ex z hz y (hq ▸ hy)

theorem word_name {t : Int} (h1 : 1 ≤ t) (h2 : t ≤ 11) : nameB (wordS t).1 = true := by
  rcases tag_cases h1 h2 with rfl | rfl | rfl | rfl | rfl | rfl | rfl | rfl | rfl | rfl | rfl <;> kernel_rfl
theorem draw_name {g : Gr} (hf : Fair g) {a : Int} (h0 : 0 ≤ a) (h1 : a < g.acts.length) : nameB (nameAt g a) = true := by
  obtain ⟨k, rfl⟩ : ∃ k : Nat, a = k := ⟨a.toNat, by omega⟩
  have hk : k < g.acts.length := by omega
  rw [nameAt_is g hk]
  exact hf.nms _ (List.mem_append.2 (.inl (List.mem_map.2 ⟨_, List.getElem_mem hk, rfl⟩)))
theorem in_range {g : Gr} (hf : Fair g) {x : GPort} (hx : x ∈ g.ins) : 0 ≤ x.ac ∧ x.ac < g.acts.length := by
  obtain ⟨k, hk, e1, e2, -⟩ := hf.irr (x.ac, x.po) (List.mem_append.2 (.inr (List.mem_map.2 ⟨x, hx, rfl⟩)))
  simp only at e1
  omega
theorem out_range {g : Gr} (hf : Fair g) {x : GPort} (hx : x ∈ g.outs) : 0 ≤ x.ac ∧ x.ac < g.acts.length := by
  obtain ⟨k, hk, e1, e2, -⟩ := hf.orr (x.ac, x.po) (List.mem_append.2 (.inr (List.mem_map.2 ⟨x, hx, rfl⟩)))
  simp only at e1
  omega
theorem in_name {g : Gr} (hf : Fair g) {x : GPort} (hx : x ∈ g.ins) : nameB x.name = true :=
  hf.nms _ (List.mem_append.2 (.inr (List.mem_append.2 (.inl (List.mem_map.2 ⟨_, hx, rfl⟩)))))
theorem out_name {g : Gr} (hf : Fair g) {x : GPort} (hx : x ∈ g.outs) : nameB x.name = true :=
  hf.nms _ (List.mem_append.2 (.inr (List.mem_append.2 (.inr (List.mem_map.2 ⟨_, hx, rfl⟩)))))
theorem act_name {g : Gr} (hf : Fair g) {x : GAct} (hx : x ∈ g.acts) : nameB x.name = true :=
  hf.nms _ (List.mem_append.2 (.inl (List.mem_map.2 ⟨_, hx, rfl⟩)))
theorem draw_right {g : Gr} (hf : Fair g) : (drawI g).all rightB = true := by
  rw [List.all_eq_true]
  have hz : bareB ⟨#[]⟩ 0 = true := by kernel_rfl
  have he : emptyB ⟨#[]⟩ = true := by kernel_rfl
  intro x hx
  unfold drawI at hx
  simp only [List.mem_append, List.mem_map] at hx
  rcases hx with ((⟨y, hy, rfl⟩ | ⟨y, hy, rfl⟩) | ⟨y, hy, rfl⟩) | ⟨y, hy, rfl⟩
  · have hs := shape_good (hf.shp y hy)
    unfold rightB actIt
    simp only [if_pos, act_name hf hy, word_name hs.1 hs.2.1, hz, Bool.and_true]
  · obtain ⟨i, hi, rfl⟩ := List.getElem_of_mem hy
    obtain ⟨⟨a1, a2, -⟩, b1, b2, -⟩ := hf.ends hi
    unfold rightB edgeIt
    simp only [if_neg (show ¬ (2 : Int) = 1 by decide), if_pos, he, draw_name hf a1 a2, draw_name hf b1 b2, Bool.and_true]
  · obtain ⟨a, b⟩ := in_range hf hy
    unfold rightB inIt
    simp only [if_neg (show ¬ (3 : Int) = 1 by decide), if_neg (show ¬ (3 : Int) = 2 by decide), if_pos, in_name hf hy, he, hz, draw_name hf a b, List.length_nil, Bool.and_true, beq_self_eq_true]
  · obtain ⟨a, b⟩ := out_range hf hy
    unfold rightB outIt
    simp only [if_neg (show ¬ (4 : Int) = 1 by decide), if_neg (show ¬ (4 : Int) = 2 by decide), if_neg (show ¬ (4 : Int) = 3 by decide), if_pos, out_name hf hy, he, hz, draw_name hf a b, List.length_nil, Bool.and_true, beq_self_eq_true]
theorem draw_bnd {g : Gr} (hn : GNum g) : ∀ x ∈ drawI g, BndZ x.fp ∧ BndZ x.tp ∧ ∀ n ∈ x.xs, BndZ n := by
  intro x hx
  unfold drawI at hx
  simp only [List.mem_append, List.mem_map] at hx
  have z0 : BndZ 0 := ⟨by decide, by decide⟩
  rcases hx with ((⟨y, hy, rfl⟩ | ⟨y, hy, rfl⟩) | ⟨y, hy, rfl⟩) | ⟨y, hy, rfl⟩
  · exact ⟨z0, z0, hn.ax y hy⟩
  · exact ⟨(hn.en y hy).1, (hn.en y hy).2, hn.ex y hy⟩
  · exact ⟨z0, hn.ix y hy, fun n h => (by cases h)⟩
  · exact ⟨hn.ox y hy, z0, fun n h => (by cases h)⟩
theorem few_of {g : Gr} (hf : Fair g) : GFew g := by
  have := hf.na; have := hf.ne; have := hf.ni; have := hf.no
  refine ⟨by omega, fun x hx => ?_, fun x hx => ?_⟩
  · have := (shape_good (hf.shp x hx)).2.2; omega
  · have := hf.ln x hx; omega
theorem gr_len {g : Gr} (hf : Fair g) : GLen g := by
  have := hf.na; have := hf.ne; have := hf.ni; have := hf.no
  refine ⟨by omega, by omega, by omega, by omega, fun x hx => ?_, fun x hx => ?_, fun x hx => ?_, fun x hx => ?_, ?_⟩
  · have := (shape_good (hf.shp x hx)).2.2; have := nameB_len (act_name hf hx); omega
  · have := hf.ln x hx; omega
  · have := nameB_len (in_name hf hx); omega
  · have := nameB_len (out_name hf hx); omega
  · have := nameB_len hf.nm; omega
theorem gr_tags {g : Gr} (hf : Fair g) : ∀ x ∈ g.acts, 0 ≤ x.tag ∧ x.tag ≤ 255 := fun x hx => by
  have := shape_good (hf.shp x hx); omega
theorem nums_len22 : ∀ xs : List Int, (∀ n ∈ xs, BndZ n) → (numsW xs).length ≤ 22 * xs.length := by
  intro xs
  induction xs with
  | nil => intro _; exact Nat.le_refl _
  | cons x r ih =>
    intro h
    have i1 := ih (fun n hn => h n (List.mem_cons_of_mem _ hn))
    have h1 := Lib.itoa_length_le x (h x List.mem_cons_self).1 (h x List.mem_cons_self).2
    have e : numsW (x :: r) = 32 :: (Lib.itoa x ++ numsW r) := by unfold numsW; simp
    rw [e]
    simp only [List.length_cons, List.length_append]
    omega
theorem size_list (s : ByteArray) : s.data.toList.length = s.size := by rw [Array.length_toList]; rfl
theorem place_len {n : ByteArray} {p : Int} (hn : n.size ≤ 20) (hp : BndZ p) : (placeW n p).length ≤ 42 := by
  unfold placeW
  have := Lib.itoa_length_le p hp.1 hp.2
  simp only [List.length_append, List.length_cons, size_list]
  omega
theorem head_len {x : SIt} (h1 : x.name.size ≤ 20) (h2 : x.tag.size ≤ 20) (h3 : x.fn.size ≤ 20) (h4 : x.tn.size ≤ 20) (h5 : BndZ x.fp) (h6 : BndZ x.tp) : (headW x).length ≤ 200 := by
  have p1 := place_len h3 h5
  have p2 := place_len h4 h6
  unfold headW
  split
  · simp only [List.length_append, List.length_cons, List.length_nil, size_list]; omega
  · split
    · split <;> (simp only [List.length_append, List.length_cons, List.length_nil]; omega)
    · split
      · simp only [List.length_append, List.length_cons, List.length_nil, size_list]; omega
      · split
        · simp only [List.length_append, List.length_cons, List.length_nil, size_list]; omega
        · simp
theorem lines_len (B : Nat) : ∀ l : List SIt, (∀ x ∈ l, (lineW x).length ≤ B) → (l.flatMap lineW).length ≤ l.length * B := by
  intro l
  induction l with
  | nil => intro _; simp
  | cons x r ih =>
    intro h
    have i1 := ih (fun y hy => h y (List.mem_cons_of_mem _ hy))
    have h1 := h x List.mem_cons_self
    rw [List.flatMap_cons, List.length_append, List.length_cons, Nat.add_mul, Nat.one_mul]
    omega
theorem line_len {x : SIt} {k : Nat} (h1 : x.name.size ≤ 20) (h2 : x.tag.size ≤ 20) (h3 : x.fn.size ≤ 20) (h4 : x.tn.size ≤ 20) (h5 : BndZ x.fp) (h6 : BndZ x.tp) (h7 : ∀ n ∈ x.xs, BndZ n) (h8 : x.xs.length ≤ k) : (lineW x).length ≤ 202 + 22 * k := by
  have a := head_len h1 h2 h3 h4 h5 h6
  have b := nums_len22 x.xs h7
  unfold lineW
  simp only [List.length_append, List.length_cons, List.length_nil]
  omega
theorem draw_len {g : Gr} (hf : Fair g) (hn : GNum g) : (printW (drawS g)).length ≤ 1048576 := by
  have hnm : ∀ a, (nameAt g a).size ≤ 20 := fun a => by
    unfold nameAt
    by_cases ha : a.toNat < g.acts.length
    · rw [List.getD_eq_getElem?_getD, List.getElem?_eq_getElem ha]
      have := nameB_len (act_name hf (List.getElem_mem ha))
      exact Nat.le_trans this (by decide)
    · rw [List.getD_eq_getElem?_getD, List.getElem?_eq_none (by omega)]
      decide
  have h0 : (⟨#[]⟩ : ByteArray).size ≤ 20 := by decide
  have hb := draw_bnd hn
  have m1 : ∀ y ∈ g.acts, actIt y ∈ drawI g := fun y hy => by unfold drawI; simp only [List.mem_append, List.mem_map]; exact .inl (.inl (.inl ⟨y, hy, rfl⟩))
  have m2 : ∀ y ∈ g.edges, edgeIt g y ∈ drawI g := fun y hy => by unfold drawI; simp only [List.mem_append, List.mem_map]; exact .inl (.inl (.inr ⟨y, hy, rfl⟩))
  have m3 : ∀ y ∈ g.ins, inIt g y ∈ drawI g := fun y hy => by unfold drawI; simp only [List.mem_append, List.mem_map]; exact .inl (.inr ⟨y, hy, rfl⟩)
  have m4 : ∀ y ∈ g.outs, outIt g y ∈ drawI g := fun y hy => by unfold drawI; simp only [List.mem_append, List.mem_map]; exact .inr ⟨y, hy, rfl⟩
  have a1 := lines_len (202 + 22 * 16) (g.acts.map actIt) (fun x hx => by
    obtain ⟨y, hy, rfl⟩ := List.mem_map.1 hx
    obtain ⟨q1, q2, q3⟩ := hb _ (m1 y hy)
    exact line_len (Nat.le_trans (nameB_len (act_name hf hy)) (by decide)) (word_len _) h0 h0 q1 q2 q3 (shape_good (hf.shp y hy)).2.2)
  have a2 := lines_len (202 + 22 * 256) (g.edges.map (edgeIt g)) (fun x hx => by
    obtain ⟨y, hy, rfl⟩ := List.mem_map.1 hx
    obtain ⟨q1, q2, q3⟩ := hb _ (m2 y hy)
    exact line_len h0 h0 (hnm _) (hnm _) q1 q2 q3 (hf.ln y hy))
  have a3 := lines_len (202 + 22 * 0) (g.ins.map (inIt g)) (fun x hx => by
    obtain ⟨y, hy, rfl⟩ := List.mem_map.1 hx
    obtain ⟨q1, q2, q3⟩ := hb _ (m3 y hy)
    exact line_len (Nat.le_trans (nameB_len (in_name hf hy)) (by decide)) h0 h0 (hnm _) q1 q2 q3 (Nat.le_refl _))
  have a4 := lines_len (202 + 22 * 0) (g.outs.map (outIt g)) (fun x hx => by
    obtain ⟨y, hy, rfl⟩ := List.mem_map.1 hx
    obtain ⟨q1, q2, q3⟩ := hb _ (m4 y hy)
    exact line_len (Nat.le_trans (nameB_len (out_name hf hy)) (by decide)) h0 (hnm _) h0 q1 q2 q3 (Nat.le_refl _))
  rw [List.length_map] at a1 a2 a3 a4
  have := hf.na; have := hf.ne; have := hf.ni; have := hf.no
  have hg := nameB_len hf.nm
  have e : (drawS g).items.flatMap lineW = (((g.acts.map actIt).flatMap lineW ++ (g.edges.map (edgeIt g)).flatMap lineW) ++ (g.ins.map (inIt g)).flatMap lineW) ++ (g.outs.map (outIt g)).flatMap lineW := by
    unfold drawS drawI
    simp only [List.flatMap_append]
  unfold printW
  rw [e]
  simp only [List.length_append, List.length_cons, List.length_nil, size_list]
  have hg' : (drawS g).name.size ≤ 16 := hg
  omega
theorem print_draw {g : Gr} (hf : Fair g) (hn : GNum g) : printA (drawS g) = (printW (drawS g), 0) := by
  unfold printA
  have h1 : nameB (drawS g).name = true := hf.nm
  have h2 : (drawS g).items.all rightB = true := draw_right hf
  rw [h1, h2]
  have h3 := draw_len hf hn
  rw [if_neg (by decide), if_neg (by omega)]
theorem draw_bare {g h : Gr} (e : g.bare = h.bare) : drawS g = drawS h := by
  obtain ⟨e1, e2, e3, e4, e5⟩ := bare_parts e
  have hN : nameAt g = nameAt h := by
    funext a
    unfold nameAt
    have h1 : (g.acts.map GAct.bare).map GAct.name = (h.acts.map GAct.bare).map GAct.name := by rw [e2]
    simp only [List.map_map] at h1
    have h2 : g.acts.map GAct.name = h.acts.map GAct.name := h1
    have h3 : (g.acts.map GAct.name)[a.toNat]? = (h.acts.map GAct.name)[a.toNat]? := by rw [h2]
    simp only [List.getElem?_map] at h3
    rw [List.getD_eq_getElem?_getD, List.getD_eq_getElem?_getD]
    cases hx : g.acts[a.toNat]? with
    | none =>
      cases hy : h.acts[a.toNat]? with
      | none => rfl
      | some y => rw [hx, hy] at h3; cases h3
    | some x =>
      cases hy : h.acts[a.toNat]? with
      | none => rw [hx, hy] at h3; cases h3
      | some y => rw [hx, hy] at h3; simpa using h3
  have f1 : g.acts.map actIt = h.acts.map actIt := by
    have h1 : (g.acts.map GAct.bare).map actIt = (h.acts.map GAct.bare).map actIt := by rw [e2]
    simp only [List.map_map] at h1
    exact h1
  have f2 : g.edges.map (edgeIt g) = h.edges.map (edgeIt h) := by
    have h0 : edgeIt g = edgeIt h := by funext x; unfold edgeIt; rw [hN]
    have h1 : (g.edges.map GEdge.bare).map (edgeIt h) = (h.edges.map GEdge.bare).map (edgeIt h) := by rw [e3]
    simp only [List.map_map] at h1
    rw [h0]
    exact h1
  have f3 : g.ins.map (inIt g) = h.ins.map (inIt h) := by
    have h0 : inIt g = inIt h := by funext x; unfold inIt; rw [hN]
    rw [h0, e4]
  have f4 : g.outs.map (outIt g) = h.outs.map (outIt h) := by
    have h0 : outIt g = outIt h := by funext x; unfold outIt; rw [hN]
    rw [h0, e5]
  unfold drawS drawI
  rw [f1, f2, f3, f4, e1]

def SIt.pl (x : SIt) : SIt := { x with a := none, c := 0, fa := 0, ta := 0, at_ := 0 }
theorem ofK_pl (k : Int) (l : List SIt) : ofK k (l.map SIt.pl) = (ofK k l).map SIt.pl := by
  unfold ofK; rw [List.filter_map]; rfl
theorem numV_pl (l : List SIt) : numV (l.map SIt.pl) = numV l := by
  funext s
  unfold numV
  rw [ofK_pl, List.findIdx?_map]; rfl
theorem buildP_pl (n : ByteArray) (V : ByteArray → Int) (l : List SIt) : buildP n V (l.map SIt.pl) = buildP n V l := by
  unfold buildP
  simp only [ofK_pl, List.map_map]
  rfl
theorem buildG_pl {s t : Sk} (hn : s.name = t.name) (h : s.items.map SIt.pl = t.items.map SIt.pl) : buildG s = buildG t := by
  unfold buildG
  rw [← buildP_pl, ← numV_pl s.items, h, numV_pl, buildP_pl, hn]
theorem bad_pl {s t : Sk} (h : s.items.map SIt.pl = t.items.map SIt.pl) (hb : t.items.find? badK = none) : s.items.find? badK = none := by
  have h1 : (t.items.map SIt.pl).find? badK = none := by
    rw [List.find?_map]
    have e : badK ∘ SIt.pl = badK := rfl
    rw [e, hb]; rfl
  rw [← h, List.find?_map] at h1
  have e : badK ∘ SIt.pl = badK := rfl
  rw [e] at h1
  simpa using h1
theorem like_pl {y : LSk} {s : Sk} (h : y.bare = (skL s).bare) : y.mem.name = s.name ∧ y.mem.items.map SIt.pl = s.items.map SIt.pl := by
  have h1 : y.name = s.name.data.toList := congrArg LSk.name h
  have h2 : y.items.map LIt.bare = (s.items.map itL).map LIt.bare := congrArg LSk.items h
  refine ⟨by show (⟨y.name.toArray⟩ : ByteArray) = s.name; rw [h1], ?_⟩
  have e1 : y.mem.items.map SIt.pl = (y.items.map LIt.bare).map (fun z => (z.mem none 0).pl) := by
    unfold LSk.mem
    simp only [List.map_map]
    rfl
  rw [e1, h2, List.map_map, List.map_map]
  refine List.map_congr_left fun x _ => ?_
  rfl
theorem buildF_zero {s : Sk} : (buildF s).1 = 0 ↔ s.items.find? badK = none ∧ (findG (buildG s)).1 = 0 := by
  unfold buildF
  cases h : s.items.find? badK with
  | some x => simp
  | none =>
    by_cases h2 : (findG (buildG s)).1 = 0
    · simp [h2]
    · simp [h2]
theorem buildF_zero2 {s : Sk} (h : (buildF s).1 = 0) : buildF s = (0, 0) := by
  obtain ⟨h1, h2⟩ := buildF_zero.1 h
  unfold buildF
  rw [h1]
  simp only [h2, if_pos]

def srcF (l : List UInt8) : Int × Int := match parseA l with
  | .error e => (e.1, (e.2 : Int))
  | .ok x => buildF x.mem
def srcG (l : List UInt8) : Gr := match parseA l with
  | .error _ => ⟨⟨#[]⟩, none, 0, [], none, 0, [], none, 0, [], none, 0, []⟩
  | .ok x => buildG x.mem
theorem src_print {g : Gr} (h : (findG g).1 = 0) (hn : GNum g) : srcF (printW (drawS g)) = (0, 0) ∧ srcG (printW (drawS g)) = g.bare := by
  have hf := (find_fair h).1
  obtain ⟨y, hy, hb⟩ := printed_parse (drawS g) hf.nm (draw_right hf) (draw_bnd hn) (draw_len hf hn)
  obtain ⟨hp, hq⟩ := like_pl hb
  obtain ⟨d1, d2⟩ := buildF_draw h
  have e1 : buildG y.mem = g.bare := by rw [buildG_pl hp hq, d2]
  have e2 : (buildF y.mem).1 = 0 := buildF_zero.2 ⟨bad_pl hq (buildF_zero.1 (by rw [d1])).1, by rw [e1, findG_bare]; exact h⟩
  unfold srcF srcG
  rw [hy]
  exact ⟨buildF_zero2 e2, e1⟩
theorem src_one {g h : Gr} (h1 : (findG g).1 = 0) (n1 : GNum g) (h2 : (findG h).1 = 0) (n2 : GNum h) : printW (drawS g) = printW (drawS h) ↔ g.bare = h.bare := by
  refine ⟨fun e => ?_, fun e => by rw [draw_bare e]⟩
  have a := (src_print h1 n1).2
  have b := (src_print h2 n2).2
  rw [← a, ← b, e]
theorem build_num {s : Sk} (h : ∀ x ∈ s.items, BndZ x.fp ∧ BndZ x.tp ∧ ∀ n ∈ x.xs, BndZ n) : GNum (buildG s) := by
  have hk : ∀ k, ∀ x ∈ ofK k s.items, BndZ x.fp ∧ BndZ x.tp ∧ ∀ n ∈ x.xs, BndZ n := fun k x hx => h x (List.mem_filter.1 hx).1
  unfold buildG buildP
  refine ⟨fun x hx => ?_, fun x hx => ?_, fun x hx => ?_, fun x hx => ?_, fun x hx => ?_⟩
  all_goals
    simp only [List.mem_map] at hx
    obtain ⟨y, hy, rfl⟩ := hx
  · exact (hk _ y hy).2.2
  · exact ⟨(hk _ y hy).1, (hk _ y hy).2.1⟩
  · exact (hk _ y hy).2.2
  · exact (hk _ y hy).2.1
  · exact (hk _ y hy).1
theorem build_bare (s : Sk) : (buildG s).bare = buildG s := by
  unfold buildG buildP Gr.bare
  simp only [List.map_map]
  rfl
theorem src_good {l : List UInt8} (h : (srcF l).1 = 0) : srcF l = (0, 0) ∧ (findG (srcG l)).1 = 0 ∧ GNum (srcG l) ∧ (srcG l).bare = srcG l := by
  unfold srcF srcG at *
  cases hA : parseA l with
  | error e =>
    rw [hA] at h
    simp only at h
    exact absurd h (parse_fault (c := e.1) (k := e.2) hA).1
  | ok x =>
    rw [hA] at h
    simp only at h
    exact ⟨buildF_zero2 h, (buildF_zero.1 h).2, build_num (read_ok hA).1.bd, build_bare _⟩
theorem pls_in {s : List UInt8} : ∀ (l : List LIt) (p : Nat), PlsOk s p l → ∀ x ∈ l, x.at_ ≤ s.length ∧ x.fr.at_ ≤ s.length ∧ x.tu.at_ ≤ s.length := by
  intro l
  induction l with
  | nil => intro _ _ x hx; cases hx
  | cons y r ih =>
    intro p h x hx
    obtain ⟨h1, h2⟩ := h
    rcases List.mem_cons.1 hx with rfl | hx
    · obtain ⟨a1, a2, a3, a4⟩ := h1
      rcases a4 with ⟨_, b, c, d⟩ | ⟨_, b, c, d, _⟩ | ⟨_, b, c, d, _⟩ | ⟨_, b, c, _, d⟩
      · have := b.1; omega
      · have := b.1; have := c.1; have := d.1; omega
      · have := b.1; have := d.1; omega
      · have := b.1; have := c.1; omega
    · exact ih _ h2 x hx
theorem src_place {l : List UInt8} : 0 ≤ (srcF l).2 ∧ (srcF l).2 ≤ l.length := by
  unfold srcF
  cases hA : parseA l with
  | error e =>
    have := (parse_fault (c := e.1) (k := e.2) hA).2
    simp only
    omega
  | ok x =>
    have hp := pls_in _ _ (parse_places hA)
    have hm : ∀ y ∈ x.mem.items, (0 ≤ y.at_ ∧ y.at_ ≤ l.length) ∧ (0 ≤ y.fa ∧ y.fa ≤ l.length) ∧ (0 ≤ y.ta ∧ y.ta ≤ l.length) := fun y hy => by
      obtain ⟨z, hz, rfl⟩ := List.mem_map.1 hy
      obtain ⟨a, b, c⟩ := hp z hz
      have e1 : (z.mem none 0).at_ = (z.at_ : Int) := rfl
      have e2 : (z.mem none 0).fa = (z.fr.at_ : Int) := rfl
      have e3 : (z.mem none 0).ta = (z.tu.at_ : Int) := rfl
      rw [e1, e2, e3]
      omega
    simp only
    unfold buildF
    cases hb : x.mem.items.find? badK with
    | some y => exact (hm y (List.mem_of_find?_eq_some hb)).1
    | none =>
      simp only
      split
      · simp
      · simp only
        unfold placeS
        cases hq : (ofK (findG (buildG x.mem)).2.1 x.mem.items)[(findG (buildG x.mem)).2.2.1.toNat]? with
        | none => simp
        | some y =>
          obtain ⟨a, b, c⟩ := hm y (List.mem_filter.1 (List.mem_of_getElem? hq)).1
          simp only
          split
          · exact b
          · split
            · exact c
            · exact a
theorem src_code {l : List UInt8} {e : Int × Nat} (h : parseA l = .error e) : (srcF l).1 ≠ 0 := by
  unfold srcF
  rw [h]
  exact (parse_fault (c := e.1) (k := e.2) h).1
end Go.Proofs.YtnedmonlofbahaaGreatDoor
