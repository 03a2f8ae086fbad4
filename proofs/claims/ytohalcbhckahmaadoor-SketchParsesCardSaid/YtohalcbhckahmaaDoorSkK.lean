/-
  Layer 5: Parse and Print as the laws call them; awake.
-/
import Derived.Test.YtohalcbhckahmaaDoorSkJ
namespace Go.Proofs.YtohalcbhckahmaaDoor
open Go Go.RowKit Go.Joins
set_option linter.all false

theorem printA_bare (s : Sk) : printA s.bare = printA s := by
  have h1 : s.bare.items.all rightB = s.items.all rightB := by
    unfold Sk.bare; simp only [List.all_map]; rfl
  have h2 : printW s.bare = printW s := by
    unfold printW Sk.bare
    simp only [List.flatMap_map]; rfl
  unfold printA
  rw [h1, h2]
  rfl
theorem skparse_ok (w : World) (s : ByteArray) (he : Env w) (hs : s.size ≤ 9223372036854775807) (x : LSk) (h : parseA s.data.toList = .ok x) :
    Calls Tryd.prog 11 #[.string s] w fun e w' => ∃ t : Sk, t.bare = x.mem ∧ e = .returned (.tuple #[t.v, .agg #[I 0, I 0]]) ∧ SkOwn w' w.heap.size t ∧ New w w' := by
  refine (parse_any w s he hs).mono ?_
  rw [h]
  exact fun e w' h => h
theorem skparse_no (w : World) (s : ByteArray) (he : Env w) (hs : s.size ≤ 9223372036854775807) (c : Int) (k : Nat) (h : parseA s.data.toList = .error (c, k)) :
    Calls Tryd.prog 11 #[.string s] w fun e w' => e = .returned (.tuple #[.agg #[.string ⟨#[]⟩, .slice none 0 0], .agg #[I c, I (k : Int)]]) ∧ New w w' := by
  refine (parse_any w s he hs).mono ?_
  rw [h]
  exact fun e w' h => h
theorem bare_len' {s : Sk} {x : LSk} (h : s.bare = x.mem) : s.name = ⟨x.name.toArray⟩ ∧ s.items.length = x.items.length := by
  have h1 := congrArg Sk.name h
  have h2 := congrArg (fun t => t.items.length) h
  simp only [Sk.bare, LSk.mem, List.length_map] at h1 h2
  exact ⟨h1, h2⟩
theorem bare_item {s : Sk} {x : LSk} (h : s.bare = x.mem) (i : Nat) (hi : i < s.items.length) (hj : i < x.items.length) : s.items[i] = x.items[i].mem s.items[i].a s.items[i].c := by
  have h2 := congrArg Sk.items h
  have h3 : (s.items.map SIt.bare)[i]? = (x.items.map fun y => y.mem none 0)[i]? := by
    show s.bare.items[i]? = x.mem.items[i]?
    rw [h2]
  rw [List.getElem?_map, List.getElem?_map, List.getElem?_eq_getElem hi, List.getElem?_eq_getElem hj] at h3
  have h4 : s.items[i].bare = x.items[i].mem none 0 := Option.some.inj h3
  generalize s.items[i] = y at h4 ⊢
  generalize x.items[i] = z at h4 ⊢
  obtain ⟨y1, y2, y3, y4, y5, y6, y7, y8, y9, y10, y11, y12, y13⟩ := y
  unfold SIt.bare LIt.mem at h4
  unfold LIt.mem
  simp only [SIt.mk.injEq] at h4 ⊢
  exact ⟨h4.1, h4.2.1, h4.2.2.1, trivial, trivial, h4.2.2.2.2.2.1, h4.2.2.2.2.2.2.1, h4.2.2.2.2.2.2.2.1, h4.2.2.2.2.2.2.2.2.1, h4.2.2.2.2.2.2.2.2.2.1, h4.2.2.2.2.2.2.2.2.2.2.1, h4.2.2.2.2.2.2.2.2.2.2.2.1, h4.2.2.2.2.2.2.2.2.2.2.2.2⟩
/-- Sizes and bounds of what is read. -/
structure LBnd (x : LSk) : Prop where
  n : x.name.length ≤ 9223372036854775807
  i : x.items.length ≤ 9223372036854775807
  sz : ∀ y ∈ x.items, y.name.length ≤ 9223372036854775807 ∧ y.tag.length ≤ 9223372036854775807 ∧ y.fr.name.length ≤ 9223372036854775807 ∧ y.to.name.length ≤ 9223372036854775807 ∧ y.xs.length ≤ 9223372036854775807
  bd : ∀ y ∈ x.items, (-9223372036854775808 ≤ y.fr.port ∧ y.fr.port ≤ 9223372036854775807) ∧ (-9223372036854775808 ≤ y.to.port ∧ y.to.port ≤ 9223372036854775807) ∧ ∀ n ∈ y.xs, -9223372036854775808 ≤ n ∧ n ≤ 9223372036854775807
theorem arr_size (l : List UInt8) : (⟨l.toArray⟩ : ByteArray).size = l.length := by rw [← toList_len]
theorem LBnd.mem {x : LSk} (h : LBnd x) {s : Sk} (hs : s.bare = x.mem) : SBnd s := by
  obtain ⟨h1, h2⟩ := bare_len' hs
  have hit : ∀ y ∈ s.items, ∃ z ∈ x.items, y = z.mem y.a y.c := fun y hy => by
    obtain ⟨i, hi, rfl⟩ := List.mem_iff_getElem.1 hy
    exact ⟨x.items[i]'(by omega), List.getElem_mem _, bare_item hs i hi (by omega)⟩
  refine ⟨by rw [h1, arr_size]; exact h.n, by rw [h2]; exact h.i, fun y hy => ?_, fun y hy => ?_⟩
  · obtain ⟨z, hz, e⟩ := hit y hy
    obtain ⟨a1, a2, a3, a4, _⟩ := h.sz z hz
    rw [e]
    exact ⟨by show (⟨z.name.toArray⟩ : ByteArray).size ≤ _; rw [arr_size]; exact a1, by show (⟨z.tag.toArray⟩ : ByteArray).size ≤ _; rw [arr_size]; exact a2, by show (⟨z.fr.name.toArray⟩ : ByteArray).size ≤ _; rw [arr_size]; exact a3, by show (⟨z.to.name.toArray⟩ : ByteArray).size ≤ _; rw [arr_size]; exact a4⟩
  · obtain ⟨z, hz, e⟩ := hit y hy
    obtain ⟨b1, b2, b3⟩ := h.bd z hz
    rw [e]
    exact ⟨b1, b2, b3, (h.sz z hz).2.2.2.2⟩
/-- What is read, printed. -/
theorem skprint_ok (w : World) (t : Sk) (B : Nat) (he : Env w) (x : LSk) (hb : LBnd x) (ht : t.bare = x.mem) (h : SkAt w t) :
    Calls Tryd.prog 18 #[t.v] w fun e w' => e = .returned (.tuple #[.string ⟨(printA x.mem).1.toArray⟩, I (printA x.mem).2]) ∧ New w w' := by
  have := print_any w t he h (hb.mem ht)
  rw [← ht, printA_bare]
  exact this
def skT : LSk := ⟨[103], [⟨2, [], [], [1, -2], ⟨[97], 0, 17⟩, ⟨[98], 1, 24⟩, 12⟩]⟩
def txtA : ByteArray := ⟨#[103, 114, 97, 112, 104, 32, 103, 32, 123, 10, 32, 32, 101, 100, 103, 101, 32, 97, 46, 48, 32, 45, 62, 32, 98, 46, 49, 32, 119, 105, 116, 104, 32, 49, 32, 45, 50, 59, 10, 125, 10]⟩
def txtB : ByteArray := ⟨#[103, 114, 97, 112, 104, 32, 103, 32, 123, 32, 110, 111, 100, 101, 32, 97, 59, 32, 125]⟩
theorem par1 : parseA txtA.data.toList = .ok skT := by kernel_rfl
theorem par2 : parseA txtB.data.toList = .error (50, 10) := by kernel_rfl
theorem pri1 : printA skT.mem = ([103, 114, 97, 112, 104, 32, 103, 32, 123, 10, 32, 32, 101, 100, 103, 101, 32, 97, 46, 48, 32, 45, 62, 32, 98, 46, 49, 32, 119, 105, 116, 104, 32, 49, 32, 45, 50, 59, 10, 125, 10], 0) := by kernel_rfl
theorem bnd1 : LBnd skT := by
  refine ⟨by decide, by decide, ?_, ?_⟩
  · intro y hy; unfold skT at hy; simp only [List.mem_singleton] at hy; subst hy; exact ⟨by decide, by decide, by decide, by decide, by decide⟩
  · intro y hy; unfold skT at hy; simp only [List.mem_singleton] at hy; subst hy
    refine ⟨by decide, by decide, ?_⟩
    intro n hn; simp only [List.mem_cons, List.not_mem_nil, or_false] at hn; rcases hn with rfl | rfl <;> decide
set_option maxRecDepth 100000 in
set_option maxHeartbeats 8000000 in
theorem awake_sk (w : World) (he : Env w) : Calls Tryd.prog 14 #[] w fun e w' => e = .returned (.bool true) ∧ New w w' := by
  have h1 : ∀ W, Env W → Calls Tryd.prog 11 #[.string ⟨#[103, 114, 97, 112, 104, 32, 103, 32, 123, 10, 32, 32, 101, 100, 103, 101, 32, 97, 46, 48, 32, 45, 62, 32, 98, 46, 49, 32, 119, 105, 116, 104, 32, 49, 32, 45, 50, 59, 10, 125, 10]⟩] W _ := fun W e => skparse_ok W txtA e (by decide) skT par1
  have h2 : ∀ W, Env W → Calls Tryd.prog 11 #[.string ⟨#[103, 114, 97, 112, 104, 32, 103, 32, 123, 32, 110, 111, 100, 101, 32, 97, 59, 32, 125]⟩] W _ := fun W e => skparse_no W txtB e (by decide) 50 10 par2
  go_enter Tryd.func14, Tryd.ntmps14
  go_wp2_with fail
  refine (h1 _ he).mono ?_
  rintro e w1 ⟨t, ht, rfl, hown, n1⟩
  obtain ⟨e1, e2⟩ := bare_len' ht
  have hit0 := bare_item ht 0 (by rw [e2]; decide) (by decide)
  obtain ⟨name, ia, ic, items⟩ := t
  have hpr := fun W (n : New w1 W) => skprint_ok W ⟨name, ia, ic, items⟩ 0 (he.new (n1.trans n)) skT bnd1 ht (hown.at.new n)
  rw [pri1] at hpr
  simp only at e1 e2 hit0 hpr
  subst e1
  obtain ⟨y, rfl⟩ : ∃ y, items = [y] := by
    cases items with
    | nil => cases e2
    | cons y r => cases r with
      | nil => exact ⟨y, rfl⟩
      | cons z r => simp [skT] at e2
  have hit : y = (⟨2, ⟨#[]⟩, ⟨#[]⟩, y.a, y.c, [1, -2], ⟨#[97]⟩, 0, 17, ⟨#[98]⟩, 1, 24, 12⟩ : SIt) := hit0
  clear hit0
  obtain ⟨ya, hya⟩ : ∃ a, y.a = a := ⟨_, rfl⟩
  obtain ⟨yc, hyc⟩ : ∃ a, y.c = a := ⟨_, rfl⟩
  rw [hya, hyc] at hit
  subst hit
  clear hya hyc e2 ht
  have hv : Sk.v ⟨⟨skT.name.toArray⟩, ia, ic, [⟨2, ⟨#[]⟩, ⟨#[]⟩, ya, yc, [1, -2], ⟨#[97]⟩, 0, 17, ⟨#[98]⟩, 1, 24, 12⟩]⟩ = .agg #[.string ⟨#[103]⟩, .slice ia 1 ic] := rfl
  rw [hv] at hpr ⊢
  obtain ⟨bb, off, hab, q0, q1, q2, q3, q4, q5, q6, q7, q8, q9, q10⟩ := items_row hown.at.sl (i := 0) (by show 0 < 1; omega)
  simp only [List.getElem_cons_zero, Nat.zero_mul, Nat.add_zero, List.length_cons, List.length_nil] at hab q0 q1 q2 q3 q4 q5 q6 q7 q8 q9 q10
  subst hab
  clear hv hown
  have n2 : New w1 ((w1.alloc (.cells #[.string ⟨#[103]⟩, .slice (some ⟨bb, off, none⟩) 1 ic] 24)).alloc (.cells #[I 0, I 0] 27)) := ((New.refl _).alloc _).alloc _
  have hS : ((w1.alloc (.cells #[.string ⟨#[103]⟩, .slice (some ⟨bb, off, none⟩) 1 ic] 24)).alloc (.cells #[I 0, I 0] 27)).heap[w1.heap.size]? = some (.cells #[.string ⟨#[103]⟩, .slice (some ⟨bb, off, none⟩) 1 ic] 24 (0, 0)) := Keeps.heap (Keeps.alloc (S := fun _ => False) _ _) (heap_alloc_new w1 _) (fun h => h)
  have hF : ((w1.alloc (.cells #[.string ⟨#[103]⟩, .slice (some ⟨bb, off, none⟩) 1 ic] 24)).alloc (.cells #[I 0, I 0] 27)).heap[w1.heap.size + 1]? = some (.cells #[I 0, I 0] 27 (0, 0)) := by
    have := heap_alloc_new (w1.alloc (.cells #[.string ⟨#[103]⟩, .slice (some ⟨bb, off, none⟩) 1 ic] 24)) (.cells #[I 0, I 0] 27)
    simpa using this
  obtain ⟨s0, s1, -, -, hSl⟩ := sk_get hS
  obtain ⟨f0, f1, -, -, hFl⟩ := sk_get hF
  have hpr2 := hpr _ n2
  have N2 := Lib.hid (n1.trans n2)
  have NN := Lib.hid n2
  clear hpr hS hF n1 n2
  go_wp2_with fail
  refine hpr2.mono ?_
  rintro e w3 ⟨rfl, n3⟩
  have N3 := Lib.hid (N2.out.trans n3)
  have a0 := New.cell n3 s0
  have a1 := New.cell n3 s1
  have b0 := New.cell n3 f0
  have b1 := New.cell n3 f1
  have c0 := New.cell (NN.out.trans n3) q0
  have c3 := New.cell (NN.out.trans n3) q3
  have c7 := New.cell (NN.out.trans n3) q7
  have c8 := New.cell (NN.out.trans n3) q8
  have c9 := New.cell (NN.out.trans n3) q9
  have hh2 := h2 w3 (he.new N3.out)
  clear hpr2 n3 s0 s1 f0 f1 q0 q1 q2 q3 q4 q5 q6 q7 q8 q9 q10 hSl hFl NN
  go_wp2_with fail
  refine hh2.mono ?_
  rintro e w4 ⟨rfl, n4⟩
  have n5 : New w4 ((w4.alloc (.cells #[.string ⟨#[]⟩, .slice none 0 0] 24)).alloc (.cells #[I 50, I 10] 27)) := ((New.refl _).alloc _).alloc _
  have hG : ((w4.alloc (.cells #[.string ⟨#[]⟩, .slice none 0 0] 24)).alloc (.cells #[I 50, I 10] 27)).heap[w4.heap.size + 1]? = some (.cells #[I 50, I 10] 27 (0, 0)) := by
    have := heap_alloc_new (w4.alloc (.cells #[.string ⟨#[]⟩, .slice none 0 0] 24)) (.cells #[I 50, I 10] 27)
    simpa using this
  obtain ⟨g0, g1, -, -, hGl⟩ := sk_get hG
  have N5 := Lib.hid ((N3.out.trans n4).trans n5)
  have A0 := New.cell n4 a0
  have A1 := New.cell n4 a1
  have B0 := New.cell n4 b0
  have B1 := New.cell n4 b1
  have C0 := New.cell n4 c0
  have C3 := New.cell n4 c3
  have C7 := New.cell n4 c7
  have C8 := New.cell n4 c8
  have C9 := New.cell n4 c9
  have hb1 := World.block_lt_of_cell? _ _ A0
  have hb2 := World.block_lt_of_cell? _ _ B0
  have hb3 := World.block_lt_of_cell? _ _ C0
  simp only at hb1 hb2 hb3
  clear hh2 n4 n5 hG a0 a1 b0 b1 c0 c3 c7 c8 c9 h1 h2
  go_wp2_with fail
  go_ret
  exact ⟨rfl, N5.out⟩
end Go.Proofs.YtohalcbhckahmaaDoor
