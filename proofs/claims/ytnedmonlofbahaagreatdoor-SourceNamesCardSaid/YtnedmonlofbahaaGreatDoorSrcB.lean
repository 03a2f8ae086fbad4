/-
  Layer 9: source.Print, source.Parse: what they answer.
-/
import Derived.Test.YtnedmonlofbahaaGreatDoorSrcP
import Derived.Test.YtnedmonlofbahaaGreatDoorSrcA
namespace Go.Proofs.YtnedmonlofbahaaGreatDoor
open Go Go.RowKit Go.Joins
set_option linter.all false

set_option maxRecDepth 100000 in
theorem wrong_err (w : World) (c k : Int) (hc : c ≠ 0) : Calls Tryz.prog 26 #[.agg #[I c, I k]] w fun e w' => e = .returned (.iface 33 (.agg #[I c, I k])) ∧ New w w' := by
  have hc0 : (c == 0) = false := by simpa using hc
  go_enter Tryz.func26, Tryz.ntmps26
  go_wp2_with fail
  go_ret
  exact ⟨rfl, (New.refl w).alloc _⟩
set_option maxRecDepth 100000 in
theorem wrong_nil (w : World) : Calls Tryz.prog 26 #[.agg #[I 0, I 0]] w fun e w' => e = .returned .nilIface ∧ New w w' := by
  go_enter Tryz.func26, Tryz.ntmps26
  go_wp2_with fail
  go_ret
  exact ⟨rfl, (New.refl w).alloc _⟩
def EtIs (w : World) : Prop := w.cell? ⟨0, 0, none⟩ = some (.iface 167 (.agg #[hdl 28]))
theorem EtIs.new {w w' : World} (h : EtIs w) (k : New w w') : EtIs w' := New.cell k h
theorem as_F (w : World) (c k : Int) (t : Nat) (x0 x1 : Value) (he : EtIs w) (ht : w.heap[t]? = some (.cells #[x0, x1] 33 (0, 0))) :
    Calls Tryz.prog 29 #[.iface 33 (.agg #[I c, I k]), .iface 59 (.pointer (some ⟨t, 0, none⟩))] w fun e w' => e = .returned (.bool true) ∧ Keeps (fun b => b = t) w w' ∧ w'.heap[t]? = some (.cells #[I c, I k] 33 (0, 0)) := by
  refine (as_hitF c k t w he x0 x1 ht).mono ?_
  rintro e w' ⟨rfl, hw⟩
  refine ⟨rfl, ?_⟩
  generalize hW : World.alloc (World.alloc (World.alloc (World.alloc w _) _) _) _ = W at hw
  have kW : New w W := by rw [← hW]; exact ((((New.refl w).alloc _).alloc _).alloc _).alloc _
  have hT := Keeps.heap kW ht (fun h => h)
  subst hw
  refine ⟨(kW.mono (fun _ _ h => h.elim)).trans ((Keeps.setCell (S := fun b => b = t) W _ _ rfl).trans (Keeps.setCell (S := fun b => b = t) _ _ _ rfl) (fun _ _ h => h)) (fun _ _ h => h), ?_⟩
  have := block_setCell (i := 1) (block_setCell (i := 0) hT (I c)) (I k)
  simpa using this
theorem as_E (w : World) (c : Int) (t : Nat) (x0 : Value) (he : EtIs w) (ht : w.heap[t]? = some (.cells #[x0] 31 (0, 0))) :
    Calls Tryz.prog 29 #[.iface 31 (I c), .iface 80 (.pointer (some ⟨t, 0, none⟩))] w fun e w' => e = .returned (.bool true) ∧ Keeps (fun b => b = t) w w' ∧ w'.heap[t]? = some (.cells #[I c] 31 (0, 0)) := by
  refine (as_hitE c t w he x0 ht).mono ?_
  rintro e w' ⟨rfl, hw⟩
  refine ⟨rfl, ?_⟩
  generalize hW : World.alloc (World.alloc (World.alloc (World.alloc w _) _) _) _ = W at hw
  have kW : New w W := by rw [← hW]; exact ((((New.refl w).alloc _).alloc _).alloc _).alloc _
  have hT := Keeps.heap kW ht (fun h => h)
  subst hw
  refine ⟨(kW.mono (fun _ _ h => h.elim)).trans (Keeps.setCell (S := fun b => b = t) W _ _ rfl) (fun _ _ h => h), ?_⟩
  have := block_setCell (i := 0) hT (I c)
  simpa using this
set_option maxRecDepth 100000 in
set_option maxHeartbeats 4000000 in
theorem number_nil (w : World) : Calls Tryz.prog 20 #[.nilIface] w fun e w' => e = .returned (.tuple #[I 0, .bool true]) ∧ New w w' := by
  go_enter Tryz.func20, Tryz.ntmps20
  go_wp2_with fail
  exact bodyPost_ret (v := .tuple #[I 0, .bool true]) (by simp [results, Tryz.results20, go_sem]) rfl ⟨rfl, New.refl w⟩
set_option maxRecDepth 100000 in
set_option maxHeartbeats 4000000 in
theorem number_err (w : World) (c : Int) (hc : c ≠ 0) (he : EtIs w) : Calls Tryz.prog 20 #[.iface 31 (I c)] w fun e w' => e = .returned (.tuple #[I c, .bool true]) ∧ New w w' := by
  have hc0 : (c == 0) = false := by simpa using hc
  have hc1 : (c != 0) = true := by simpa using hc
  have n1 : New w (w.alloc (.cells #[I 0] 31)) := (New.refl w).alloc _
  have hh := as_E (w.alloc (.cells #[I 0] 31)) c w.heap.size (I 0) (he.new n1) (heap_alloc_new w _)
  have N1 := Lib.hid n1
  clear n1 he hc
  go_enter Tryz.func20, Tryz.ntmps20
  go_wp2_with fail
  refine hh.mono ?_
  rintro e w' ⟨rfl, hk, ht⟩
  have c0 : w'.cell? ⟨w.heap.size, 0, none⟩ = some (I c) := by rw [cell_of_block ht]; rfl
  have N2 := Lib.hid (N1.out.keeps hk (fun i hi h => by omega))
  clear hk ht hh
  go_wp2_with fail
  go_region
  all_goals (go_wp2_with fail)
  all_goals exact bodyPost_ret (v := .tuple #[I c, .bool true]) (by simp [results, Tryz.results20, go_sem]) rfl ⟨rfl, by repeat' (first | exact N2.out | exact N2.out.drewN _ | refine New.drew ?_)⟩
set_option maxRecDepth 100000 in
set_option maxHeartbeats 4000000 in
theorem fault_nil (w : World) : Calls Tryz.prog 12 #[.nilIface] w fun e w' => e = .returned (.tuple #[.agg #[I 0, I 0], .bool true]) ∧ New w w' := by
  go_enter Tryz.func12, Tryz.ntmps12
  go_wp2_with fail
  exact bodyPost_ret (v := .tuple #[.agg #[I 0, I 0], .bool true]) (by simp [results, Tryz.results12, go_sem]) rfl ⟨rfl, (New.refl w).alloc _⟩
set_option maxRecDepth 100000 in
set_option maxHeartbeats 4000000 in
theorem fault_err (w : World) (c k : Int) (hc : c ≠ 0) (he : EtIs w) : Calls Tryz.prog 12 #[.iface 33 (.agg #[I c, I k])] w fun e w' => e = .returned (.tuple #[.agg #[I c, I k], .bool true]) ∧ New w w' := by
  have hc0 : (c == 0) = false := by simpa using hc
  have hc1 : (c != 0) = true := by simpa using hc
  have n1 : New w ((w.alloc (.cells #[I 0, I 0] 33)).alloc (.cells #[I 0, I 0] 33)) := ((New.refl w).alloc _).alloc _
  have hh := as_F ((w.alloc (.cells #[I 0, I 0] 33)).alloc (.cells #[I 0, I 0] 33)) c k (w.heap.size + 1) (I 0) (I 0) (he.new n1) (by have := heap_alloc_new (w.alloc (.cells #[I 0, I 0] 33)) (.cells #[I 0, I 0] 33); simpa using this)
  have hr : ((w.alloc (.cells #[I 0, I 0] 33)).alloc (.cells #[I 0, I 0] 33)).heap[w.heap.size]? = some (.cells #[I 0, I 0] 33 (0, 0)) := Keeps.heap (Keeps.alloc (S := fun _ => False) _ _) (heap_alloc_new w _) (fun h => h)
  have N1 := Lib.hid n1
  have HR := Lib.hid hr
  clear n1 he hc hr
  go_enter Tryz.func12, Tryz.ntmps12
  go_wp2_with fail
  refine hh.mono ?_
  rintro e w' ⟨rfl, hk, ht⟩
  have c0 : w'.cell? ⟨w.heap.size + 1, 0, none⟩ = some (I c) := by rw [cell_of_block ht]; rfl
  have c1 : w'.cell? ⟨w.heap.size + 1, 1, none⟩ = some (I k) := by rw [cell_of_block ht]; rfl
  have hR := hk.heap HR.out (by omega)
  have d0 : w'.cell? ⟨w.heap.size, 0, none⟩ = some (I 0) := by rw [cell_of_block hR]; rfl
  have d1 : w'.cell? ⟨w.heap.size, 1, none⟩ = some (I 0) := by rw [cell_of_block hR]; rfl
  have e0 := unfrozen_of_block hR 0
  have e1 := unfrozen_of_block hR 1
  have hlt := (Array.getElem?_eq_some_iff.1 hR).1
  have hlt2 := (Array.getElem?_eq_some_iff.1 ht).1
  have N2 := Lib.hid (N1.out.keeps hk (fun i hi h => by omega))
  clear hk ht hh hR
  go_wp2_with fail
  go_region
  all_goals (go_wp2_with fail)
  all_goals exact bodyPost_ret (v := .tuple #[.agg #[I c, I k], .bool true]) (by simp [results, Tryz.results12, go_sem, c0, c1, d0, d1, hlt]) rfl ⟨rfl, by repeat' (first | exact N2.out | exact N2.out.drewN _ | refine New.setCell ?_ (by simp) _ | refine New.drew ?_)⟩
theorem two_get {w : World} {R : Nat} {x0 x1 : Value} {T : TypeId} (h : w.heap[R]? = some (.cells #[x0, x1] T (0, 0))) :
    w.cell? ⟨R, 0, none⟩ = some x0 ∧ w.cell? ⟨R, 1, none⟩ = some x1 ∧ w.frozen? ⟨R, 0, none⟩ = false ∧ w.frozen? ⟨R, 1, none⟩ = false ∧ R < w.heap.size := by
  refine ⟨?_, ?_, unfrozen_of_block h 0, unfrozen_of_block h 1, (Array.getElem?_eq_some_iff.1 h).1⟩
  · rw [cell_of_block h 0]; rfl
  · rw [cell_of_block h 1]; rfl
structure EnvS (w : World) : Prop where
  env : Env w
  et : EtIs w
theorem EnvS.new {w w' : World} (h : EnvS w) (k : New w w') : EnvS w' := ⟨h.env.new k, h.et.new k⟩
set_option maxRecDepth 100000 in
set_option maxHeartbeats 4000000 in
theorem sprint_bad (w : World) (g : Gr) (hg : GrAt w g) (hl : GLen g) (hw : ∀ x ∈ g.acts, 0 ≤ x.tag ∧ x.tag ≤ 255) (h : (findG g).1 ≠ 0) :
    Calls Tryz.prog 18 #[g.v] w fun e w' => e = .returned (.tuple #[.string ⟨#[]⟩, .iface 31 (I (findG g).1)]) ∧ New w w' := by
  have n1 : New w (w.alloc (.cells g.cs 26)) := (New.refl w).alloc _
  have hd := cdraw_bad (w.alloc (.cells g.cs 26)) g (hg.new n1) hl h
  obtain ⟨c, hc⟩ : ∃ c, (findG g).1 = c := ⟨_, rfl⟩
  rw [hc] at hd h ⊢
  have hc1 : (c != 0) = true := by simpa using h
  have N1 := Lib.hid n1
  simp only [Gr.v, Gr.cs] at hd ⊢
  clear n1 hg hl hw hc h
  go_enter Tryz.func18, Tryz.ntmps18
  go_wp2_with fail
  refine hd.mono ?_
  rintro e w1 ⟨rfl, n2⟩
  have N2 := Lib.hid (((N1.out.trans n2).alloc (.cells #[.string ⟨#[]⟩, .slice none 0 0] 52)))
  clear hd n2
  go_wp2_with fail
  exact bodyPost_ret (v := .tuple #[.string ⟨#[]⟩, .iface 31 (I c)]) (by simp [results, Tryz.results18, go_sem]) rfl ⟨rfl, N2.out⟩
theorem drawn_bnd {s : Sk} {g : Gr} (h : s.bare = drawS g) (hf : Fair g) (hn : GNum g) : SBnd s := by
  obtain ⟨hl, hk, hi, hx⟩ := draw_small h hf (few_of hf)
  have hb := draw_bnd hn
  have hm : s.items.map SIt.bare = drawI g := congrArg Sk.items h
  have hq : ∀ x ∈ s.items, x.bare ∈ drawI g := fun x hx => hm ▸ List.mem_map_of_mem hx
  refine ⟨hl.n, hl.i, fun x hx => ?_, fun x hx => ?_⟩
  · obtain ⟨a, b, c, d, e⟩ := hl.ix x hx
    exact ⟨b, c, d, e⟩
  · obtain ⟨a, b, c⟩ := hb _ (hq x hx)
    exact ⟨a, b, c, (hl.ix x hx).1⟩
set_option maxRecDepth 100000 in
set_option maxHeartbeats 4000000 in
theorem sprint_ok (w : World) (g : Gr) (he : Env w) (hg : GrAt w g) (h : (findG g).1 = 0) (hn : GNum g) :
    Calls Tryz.prog 18 #[g.v] w fun e w' => e = .returned (.tuple #[.string ⟨(printW (drawS g)).toArray⟩, .nilIface]) ∧ New w w' := by
  have hf := (find_fair h).1
  have n1 : New w (w.alloc (.cells g.cs 26)) := (New.refl w).alloc _
  have hd := cdraw_good (w.alloc (.cells g.cs 26)) g (hg.new n1) (gr_len hf) (gr_tags hf) h
  have hp := print_draw hf hn
  have hB := fun (s : Sk) (e : s.bare = drawS g) => drawn_bnd e hf hn
  have N1 := Lib.hid n1
  have HP := Lib.hid hp
  have HB := Lib.hid hB
  simp only [Gr.v, Gr.cs] at hd ⊢
  clear n1 hg hp hB hf hn h
  go_enter Tryz.func18, Tryz.ntmps18
  go_wp2_with fail
  refine hd.mono ?_
  rintro e w1 ⟨s, rfl, hown, hs, n2⟩
  have n3 : New w1 (w1.alloc (.cells s.cs 52)) := (New.refl w1).alloc _
  have hpr := print_any (w1.alloc (.cells s.cs 52)) s (he.new ((N1.out.trans n2).trans n3)) (hown.at.new n3) (HB.out s hs)
  rw [← printA_bare, hs, HP.out] at hpr
  have N2 := Lib.hid ((N1.out.trans n2).trans n3)
  simp only [Sk.v, Sk.cs] at hpr ⊢
  clear hd n2 n3 hown hs
  go_wp2_with fail
  refine hpr.mono ?_
  rintro e w2 ⟨rfl, n4⟩
  have N3 := Lib.hid (N2.out.trans n4)
  clear hpr n4
  go_wp2_with fail
  exact bodyPost_ret (v := .tuple #[.string ⟨(printW (drawS g)).toArray⟩, .nilIface]) (by simp [results, Tryz.results18, go_sem]) rfl ⟨rfl, N3.out⟩

abbrev zGr : Value := .agg #[.string ⟨#[]⟩, .slice none 0 0, .slice none 0 0, .slice none 0 0, .slice none 0 0]
set_option maxRecDepth 100000 in
set_option maxHeartbeats 4000000 in
theorem sparse_err (w : World) (s : ByteArray) (he : Env w) (hs : s.size ≤ 9223372036854775807) (c : Int) (k : Nat) (h : parseA s.data.toList = .error (c, k)) :
    Calls Tryz.prog 10 #[.string s] w fun e w' => e = .returned (.tuple #[zGr, .iface 33 (.agg #[I c, I (k : Int)])]) ∧ New w w' := by
  have hc := (parse_fault h).1
  have n1 : New w (w.alloc (.cells #[.string ⟨#[]⟩, .slice none 0 0, .slice none 0 0, .slice none 0 0, .slice none 0 0] 26)) := (New.refl w).alloc _
  have hno := skparse_no (w.alloc (.cells #[.string ⟨#[]⟩, .slice none 0 0, .slice none 0 0, .slice none 0 0, .slice none 0 0] 26)) s (he.new n1) hs c k h
  have hwr := fun W => wrong_err W c k hc
  have N1 := Lib.hid n1
  have hR := heap_alloc_new w (.cells #[.string ⟨#[]⟩, .slice none 0 0, .slice none 0 0, .slice none 0 0, .slice none 0 0] 26)
  have HR := Lib.hid hR
  clear n1 h hc hR
  go_enter Tryz.func10, Tryz.ntmps10
  go_wp2_with fail
  refine hno.mono ?_
  rintro e w1 ⟨rfl, n2⟩
  have n3 : New w1 ((w1.alloc (.cells #[.string ⟨#[]⟩, .slice none 0 0] 52)).alloc (.cells #[I c, I (k : Int)] 33)) := ((New.refl _).alloc _).alloc _
  have hR2 := Keeps.heap (n2.trans n3) HR.out (fun h => h)
  have N2 := Lib.hid ((N1.out.trans n2).trans n3)
  have HR2 := Lib.hid hR2
  have hwx := hwr ((w1.alloc (.cells #[.string ⟨#[]⟩, .slice none 0 0] 52)).alloc (.cells #[I c, I (k : Int)] 33))
  clear hno n2 n3 hR2 hwr
  go_wp2_with fail
  refine hwx.mono ?_
  rintro e w2 ⟨rfl, n4⟩
  have hR4 := Keeps.heap n4 HR2.out (fun h => h)
  obtain ⟨z0, z1, z2, z3, z4, hZl⟩ := gr_cells hR4
  have gz0 := unfrozen_of_block hR4 0
  have gz1 := unfrozen_of_block hR4 1
  have gz2 := unfrozen_of_block hR4 2
  have gz3 := unfrozen_of_block hR4 3
  have gz4 := unfrozen_of_block hR4 4
  have N3 := Lib.hid (N2.out.trans n4)
  have HR4 := Lib.hid hR4
  clear hwx n4 hR4
  go_wp2_with fail
  obtain ⟨hb9, k9⟩ := gr_stored HR4.out (.string ⟨#[]⟩) (.slice none 0 0) (.slice none 0 0) (.slice none 0 0) (.slice none 0 0)
  generalize (((((w2.setCell ⟨w.heap.size, 0, none⟩ (.string ⟨#[]⟩)).setCell ⟨w.heap.size, 1, none⟩ (.slice none 0 0)).setCell ⟨w.heap.size, 2, none⟩ (.slice none 0 0)).setCell ⟨w.heap.size, 3, none⟩ (.slice none 0 0)).setCell ⟨w.heap.size, 4, none⟩ (.slice none 0 0)) = W9 at hb9 k9 ⊢
  clear z0 z1 z2 z3 z4 hZl gz0 gz1 gz2 gz3 gz4
  obtain ⟨z0, z1, z2, z3, z4, hZl⟩ := gr_cells hb9
  exact bodyPost_ret (v := .tuple #[zGr, .iface 33 (.agg #[I c, I (k : Int)])]) (by simp [results, Tryz.results10, go_sem, z0, z1, z2, z3, z4, hZl]) rfl ⟨rfl, N3.out.keeps k9 (fun i hi h => by omega)⟩
set_option maxRecDepth 100000 in
set_option maxHeartbeats 16000000 in
theorem sparse_walk (w : World) (s : ByteArray) (P : Sk → World → Prop) (F : Value → World → Prop)
    (hpar : Calls Tryz.prog 23 #[.string s] (w.alloc (.cells #[.string ⟨#[]⟩, .slice none 0 0, .slice none 0 0, .slice none 0 0, .slice none 0 0] 26)) fun e w1 => ∃ t : Sk, e = .returned (.tuple #[t.v, .agg #[I 0, I 0]]) ∧ P t w1 ∧ New (w.alloc (.cells #[.string ⟨#[]⟩, .slice none 0 0, .slice none 0 0, .slice none 0 0, .slice none 0 0] 26)) w1)
    (hbu : ∀ t w1 W, P t w1 → New w1 W → Calls Tryz.prog 24 #[t.v] W fun e w' => ∃ (q : Gr) (A B : Int) (ev : Value), e = .returned (.tuple #[q.v, .agg #[I A, I B]]) ∧
      (∀ V, Calls Tryz.prog 26 #[.agg #[I A, I B]] V fun e w'' => e = .returned ev ∧ New V w'') ∧ New W w' ∧
      (∀ w8 w9 R1 R2 c1 c2, New w' w8 → w8.heap[R1]? = some (.cells c1 26 (0, 0)) → w8.heap[R2]? = some (.cells c2 33 (0, 0)) → Keeps (fun k => k = R1 ∨ k = R2) w8 w9 → F (.tuple #[q.v, ev]) w9)) :
    Calls Tryz.prog 10 #[.string s] w fun e w' => (∃ v, e = .returned v ∧ F v w') ∧ New w w' := by
  have n1 : New w (w.alloc (.cells #[.string ⟨#[]⟩, .slice none 0 0, .slice none 0 0, .slice none 0 0, .slice none 0 0] 26)) := (New.refl w).alloc _
  have hR := heap_alloc_new w (.cells #[.string ⟨#[]⟩, .slice none 0 0, .slice none 0 0, .slice none 0 0, .slice none 0 0] 26)
  have N1 := Lib.hid n1
  have HR := Lib.hid hR
  clear n1 hR
  obtain ⟨R, hRe⟩ : ∃ R, w.heap.size = R := ⟨_, rfl⟩
  rw [hRe] at HR
  have HRE := Lib.hid hRe
  obtain ⟨post, hpost⟩ : ∃ post, (fun (e : Ending) (w' : World) => (∃ v, e = .returned v ∧ F v w') ∧ New w w') = post := ⟨_, rfl⟩
  have HPO := Lib.hid hpost
  rw [hpost]
  clear hpost
  go_enter Tryz.func10, Tryz.ntmps10
  go_wp2_with fail
  refine hpar.mono ?_
  rintro e w1 ⟨t, rfl, hP, n2⟩
  have m1 : New w1 ((w1.alloc (.cells t.cs 52)).alloc (.cells #[I 0, I 0] 33)) := ((New.refl _).alloc _).alloc _
  have hS : ((w1.alloc (.cells t.cs 52)).alloc (.cells #[I 0, I 0] 33)).heap[w1.heap.size]? = some (.cells t.cs 52 (0, 0)) := Keeps.heap (Keeps.alloc (S := fun _ => False) _ _) (heap_alloc_new w1 _) (fun h => h)
  have hF : ((w1.alloc (.cells t.cs 52)).alloc (.cells #[I 0, I 0] 33)).heap[w1.heap.size + 1]? = some (.cells #[I 0, I 0] 33 (0, 0)) := by
    have := heap_alloc_new (w1.alloc (.cells t.cs 52)) (.cells #[I 0, I 0] 33)
    simpa using this
  have HB := Lib.hid (fun W => hbu t w1 W hP)
  have N2 := Lib.hid ((N1.out.trans n2).trans m1)
  have M1 := Lib.hid m1
  have HSZ := Lib.hid (N1.out.trans n2).size
  have HR2 := Lib.hid (Keeps.heap (n2.trans m1) HR.out (fun h => h))
  have HS := Lib.hid hS
  have HF := Lib.hid hF
  have hw0 := wrong_nil ((w1.alloc (.cells t.cs 52)).alloc (.cells #[I 0, I 0] 33))
  obtain ⟨name, ia, ic, items⟩ := t
  simp only [Sk.cs] at hw0
  have hv : Sk.v ⟨name, ia, ic, items⟩ = .agg #[.string name, .slice ia items.length ic] := rfl
  rw [hv]
  clear hpar hbu n2 m1 hS hF hP HR N1 hv
  go_wp2_with fail
  refine hw0.mono ?_
  rintro e w2 ⟨rfl, n3⟩
  have HB2 := Lib.hid (HB.out w2 (M1.out.trans n3))
  have hS2 := Keeps.heap n3 HS.out (fun h => h)
  have hF2 := Keeps.heap n3 HF.out (fun h => h)
  have HR3 := Lib.hid (Keeps.heap n3 HR2.out (fun h => h))
  have N3 := Lib.hid (N2.out.trans n3)
  simp only [Sk.cs] at hS2
  obtain ⟨p0, p1, -, -, hSl⟩ := two_get hS2
  have HF2 := Lib.hid hF2
  have hne : R ≠ w1.heap.size + 1 := fun h => by
    have h1 := HR2.out
    rw [h] at h1
    rw [HF.out] at h1
    simp at h1
  have HNE := Lib.hid hne
  have HLE : Hid (w.heap.size ≤ w1.heap.size + 1) := Lib.hid (by have := HSZ.out; omega)
  generalize w1.heap.size + 1 = b5 at HF2 HNE HLE ⊢
  generalize w1.heap.size = b4 at p0 p1 hSl ⊢
  clear hw0 n3 hS2 hF2 HS HF HR2 N2 M1 HB hne
  go_wp2_with fail
  refine HB2.out.mono ?_
  rintro e w3 ⟨q, A, B, ev, rfl, hwr, n4, hfin⟩
  have HR4 := Lib.hid (Keeps.heap n4 HR3.out (fun h => h))
  have hF3 := Keeps.heap n4 HF2.out (fun h => h)
  have N4 := Lib.hid (N3.out.trans n4)
  obtain ⟨x0, x1, y0, y1, hFl⟩ := two_get hF3
  have HF3 := Lib.hid hF3
  have HFIN := Lib.hid hfin
  have hqv : q.v = .agg #[.string q.name, .slice q.aa q.acts.length q.ac, .slice q.ea q.edges.length q.ec, .slice q.ia q.ins.length q.ic, .slice q.oa q.outs.length q.oc] := rfl
  rw [hqv]
  clear p0 p1 hSl n4 hF3 HF2 HR3 N3 HB2 hfin hqv
  go_wp2_with fail
  obtain ⟨g1, g2⟩ := fault_stored HF3.out (I A) (I B)
  have hR5 := g2.heap HR4.out HNE.out
  have k5 : Keeps (fun k => k = b5) w3 (((w3.setCell ⟨b5, 0, none⟩ (I A)).setCell ⟨b5, 1, none⟩ (I B)).alloc (.cells #[.string q.name, .slice q.aa q.acts.length q.ac, .slice q.ea q.edges.length q.ec, .slice q.ia q.ins.length q.ic, .slice q.oa q.outs.length q.oc] 26)) := g2.trans (Keeps.alloc (S := fun _ => False) _ _) (fun _ _ h => h.elim)
  have g3 := Keeps.heap (Keeps.alloc (S := fun _ => False) _ (.cells #[.string q.name, .slice q.aa q.acts.length q.ac, .slice q.ea q.edges.length q.ec, .slice q.ia q.ins.length q.ic, .slice q.oa q.outs.length q.oc] 26)) g1 (fun h => h)
  have g4 := Keeps.heap (Keeps.alloc (S := fun _ => False) _ (.cells #[.string q.name, .slice q.aa q.acts.length q.ac, .slice q.ea q.edges.length q.ec, .slice q.ia q.ins.length q.ic, .slice q.oa q.outs.length q.oc] 26)) hR5 (fun h => h)
  have hsz : ((w3.setCell ⟨b5, 0, none⟩ (I A)).setCell ⟨b5, 1, none⟩ (I B)).heap.size = w3.heap.size := by simp
  have g5 := heap_alloc_new ((w3.setCell ⟨b5, 0, none⟩ (I A)).setCell ⟨b5, 1, none⟩ (I B)) (.cells #[.string q.name, .slice q.aa q.acts.length q.ac, .slice q.ea q.edges.length q.ec, .slice q.ia q.ins.length q.ic, .slice q.oa q.outs.length q.oc] 26)
  rw [hsz] at g5
  have hne7 : R < w3.heap.size := (Array.getElem?_eq_some_iff.1 HR4.out).1
  generalize ((w3.setCell ⟨b5, 0, none⟩ (I A)).setCell ⟨b5, 1, none⟩ (I B)).alloc (.cells #[.string q.name, .slice q.aa q.acts.length q.ac, .slice q.ea q.edges.length q.ec, .slice q.ia q.ins.length q.ic, .slice q.oa q.outs.length q.oc] 26) = W5 at k5 g3 g4 g5 ⊢
  have K5 := Lib.hid k5
  have HR5 := Lib.hid g4
  obtain ⟨c0, c1, -, -, hcl⟩ := two_get g3
  obtain ⟨d0, d1, d2, d3, d4, hdl⟩ := gr_cells g5
  generalize w3.heap.size = b7 at d0 d1 d2 d3 d4 hdl ⊢
  clear x0 x1 y0 y1 hFl g1 g2 g3 g4 g5 k5 hsz hne7 hR5
  have hdr : New W5 W5.drew := (New.refl W5).drew
  have HSn : ∀ V, New W5 V → (fun w' : World => (w'.cell? ⟨b7, 0, none⟩ = some (.string q.name) ∧ w'.cell? ⟨b7, 1, none⟩ = some (.slice q.aa q.acts.length q.ac) ∧ w'.cell? ⟨b7, 2, none⟩ = some (.slice q.ea q.edges.length q.ec) ∧ w'.cell? ⟨b7, 3, none⟩ = some (.slice q.ia q.ins.length q.ic) ∧ w'.cell? ⟨b7, 4, none⟩ = some (.slice q.oa q.outs.length q.oc)) ∧ w'.cell? ⟨b5, 0, none⟩ = some (I A) ∧ w'.cell? ⟨b5, 1, none⟩ = some (I B)) V := fun V kv => ⟨⟨kv.cell d0, kv.cell d1, kv.cell d2, kv.cell d3, kv.cell d4⟩, kv.cell c0, kv.cell c1⟩
  have hS0 := HSn _ hdr
  clear c0 c1 d0 d1 d2 d3 d4
  refine wp_region_X (fun w' : World => (w'.cell? ⟨b7, 0, none⟩ = some (.string q.name) ∧ w'.cell? ⟨b7, 1, none⟩ = some (.slice q.aa q.acts.length q.ac) ∧ w'.cell? ⟨b7, 2, none⟩ = some (.slice q.ea q.edges.length q.ec) ∧ w'.cell? ⟨b7, 3, none⟩ = some (.slice q.ia q.ins.length q.ic) ∧ w'.cell? ⟨b7, 4, none⟩ = some (.slice q.oa q.outs.length q.oc)) ∧ w'.cell? ⟨b5, 0, none⟩ = some (I A) ∧ w'.cell? ⟨b5, 1, none⟩ = some (I B)) [3, 4] (by kernel_rfl) hS0 ?_
  generalize W5.drew = wd at hdr hS0 ⊢
  refine anyX_tk 0 hS0 ?_
  refine anyX_tk 1 hS0 ?_
  refine anyX_one 2 (by kernel_rfl) ?_
  intro oi ho; simp only [List.getElem?_toArray, List.getElem?_cons_succ, List.getElem?_cons_zero, Option.some.injEq] at ho; subst ho; intro K hK
  (try simp only [Act.put, List.setIfInBounds_toArray, List.set_cons_zero, List.set_cons_succ])
  go_simp
  refine (hwr _).mono ?_
  rintro e w6 ⟨rfl, n6⟩
  have hn6 := hdr.trans n6
  refine hK _ _ (fun _ => HSn _ hn6) ?_
  clear hK K
  have HR6 := Keeps.heap hn6 HR5.out (fun h => h)
  obtain ⟨z0, z1, z2, z3, z4, hZl⟩ := gr_cells HR6
  have gz0 := unfrozen_of_block HR6 0
  have gz1 := unfrozen_of_block HR6 1
  have gz2 := unfrozen_of_block HR6 2
  have gz3 := unfrozen_of_block HR6 3
  have gz4 := unfrozen_of_block HR6 4
  refine anyX_one 3 (by kernel_rfl) ?_
  intro oi ho; simp only [List.getElem?_toArray, List.getElem?_cons_succ, List.getElem?_cons_zero, Option.some.injEq] at ho; subst ho; intro K hK
  (try simp only [Act.put, List.setIfInBounds_toArray, List.set_cons_zero, List.set_cons_succ])
  go_simp
  refine hK _ _ (fun hx => by cases hx) ?_
  clear hK K
  refine anyX_one 4 (by kernel_rfl) ?_
  intro oi ho; simp only [List.getElem?_toArray, List.getElem?_cons_succ, List.getElem?_cons_zero, Option.some.injEq] at ho; subst ho; intro K hK
  (try simp only [Act.put, List.setIfInBounds_toArray, List.set_cons_zero, List.set_cons_succ])
  go_simp
  refine hK _ _ (fun hx => by cases hx) ?_
  clear hK K
  refine anyX_done (by kernel_rfl) ?_
  (try simp only [Act.put, List.setIfInBounds_toArray, List.set_cons_zero, List.set_cons_succ])
  (try simp only [Exit.then])
  obtain ⟨hb9, k9⟩ := gr_stored HR6 (.string q.name) (.slice q.aa q.acts.length q.ac) (.slice q.ea q.edges.length q.ec) (.slice q.ia q.ins.length q.ic) (.slice q.oa q.outs.length q.oc)
  generalize (((((w6.setCell ⟨R, 0, none⟩ (.string q.name)).setCell ⟨R, 1, none⟩ (.slice q.aa q.acts.length q.ac)).setCell ⟨R, 2, none⟩ (.slice q.ea q.edges.length q.ec)).setCell ⟨R, 3, none⟩ (.slice q.ia q.ins.length q.ic)).setCell ⟨R, 4, none⟩ (.slice q.oa q.outs.length q.oc)) = W9 at hb9 k9 ⊢
  clear z0 z1 z2 z3 z4 hZl gz0 gz1 gz2 gz3 gz4
  have kk : Keeps (fun k => k = R ∨ k = b5) w3 W9 := (K5.out.mono (fun _ _ h => .inr h)).trans ((hn6.mono (fun _ _ h => h.elim)).trans k9 (fun _ _ h => h)) (fun _ _ h => .inl h)
  have hfin := HFIN.out w3 W9 R b5 _ _ (New.refl _) HR4.out HF3.out kk
  have hnew := N4.out.keeps kk (fun i hi h => by have h1 := HRE.out; have h2 := HLE.out; omega)
  obtain ⟨z0, z1, z2, z3, z4, hZl⟩ := gr_cells hb9
  go_wp2_with fail
  refine bodyPost_ret (v := .tuple #[.agg #[.string q.name, .slice q.aa q.acts.length q.ac, .slice q.ea q.edges.length q.ec, .slice q.ia q.ins.length q.ic, .slice q.oa q.outs.length q.oc], ev]) (by simp [results, Tryz.results10, go_sem, z0, z1, z2, z3, z4, hZl]) rfl ?_
  rw [← HPO.out]
  exact ⟨⟨_, rfl, hfin⟩, hnew⟩
theorem sk_room {x : LSk} {t : Sk} {n : Nat} (h : ReadOk x n) (hn : n ≤ 1048576) (ht : t.bare = x.mem) : SLen t ∧ (∀ y ∈ t.items, 0 ≤ y.kind ∧ y.kind ≤ 255) ∧ t.items.length * 64 ≤ 140737488355328 ∧ ∀ y ∈ t.items, y.xs.length * 8 ≤ 140737488355328 := by
  have hb := (h.bnd hn).mem ht
  obtain ⟨-, e2⟩ := bare_len' ht
  have hm : t.items.map SIt.bare = x.mem.items := congrArg Sk.items ht
  have hq : ∀ y ∈ t.items, y.bare ∈ x.mem.items := fun y hy => hm ▸ List.mem_map_of_mem hy
  have hxl : ∀ y ∈ t.items, y.xs.length ≤ n + 1 := fun y hy => by
    obtain ⟨z, hz, e⟩ := List.mem_map.1 (hq y hy)
    have e3 : z.xs = y.xs := congrArg SIt.xs e
    rw [← e3]; exact h.xl z hz
  refine ⟨⟨hb.i, hb.n, fun y hy => ?_⟩, fun y hy => ?_, ?_, fun y hy => ?_⟩
  · have a := hb.sz y hy
    exact ⟨(hb.bd y hy).ln, a.n, a.t, a.f, a.o⟩
  · have hr := List.all_eq_true.1 h.rt _ (hq y hy)
    have hk : y.bare.kind = y.kind := rfl
    unfold rightB at hr
    rw [hk] at hr
    by_cases k1 : y.kind = 1
    · omega
    by_cases k2 : y.kind = 2
    · omega
    by_cases k3 : y.kind = 3
    · omega
    by_cases k4 : y.kind = 4
    · omega
    rw [if_neg k1, if_neg k2, if_neg k3, if_neg k4] at hr
    cases hr
  · have := h.it; omega
  · have := hxl y hy; omega
def SParsed (w : World) (l : List UInt8) (e : Ending) (w' : World) : Prop :=
  ((srcF l).1 ≠ 0 ∧ e = .returned (.tuple #[zGr, .iface 33 (.agg #[I (srcF l).1, I (srcF l).2])]) ∧ New w w') ∨
  ((srcF l).1 = 0 ∧ ∃ B q, w.heap.size ≤ B ∧ e = .returned (.tuple #[q.v, .nilIface]) ∧ GrOwn w' B q ∧ q.bare = srcG l ∧ New w w')
theorem sparse_any (w : World) (s : ByteArray) (he : Env w) (hs : s.size ≤ 9223372036854775807) : Calls Tryz.prog 10 #[.string s] w (SParsed w s.data.toList) := by
  obtain ⟨r, hA⟩ : ∃ r, parseA s.data.toList = r := ⟨_, rfl⟩
  cases r with
  | error ck =>
    obtain ⟨c, k⟩ := ck
    have e1 : srcF s.data.toList = (c, (k : Int)) := by unfold srcF; rw [hA]
    refine (sparse_err w s he hs c k hA).mono ?_
    rintro e w' ⟨rfl, hn⟩
    unfold SParsed
    rw [e1]
    exact .inl ⟨(parse_fault hA).1, rfl, hn⟩
  | ok x =>
    have e1 : srcF s.data.toList = buildF x.mem := by unfold srcF; rw [hA]
    have e2 : srcG s.data.toList = buildG x.mem := by unfold srcG; rw [hA]
    obtain ⟨hok, hlen⟩ := read_ok hA
    have n1 : New w (w.alloc (.cells #[.string ⟨#[]⟩, .slice none 0 0, .slice none 0 0, .slice none 0 0, .slice none 0 0] 26)) := (New.refl w).alloc _
    refine (sparse_walk w s (fun t w1 => t.bare = x.mem ∧ w.heap.size ≤ w1.heap.size ∧ ∃ B, SkOwn w1 B t)
      (fun v w' => ((srcF s.data.toList).1 ≠ 0 ∧ v = .tuple #[zGr, .iface 33 (.agg #[I (srcF s.data.toList).1, I (srcF s.data.toList).2])]) ∨ ((srcF s.data.toList).1 = 0 ∧ ∃ B q, w.heap.size ≤ B ∧ v = .tuple #[q.v, .nilIface] ∧ GrOwn w' B q ∧ q.bare = srcG s.data.toList)) ?_ ?_).mono ?_
    · refine (skparse_ok _ s (he.new n1) hs x hA).mono ?_
      rintro e w1 ⟨t, ht, rfl, hown, hn⟩
      exact ⟨t, rfl, ⟨ht, (n1.trans hn).size, _, hown⟩, hn⟩
    · rintro t w1 W ⟨ht, hsz, B, hown⟩ hk
      obtain ⟨q1, q2, q3, q4⟩ := sk_room hok hlen ht
      have e3 : buildF t = buildF x.mem := by rw [← buildF_bare, ht]
      have e4 : buildG t = buildG x.mem := by rw [← buildG_bare, ht]
      refine (cbuild_any W t (hown.new hk).at q1 q2 q3 q4).mono ?_
      intro e w' hB
      unfold Built at hB
      rw [e3, e4] at hB
      rw [e1, e2]
      by_cases hf : (buildF x.mem).1 ≠ 0
      · rw [if_pos hf] at hB
        obtain ⟨rfl, hn⟩ := hB
        exact ⟨⟨⟨#[]⟩, none, 0, [], none, 0, [], none, 0, [], none, 0, []⟩, _, _, _, rfl, fun V => wrong_err V _ _ hf, hn, fun _ _ _ _ _ _ _ _ _ _ => .inl ⟨hf, rfl⟩⟩
      · rw [if_neg hf] at hB
        obtain ⟨q, rfl, hq, hqb, hn⟩ := hB
        refine ⟨q, 0, 0, .nilIface, rfl, fun V => wrong_nil V, hn, fun w8 w9 R1 R2 c1 c2 h8 h1 h2 kk => .inr ⟨by simpa using hf, W.heap.size, q, ?_, rfl, (hq.new h8).results h1 h2 kk, hqb⟩⟩
        have := hk.size; omega
    · rintro e w' ⟨⟨v, rfl, hv⟩, hn⟩
      unfold SParsed
      rcases hv with ⟨h1, rfl⟩ | ⟨h1, B, q, h2, rfl, h3, h4⟩
      · exact .inl ⟨h1, rfl, hn⟩
      · exact .inr ⟨h1, B, q, h2, rfl, h3, h4, hn⟩
end Go.Proofs.YtnedmonlofbahaaGreatDoor
