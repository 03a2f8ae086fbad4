/-
  Layer 5, the program's side: an edge.
-/
import Derived.Test.YtohalcbhckahmaaDoorSkS
namespace Go.Proofs.YtohalcbhckahmaaDoor
open Go Go.RowKit Go.Joins
set_option linter.all false

theorem PAs.inv {α : Type} {w : World} {G : Nat} {l : List LTok} {a : Option Addr} {c : Nat} {val : α → Value} {res : PR α} {e : Ending} {w' : World} (h : PAs w G l a c val res e w') :
    (∃ j, res = .bad j ∧ e = .panicked [{ v := wrongV (atT l j), recovered := false }] ∧ Keeps (fun k => k = G) w w') ∨ (∃ x k', res = .good x k' ∧ e = .returned (val x) ∧ PAt w' G l a c k' ∧ Keeps (fun k => k = G) w w') := by
  cases res with
  | bad j => exact .inl ⟨j, rfl, h.1, h.2⟩
  | good x k => exact .inr ⟨x, k, rfl, h.1, h.2.1, h.2.2⟩
abbrev ItT : TypeId := 42
/-- An item that is being made, at block X, while the parser at block G reads. -/
structure ItS (w0 : World) (G X : Nat) (l : List LTok) (a : Option Addr) (c k : Nat) (cs : Array Value) (wr : World) : Prop where
  p : PAt wr G l a c k
  b : wr.heap[X]? = some (.cells cs ItT (0, 0))
  ks : Keeps (fun b => b = G ∨ b = X) w0 wr
  ne : X ≠ G
  na : ¬ blk a X
section
variable {w0 : World} {G X : Nat} {l : List LTok} {a : Option Addr} {c k : Nat} {cs : Array Value} {wr : World}
theorem ItS.new {w' : World} (h : ItS w0 G X l a c k cs wr) (n : New wr w') : ItS w0 G X l a c k cs w' :=
  ⟨h.p.new n, Keeps.heap n h.b (fun h => h), h.ks.trans n (fun _ _ h => h.elim), h.ne, h.na⟩
theorem ItS.call {w' : World} {k' : Nat} (h : ItS w0 G X l a c k cs wr) (hp : PAt w' G l a c k') (hk : Keeps (fun b => b = G) wr w') : ItS w0 G X l a c k' cs w' :=
  ⟨hp, hk.heap h.b h.ne, h.ks.trans hk (fun _ _ h => .inl h), h.ne, h.na⟩
theorem ItS.bad {w' : World} (h : ItS w0 G X l a c k cs wr) (hk : Keeps (fun b => b = G) wr w') : Keeps (fun b => b = G ∨ b = X) w0 w' := h.ks.trans hk (fun _ _ h => .inl h)
theorem ItS.set (h : ItS w0 G X l a c k cs wr) (i : Nat) (v : Value) : ItS w0 G X l a c k (cs.setIfInBounds i v) (wr.setCell ⟨X, i, none⟩ v) :=
  have ks : Keeps (fun b => b = X) wr (wr.setCell ⟨X, i, none⟩ v) := Keeps.setCell wr _ _ rfl
  ⟨h.p.keeps ks (fun e => h.ne e.symm) (fun g hg e => h.na (e ▸ hg)), block_setCell h.b v, h.ks.trans ks (fun _ _ h => .inr h), h.ne, h.na⟩
theorem ItS.go (h : ItS w0 G X l a c k cs wr) (j : Nat) : ItS w0 G X l a c j cs (wr.setCell ⟨G, 1, none⟩ (I j)) :=
  h.call (h.p.go j).1 (h.p.go j).2
theorem ItS.lt (h : ItS w0 G X l a c k cs wr) : X < wr.heap.size := (Array.getElem?_eq_some_iff.1 h.b).1
theorem ItS.keeps {S : Nat → Prop} {w' : World} (h : ItS w0 G X l a c k cs wr) (ks : Keeps S wr w') (hX : ¬ S X) (hG : ¬ S G) (ha : ∀ g, blk a g → ¬ S g) (hS : ∀ g, S g → w0.heap.size ≤ g) : ItS w0 G X l a c k cs w' :=
  ⟨h.p.keeps ks hG ha, ks.heap h.b hX, h.ks.trans ks (fun i hi hs => by have := hS i hs; omega), h.ne, h.na⟩
theorem ItS.tr {w1 : World} (h : Keeps (fun b => b = G ∨ b = X) w1 w0) (k2 : ItS w0 G X l a c k cs wr) : ItS w1 G X l a c k cs wr := ⟨k2.p, k2.b, h.trans k2.ks (fun _ _ h => h), k2.ne, k2.na⟩
end
abbrev zItC (at_ : Nat) : Array Value := #[.int .u8 0, .string ⟨#[]⟩, .string ⟨#[]⟩, .slice none 0 0, .string ⟨#[]⟩, I 0, I 0, .string ⟨#[]⟩, I 0, I 0, I (at_ : Int)]
theorem it_get {w : World} {C : Nat} {x0 x1 x2 x3 x4 x5 x6 x7 x8 x9 x10 : Value} (h : w.heap[C]? = some (.cells #[x0, x1, x2, x3, x4, x5, x6, x7, x8, x9, x10] ItT (0, 0))) :
    (w.cell? ⟨C, 0, none⟩ = some x0 ∧ w.cell? ⟨C, 1, none⟩ = some x1 ∧ w.cell? ⟨C, 2, none⟩ = some x2 ∧ w.cell? ⟨C, 3, none⟩ = some x3 ∧ w.cell? ⟨C, 4, none⟩ = some x4 ∧ w.cell? ⟨C, 5, none⟩ = some x5 ∧
    w.cell? ⟨C, 6, none⟩ = some x6 ∧ w.cell? ⟨C, 7, none⟩ = some x7 ∧ w.cell? ⟨C, 8, none⟩ = some x8 ∧ w.cell? ⟨C, 9, none⟩ = some x9 ∧ w.cell? ⟨C, 10, none⟩ = some x10) ∧ (∀ i, w.frozen? ⟨C, i, none⟩ = false) ∧ C < w.heap.size := by
  refine ⟨⟨?_, ?_, ?_, ?_, ?_, ?_, ?_, ?_, ?_, ?_, ?_⟩, fun i => unfrozen_of_block h i, (Array.getElem?_eq_some_iff.1 h).1⟩
  all_goals rw [cell_of_block h]; rfl
/-- What edge leaves behind. -/
def EdgeEnd (w : World) (G X : Nat) (l : List LTok) (a : Option Addr) (c : Nat) (res : PR LIt) (e : Ending) (w' : World) : Prop := match res with
  | .bad j => e = .panicked [{ v := wrongV (atT l j), recovered := false }] ∧ Keeps (fun b => b = G ∨ b = X) w w'
  | .good x k => e = .returned (.tuple #[]) ∧ ∃ ao co, ItS w G X l a c k (itA (x.mem ao co)) w' ∧ OwnI w' w.heap.size ao co x.xs
set_option maxRecDepth 100000 in
set_option maxHeartbeats 8000000 in
theorem pedge_any (w : World) (G X : Nat) (l : List LTok) (a : Option Addr) (c k : Nat) (at_ : Nat) (he : Ends l) (h : ItS w G X l a c k (zItC at_) w) (hk : k < l.length) :
    Calls Tryd.prog 56 #[.pointer (some ⟨G, 0, none⟩), .pointer (some ⟨X, 0, none⟩)] w (EdgeEnd w G X l a c (edgeP at_ l k)) := by
  obtain ⟨i0, hi, hz0, hz1, hz2⟩ := info_parts Tryd.infoInt
  obtain ⟨res, hre⟩ : ∃ r, edgeP at_ l k = r := ⟨_, rfl⟩
  rw [hre]
  have HRES := Lib.hid hre
  have hle := h.p.le
  have hob0 : ∀ g, blk a g → g < w.heap.size := fun g hg => h.p.old (by omega) hg
  have hGw := h.p.lt
  have HOB := Lib.hid hob0
  have hb := h.b
  clear hre hob0
  obtain ⟨⟨y0, y1, y2, y3, y4, y5, y6, y7, y8, y9, y10⟩, z, hX⟩ := it_get hb
  have z0 := z 0
  clear z y1 y2 y3 y4 y5 y6 y7 y8 y9 y10
  have h1 := h.set 0 (.int .u8 2)
  have H1 := Lib.hid h1
  have hpl := pplace_any _ G l a c k he h1.p hk
  clear h h1 hb
  go_enter Tryd.func56, Tryd.ntmps56
  go_wp2_with fail
  refine hpl.mono ?_
  intro e w1 hq
  clear hpl y0 z0 hX
  rcases hq.inv with ⟨j, hr, rfl, k1⟩ | ⟨p, k1, hr, rfl, hp1, kk1⟩
  · clear hq
    go_wp2
    refine sk_panic rfl ?_
    rw [← HRES.out]; unfold edgeP; rw [hr, PR.bind_bad]
    exact ⟨rfl, H1.out.bad k1⟩
  have HR1 := Lib.hid hr
  have hk1 := (he.place hr).1
  have H2 := H1.out.call hp1 kk1
  have hb := H2.b
  simp only [zItC, List.setIfInBounds_toArray, List.set_cons_zero, List.set_cons_succ] at hb
  obtain ⟨pn, pp, pa⟩ := p
  obtain ⟨⟨y0, y1, y2, y3, y4, y5, y6, y7, y8, y9, y10⟩, z, hX⟩ := it_get hb
  have z4 := z 4
  have z5 := z 5
  have z6 := z 6
  clear z y0 y1 y2 y3 y7 y8 y9 y10
  have H3 := Lib.hid (((H2.set 4 (.string ⟨pn.toArray⟩)).set 5 (I pp)).set 6 (I (pa : Int)))
  have hmk := pmark_any _ G l a c k1 [45, 62] H3.out.p hk1
  clear hq hr hp1 kk1 H2 hb H1
  go_wp2_with fail
  refine hmk.mono ?_
  intro e w2 hq
  clear hmk y4 y5 y6 z4 z5 z6 hX
  rcases hq.inv with ⟨j, hr, rfl, k2⟩ | ⟨u, k2, hr, rfl, hp2, kk2⟩
  · clear hq
    go_wp2
    refine sk_panic rfl ?_
    rw [← HRES.out]; unfold edgeP; rw [HR1.out, PR.bind_good, hr, PR.bind_bad]
    exact ⟨rfl, H3.out.bad k2⟩
  have HR2 := Lib.hid hr
  have hk2 := (he.must hr (by decide)).1
  have H4 := Lib.hid (H3.out.call hp2 kk2)
  have hpl := pplace_any _ G l a c k2 he H4.out.p hk2
  clear hq hr hp2 kk2 H3
  go_wp2_with fail
  refine hpl.mono ?_
  intro e w3 hq
  clear hpl
  rcases hq.inv with ⟨j, hr, rfl, k3⟩ | ⟨q, k3, hr, rfl, hp3, kk3⟩
  · clear hq
    go_wp2
    refine sk_panic rfl ?_
    rw [← HRES.out]; unfold edgeP; rw [HR1.out, PR.bind_good, HR2.out, PR.bind_good, hr, PR.bind_bad]
    exact ⟨rfl, H4.out.bad k3⟩
  have HR3 := Lib.hid hr
  have hk3 := (he.place hr).1
  have H5 := H4.out.call hp3 kk3
  have hb := H5.b
  simp only [zItC, List.setIfInBounds_toArray, List.set_cons_zero, List.set_cons_succ] at hb
  obtain ⟨qn, qp, qa⟩ := q
  obtain ⟨⟨y0, y1, y2, y3, y4, y5, y6, y7, y8, y9, y10⟩, z, hX⟩ := it_get hb
  have z7 := z 7
  have z8 := z 8
  have z9 := z 9
  clear z y0 y1 y2 y3 y4 y5 y6 y10
  have H6 := ((H5.set 7 (.string ⟨qn.toArray⟩)).set 8 (I qp)).set 9 (I (qa : Int))
  have hW6 := (H6.ks).size
  obtain ⟨W6, hW6e⟩ : ∃ W, W = ((w3.setCell ⟨X, 7, none⟩ (.string ⟨qn.toArray⟩)).setCell ⟨X, 8, none⟩ (I qp)).setCell ⟨X, 9, none⟩ (I (qa : Int)) := ⟨_, rfl⟩
  rw [← hW6e] at H6 hW6
  simp only [zItC, List.setIfInBounds_toArray, List.set_cons_zero, List.set_cons_succ] at H6
  have HE6 := Lib.hid hW6e
  have H7 := Lib.hid H6
  have HRW : Hid (edgeP at_ l k = (withP l k3).bind fun xs k4 => .good ⟨2, [], [], xs, ⟨pn, pp, pa⟩, ⟨qn, qp, qa⟩, at_⟩ k4) := Lib.hid (by unfold edgeP; rw [HR1.out, PR.bind_good, HR2.out, PR.bind_good, hr, PR.bind_good])
  have hnx := fun W (n : New W6 W) => pnext_any W G l a c k3 (H7.out.p.new n) hk3 l[k3] (List.getElem?_eq_getElem hk3)
  have hlk := lookP_some (so := 1) (b := withW) (List.getElem?_eq_getElem hk3)
  have hnt := he.next (List.getElem?_eq_getElem hk3)
  obtain ⟨t, ht⟩ : ∃ t, l[k3] = t := ⟨_, rfl⟩
  rw [ht] at hnx hlk hnt
  have hg := List.getElem?_eq_getElem hk3
  rw [ht] at hg
  obtain ⟨so, tx, nu, ta⟩ := t
  simp only [tokV] at hnx hlk hnt
  obtain ⟨T, hT⟩ : ∃ T : ByteArray, (⟨tx.toArray⟩ : ByteArray) = T := ⟨_, rfl⟩
  rw [hT] at hnx
  have htx := fun b => sk_text tx b
  rw [hT] at htx
  have HT := Lib.hid hT
  have HG := Lib.hid hg
  have f0 := fun W => (tok_fld (.int .u8 so) (.string T) (I nu) (I (ta : Int)) W).1
  have f1 := fun W => (tok_fld (.int .u8 so) (.string T) (I nu) (I (ta : Int)) W).2.1
  clear hq hr hp3 kk3 H5 hb H4 H6 hW6e ht hg hT HR1 HR2 HR3
  by_cases hs : so = 1
  · subst hs
    by_cases hw : tx = withW
    · have d2 : (T.toList == [119, 105, 116, 104]) = true := by rw [(htx [119, 105, 116, 104]).2 hw]; rfl
      rw [decide_eq_true ⟨rfl, hw⟩] at hlk
      have HLK := Lib.hid hlk
      have hk4 := hnt (by decide)
      have htk := fun W (n : New W6 W) => ptake_ok W G l a c k3 (H7.out.p.new n) 1 tx nu ta HG.out T HT.out
      clear hw hlk htx hnt
      go_wp2_with fail
      rw [← HE6.out]
      refine (hnx _ (New.refl _)).mono ?_
      rintro e w4 ⟨rfl, n4⟩
      go_wp2_with fail
      refine (hnx _ n4).mono ?_
      rintro e w5 ⟨rfl, n5⟩
      go_wp2_with fail
      refine (htk _ (n4.trans n5)).mono ?_
      rintro e w6 ⟨rfl, hp6, kk6⟩
      have H8 := Lib.hid ((H7.out.new (n4.trans n5)).call hp6 kk6)
      have htk2 := ptake_any _ G l a c (k3 + 1) 2 hp6 hk4
      clear n4 n5 hp6 kk6 hnx htk H7 y7 y8 y9 z7 z8 z9 hX
      go_wp2_with fail
      refine htk2.mono ?_
      intro e w7 hq
      clear htk2
      rcases hq.inv with ⟨j, hr, rfl, k7⟩ | ⟨t, k7, hr, rfl, hp7, kk7⟩
      · clear hq
        go_wp2
        refine sk_panic rfl ?_
        rw [← HRES.out, HRW.out]; unfold withP; rw [if_pos HLK.out, hr, PR.bind_bad, PR.bind_bad]
        exact ⟨rfl, H8.out.bad k7⟩
      have hk7 := (he.take hr (by decide)).1
      have H9 := Lib.hid (H8.out.call hp7 kk7)
      have HR7 := Lib.hid hr
      obtain ⟨so2, tx2, n0, ta2⟩ := t
      obtain ⟨T2, hT2⟩ : ∃ T : ByteArray, (⟨tx2.toArray⟩ : ByteArray) = T := ⟨_, rfl⟩
      simp only [tokV, hT2]
      have f2 := fun W => (tok_fld (.int .u8 so2) (.string T2) (I n0) (I (ta2 : Int)) W).2.2.1
      have na : New w7 (w7.alloc (.cells #[I n0] 3)) := (New.refl _).alloc _
      have hnu := pnums_any _ G l a c k7 he (hp7.new na) hk7
      have hsz : w.heap.size ≤ w7.heap.size := H9.out.ks.size
      clear hT2 hq hr hp7 kk7 H8 f0 f1
      go_wp2_with fail
      refine hnu.mono ?_
      rintro e w8 ⟨ao, co, rfl, ho8, hp8, kk8⟩
      have hl8 := he.nums hk7
      obtain ⟨L, hL⟩ : ∃ L, numsL l k7 = L := ⟨_, rfl⟩
      rw [hL] at ho8 hp8 hl8 ⊢
      have HR8 : Hid (numsP l k7 = .good L (k7 + L.length)) := Lib.hid (by unfold numsP; rw [hL])
      have HB8 : Hid (ItS w G X l a c (k7 + L.length) _ w8) := Lib.hid ((H9.out.new na).call hp8 kk8)
      have hsz8 : w7.heap.size < w8.heap.size := by have := kk8.size; simp at this; omega
      have hGx : G < w8.heap.size := hp8.lt
      have hX7 := H9.out.lt
      have hG7 := H9.out.p.lt
      have hlit : w8.ownsRow w.heap.size 3 1 (.slice (some ⟨w7.heap.size, 0, none⟩) 1 1) 1 [I n0] := kk8.owns (own_one w7 w.heap.size hsz n0) (fun g hg e => by
        have e1 : g = w7.heap.size := by simp [Value.ownBlock] at hg; exact hg.symm
        have := H9.out.p.lt; omega)
      obtain ⟨N, hN⟩ : ∃ N, L.length = N := ⟨_, rfl⟩
      have hsrc : SlAt w8 ao (Is L) := SlAt.of_owns ho8
      have hone : ∀ u ∈ Is L, u.oneCell' = true := oneCell_ints .i64 L
      have hIs : (Is L).length = N * 1 := by unfold Is; rw [List.length_map, hN, Nat.mul_one]
      have HOL := Lib.hid hL
      have HN := Lib.hid hN
      unfold OwnI at ho8
      have HO8 := Lib.hid ho8
      clear hL hnu hp8 kk8 na ho8 H9
      have hNx : 1 + N ≤ 2000001 := by omega
      rw [hN]
      clear hN
      go_wp2_with (at_builtin; refine wpList_app rfl _ _ 38 rfl w.heap.size 3 i0 (.int .i64 0) 1 8 Tryd.underlying38 hi hz0 hz1 hz2 rfl (by decide) (some ⟨w7.heap.size, 0, none⟩) 1 1 [I n0] rfl hlit ao N co (Is L) rfl hIs hsrc hone (by unfold maxLen; omega) (by omega) (by omega) ?_)
      intro a9 c9 w9 hown9 hk9 _ _
      have hob9 : ∀ g, blk (some ⟨w7.heap.size, 0, none⟩) g → g = w7.heap.size := fun g hg => by obtain ⟨x, hx, rfl⟩ := hg; cases hx; rfl
      have H10 := Lib.hid (HB8.out.keeps hk9 (fun h => by have := hob9 _ h; omega) (fun h => by have := hob9 _ h; omega) (fun g hg h => by have h1 := hob9 _ h; have h2 := HOB.out g hg; omega) (fun g h => by have := hob9 _ h; omega))
      have hb := H10.out.b
      obtain ⟨⟨-, -, -, y3, -, -, -, -, -, -, -⟩, z, hX⟩ := it_get hb
      have z3 := z 3
      clear z
      have H11 := H10.out.set 3 (.slice a9 (1 + N) c9)
      have hown10 := own_oth hown9 (Keeps.setCell (S := fun b => b = X) w9 ⟨X, 3, none⟩ (.slice a9 (1 + N) c9) rfl) (fun g hg => ⟨_, _, _, hg ▸ hb, by decide⟩)
      have H11' := Lib.hid H11
      have HO10 := Lib.hid hown10
      clear hown9 hk9 hlit hsrc hone hob9 HB8 H10 hb H11 hown10
      go_wp2_with fail
      refine bodyPost_ret (results_none (by kernel_rfl) _ _ _) rfl ?_
      rw [← HRES.out, HRW.out]; unfold withP; rw [if_pos HLK.out, HR7.out, PR.bind_good, HR8.out, PR.bind_good, PR.bind_good]
      have h11 := H11'.out
      have h12 := HO10.out
      simp only [List.setIfInBounds_toArray, List.set_cons_zero, List.set_cons_succ] at h11
      have eN : 1 + N = L.length + 1 := by rw [HN.out]; omega
      rw [eN] at h11 h12 ⊢
      exact ⟨rfl, a9, c9, h11, h12⟩
    · have d2 : (T.toList == [119, 105, 116, 104]) = false := by
        have := (htx [119, 105, 116, 104])
        cases hh : (T.toList == [119, 105, 116, 104]) with
        | false => rfl
        | true => exact absurd (this.1 (by simpa using hh)) hw
      rw [decide_eq_false (fun h => hw h.2)] at hlk
      have HLK := Lib.hid hlk
      clear hw hlk htx hnt
      go_wp2_with fail
      rw [← HE6.out]
      refine (hnx _ (New.refl _)).mono ?_
      rintro e w4 ⟨rfl, n4⟩
      go_wp2_with fail
      refine (hnx _ n4).mono ?_
      rintro e w5 ⟨rfl, n5⟩
      go_wp2_with fail
      refine bodyPost_ret (results_none (by kernel_rfl) _ _ _) rfl ?_
      rw [← HRES.out, HRW.out]; unfold withP; rw [if_neg (by rw [HLK.out]; decide), PR.bind_good]
      exact ⟨rfl, none, 0, H7.out.new (n4.trans n5), World.ownsRow_nil _ _ _ _⟩
  · have d1 : (so == 1) = false := by simpa using hs
    rw [decide_eq_false (fun h => hs h.1)] at hlk
    have HLK := Lib.hid hlk
    clear hs hlk htx hnt
    go_wp2_with fail
    rw [← HE6.out]
    refine (hnx _ (New.refl _)).mono ?_
    rintro e w4 ⟨rfl, n4⟩
    go_wp2_with fail
    refine bodyPost_ret (results_none (by kernel_rfl) _ _ _) rfl ?_
    rw [← HRES.out, HRW.out]; unfold withP; rw [if_neg (by rw [HLK.out]; decide), PR.bind_good]
    exact ⟨rfl, none, 0, H7.out.new n4, World.ownsRow_nil _ _ _ _⟩
end Go.Proofs.YtohalcbhckahmaaDoor
