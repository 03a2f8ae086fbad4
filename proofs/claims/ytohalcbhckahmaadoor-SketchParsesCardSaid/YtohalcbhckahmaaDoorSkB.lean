/-
  Layer 5, the program's side: numbers, a place.
-/
import Derived.Test.YtohalcbhckahmaaDoorSkA
namespace Go.Proofs.YtohalcbhckahmaaDoor
open Go Go.RowKit Go.Joins
set_option linter.all false

def slLen : Value → Nat
  | .slice _ n _ => n
  | _ => 0
theorem PAt.keeps {S : Nat → Prop} {w w' : World} {G : Nat} {l : List LTok} {a : Option Addr} {c k : Nat} (h : PAt w G l a c k) (ks : Keeps S w w') (hG : ¬ S G) (ha : ∀ g, blk a g → ¬ S g) : PAt w' G l a c k :=
  ⟨ks.heap h.bk hG, sl_keeps h.sl ks ha, h.ne, h.le⟩
theorem PAt.lt {w : World} {G : Nat} {l : List LTok} {a : Option Addr} {c k : Nat} (h : PAt w G l a c k) : G < w.heap.size := h.cells.2.2.2
theorem PAt.old {w : World} {G : Nat} {l : List LTok} {a : Option Addr} {c k : Nat} (h : PAt w G l a c k) (hl : 0 < l.length) {g : Nat} (hg : blk a g) : g < w.heap.size := by
  rcases Nat.lt_or_ge g w.heap.size with h1 | h1
  · exact h1
  · exact absurd hg (h.out0 hl h1)
theorem ptake_ok (w : World) (G : Nat) (l : List LTok) (a : Option Addr) (c k : Nat) (h : PAt w G l a c k) (so : Int) (tx : List UInt8) (nu : Int) (at_ : Nat) (ht : l[k]? = some ⟨so, tx, nu, at_⟩) (T : ByteArray) (hT : (⟨tx.toArray⟩ : ByteArray) = T) :
    Calls Tryd.prog 28 #[.pointer (some ⟨G, 0, none⟩), .int .u8 so] w fun e w' => e = .returned (.agg #[.int .u8 so, .string T, I nu, I (at_ : Int)]) ∧ PAt w' G l a c (k + 1) ∧ Keeps (fun k => k = G) w w' := by
  have hk : k < l.length := (List.getElem?_eq_some_iff.1 ht).1
  refine (ptake_any w G l a c k so h hk).mono ?_
  rw [takeP_some ht, if_pos rfl, ← hT]
  exact fun e w' h => h
theorem ptake_no (w : World) (G : Nat) (l : List LTok) (a : Option Addr) (c k : Nat) (h : PAt w G l a c k) (hk : k < l.length) (so : Int) {j : Nat} (hb : takeP so l k = .bad j) :
    Calls Tryd.prog 28 #[.pointer (some ⟨G, 0, none⟩), .int .u8 so] w fun e w' => e = .panicked [{ v := wrongV (atT l j), recovered := false }] ∧ Keeps (fun k => k = G) w w' := by
  refine (ptake_any w G l a c k so h hk).mono ?_
  rw [hb]
  exact fun e w' h => h
theorem pmark_ok (w : World) (G : Nat) (l : List LTok) (a : Option Addr) (c k : Nat) (h : PAt w G l a c k) (hk : k < l.length) (B : List UInt8) {m : Nat} {u : Unit} (hb : mustP 3 B l k = .good u m) :
    Calls Tryd.prog 29 #[.pointer (some ⟨G, 0, none⟩), .string ⟨B.toArray⟩] w fun e w' => e = .returned (.tuple #[]) ∧ PAt w' G l a c m ∧ Keeps (fun k => k = G) w w' := by
  refine (pmark_any w G l a c k B h hk).mono ?_
  rw [hb]
  exact fun e w' h => h
theorem pmark_no (w : World) (G : Nat) (l : List LTok) (a : Option Addr) (c k : Nat) (h : PAt w G l a c k) (hk : k < l.length) (B : List UInt8) {j : Nat} (hb : mustP 3 B l k = .bad j) :
    Calls Tryd.prog 29 #[.pointer (some ⟨G, 0, none⟩), .string ⟨B.toArray⟩] w fun e w' => e = .panicked [{ v := wrongV (atT l j), recovered := false }] ∧ Keeps (fun k => k = G) w w' := by
  refine (pmark_any w G l a c k B h hk).mono ?_
  rw [hb]
  exact fun e w' h => h
theorem ri_sl {a : Option Addr} {n m c : Nat} (h : n = m) : Value.slice a n c = .slice a m c := by rw [h]
set_option maxRecDepth 100000 in
set_option maxHeartbeats 8000000 in
theorem pnums_any (w : World) (G : Nat) (l : List LTok) (a : Option Addr) (c k : Nat) (he : Ends l) (h : PAt w G l a c k) (hk : k < l.length) :
    Calls Tryd.prog 55 #[.pointer (some ⟨G, 0, none⟩)] w fun e w' => ∃ ao co, e = .returned (.slice ao (numsL l k).length co) ∧ OwnI w' w.heap.size ao co (numsL l k) ∧ PAt w' G l a c (k + (numsL l k).length) ∧ Keeps (fun k => k = G) w w' := by
  obtain ⟨i0, hi, hz0, hz1, hz2⟩ := info_parts Tryd.infoInt
  have hnil : w.ownsRow w.heap.size 3 1 (.slice none 0 0) 0 [] := World.ownsRow_nil _ _ _ _
  have H := Lib.hid h
  have hle := h.le
  have hGl := h.lt
  obtain ⟨L, hL⟩ : ∃ L, numsL l k = L := ⟨_, rfl⟩
  rw [hL]
  have HL := Lib.hid hL
  obtain ⟨N, hN⟩ : ∃ N, L.length = N := ⟨_, rfl⟩
  have HN := Lib.hid hN
  have hb := he.nums hk
  rw [hL] at hb
  clear h hL
  go_enter Tryd.func55, Tryd.ntmps55
  go_wp2_with fail
  go_loopw [3] (fun y wr => ∃ (acc : List Int) (nn k' : Nat) (ao : Option Addr) (co : Nat), y = .slice ao nn co ∧ Hid (acc.length = nn) ∧ k + nn = k' ∧ k' < l.length ∧ Hid (acc ++ numsL l k' = L) ∧ Hid (wr.ownsRow w.heap.size 3 1 (.slice ao nn co) nn (Is acc)) ∧ Hid (PAt wr G l a c k') ∧ Hid (Keeps (fun k => k = G) w wr)) (fun y _ => l.length - slLen y)
  case atStart => exact ⟨[], 0, k, none, 0, rfl, Lib.hid rfl, rfl, hk, Lib.hid (by rw [HL.out]; rfl), Lib.hid hnil, H, Lib.hid (Keeps.refl _ w)⟩
  case round =>
    clear hnil
    obtain ⟨acc, nn, k', ao, co, rfl, HA, rfl, hk', HE, HO, HP, HK⟩ := hrel
    have hn := fun W (n : New wr W) => pnext_any W G l a c (k + nn) (HP.out.new n) hk' l[k + nn] (List.getElem?_eq_getElem hk')
    have hnx : l[k + nn].sort ≠ 0 → k + nn + 1 < l.length := he.next (List.getElem?_eq_getElem hk')
    have hsm := numsL_some (List.getElem?_eq_getElem hk')
    obtain ⟨t, ht⟩ : ∃ t, l[k + nn] = t := ⟨_, rfl⟩
    have hg := List.getElem?_eq_getElem hk'
    rw [ht] at hn hnx hsm hg
    clear ht
    obtain ⟨so, tx, nu, at_⟩ := t
    simp only [tokV] at hn hnx hsm
    obtain ⟨T, hT⟩ : ∃ T : ByteArray, (⟨tx.toArray⟩ : ByteArray) = T := ⟨_, rfl⟩
    rw [hT] at hn
    have f0 := fun W => (tok_fld (.int .u8 so) (.string T) (I nu) (I (at_ : Int)) W).1
    have f2 := fun W => (tok_fld (.int .u8 so) (.string T) (I nu) (I (at_ : Int)) W).2.2.1
    by_cases hs : so = 2
    · subst hs
      rw [if_pos rfl] at hsm
      have ht := fun W (n : New wr W) => ptake_ok W G l a c (k + nn) (HP.out.new n) 2 tx nu at_ hg T hT
      clear hT hg
      have HSM := Lib.hid hsm
      have hk2 := hnx (by decide)
      clear hsm hnx
      go_wp2_with fail
      refine (hn _ (New.refl _)).mono ?_
      rintro e w1 ⟨rfl, n1⟩
      go_wp2_with fail
      refine (ht _ n1).mono ?_
      rintro e w2 ⟨rfl, H2, k2⟩
      have kk : Keeps (fun k => k = G) wr w2 := (Keeps.mono n1 (fun _ _ h => h.elim)).trans k2 (fun _ _ h => h)
      have ho2 := kk.owns HO.out (fun g hg e => by have := (own_of_blk HO.out (blk_of_own hg)).1; omega)
      have na : New w2 (w2.alloc (.cells #[I nu] 3)) := (New.refl _).alloc _
      have hz : w.heap.size ≤ w2.heap.size := (HK.out.trans kk (fun _ _ h => h)).size
      have HK2 := Lib.hid (HK.out.trans kk (fun _ _ h => h))
      have H2' := Lib.hid H2
      have hone : ∀ u ∈ [I nu], u.oneCell' = true := by intro u hu; simp only [List.mem_cons, List.not_mem_nil, or_false] at hu; rcases hu with rfl; rfl
      have ho3 := na.owns ho2
      clear hn ht n1 k2 H2 kk ho2
      go_wp2_with (at_builtin; refine wpList_app rfl _ _ 38 rfl w.heap.size 3 i0 (.int .i64 0) 1 8 Tryd.underlying38 hi hz0 hz1 hz2 rfl (by decide) ao nn co (Is acc) rfl ho3 _ 1 1 [I nu] rfl rfl (SlAt.lit _ _ _) hone (by unfold maxLen; omega) (by omega) (Nat.le_trans hz na.size) ?_)
      intro a3 c3 w3 hown3 hk3 _ _
      have hob : ∀ g, blk ao g → w.heap.size ≤ g := fun g hg => (own_of_blk ho3 hg).1
      have H3 : PAt w3 G l a c (k + nn + 1) := (H2'.out.new na).keeps hk3 (fun hg => by have := hob _ hg; omega) (fun g hg hg2 => by have h1 := H.out.old (by omega) hg; have h2 := hob _ hg2; omega)
      have HK3 := Lib.hid ((HK2.out.trans na (fun _ _ h => h.elim)).trans hk3 (fun i hi hx => by have := hob _ hx; omega))
      have HO3 : Hid (w3.ownsRow w.heap.size 3 1 (.slice a3 (nn + 1) c3) (nn + 1) (Is (acc ++ [nu]))) := Lib.hid (by rw [show Is (acc ++ [nu]) = Is acc ++ [I nu] by simp [Is]]; exact hown3)
      have HE3 : Hid ((acc ++ [nu]) ++ numsL l (k + nn + 1) = L) := Lib.hid (by rw [← HE.out, HSM.out]; simp)
      have HA3 : Hid ((acc ++ [nu]).length = nn + 1) := Lib.hid (by rw [List.length_append, HA.out]; rfl)
      have HP3 := Lib.hid H3
      clear hown3 hk3 ho3 H3
      go_wp2_with fail
      go_roundw
      case rel => exact ⟨acc ++ [nu], nn + 1, k + (nn + 1), a3, c3, rfl, HA3, rfl, hk2, HE3, HO3, HP3, HK3⟩
      case measure => simp [slLen]; omega
    · rw [if_neg hs] at hsm
      have d1 : (so == 2) = false := by simpa using hs
      have HSM := Lib.hid hsm
      clear hsm hs hnx hT hg
      go_wp2_with fail
      refine (hn _ (New.refl _)).mono ?_
      rintro e w1 ⟨rfl, n1⟩
      have eL : acc = L := by have := HE.out; rw [HSM.out, List.append_nil] at this; exact this
      have eN : nn = N := by rw [← HA.out, eL, HN.out]
      subst eN eL
      have hfin : OwnI w1 w.heap.size ao co acc := by have := n1.owns HO.out; unfold OwnI; rw [HA.out]; exact this
      have H1 := HP.out.new n1
      have k1 := HK.out.trans n1 (fun _ _ h => h.elim)
      go_wp2_with fail
      go_ret
      rw [hN]
      exact ⟨ao, co, rfl, hfin, H1, k1⟩
abbrev plV (p : LPl) : Value := .agg #[.string ⟨p.name.toArray⟩, I p.port, I p.at_]
theorem pl_blk (w : World) (x0 x1 x2 : Value) : (w.alloc (.cells #[x0, x1, x2] 40)).heap[w.heap.size]? = some (.cells #[x0, x1, x2] 40 (0, 0)) := heap_alloc_new w _
theorem pl_set {w : World} {R : Nat} {x0 x1 x2 : Value} (h : w.heap[R]? = some (.cells #[x0, x1, x2] 40 (0, 0))) (u0 u1 u2 : Value) :
    (((w.setCell ⟨R, 0, none⟩ u0).setCell ⟨R, 1, none⟩ u1).setCell ⟨R, 2, none⟩ u2).heap[R]? = some (.cells #[u0, u1, u2] 40 (0, 0)) ∧ Keeps (fun k => k = R) w (((w.setCell ⟨R, 0, none⟩ u0).setCell ⟨R, 1, none⟩ u1).setCell ⟨R, 2, none⟩ u2) := by
  have h1 := block_setCell (i := 0) h u0
  have h2 := block_setCell (i := 1) h1 u1
  have h3 := block_setCell (i := 2) h2 u2
  refine ⟨by rw [h3]; simp, (((Keeps.setCell (S := fun k => k = R) w _ _ rfl).trans (Keeps.setCell (S := fun k => k = R) _ _ _ rfl) (fun _ _ h => h)).trans (Keeps.setCell (S := fun k => k = R) _ _ _ rfl) (fun _ _ h => h))⟩
theorem pl_get {w : World} {R : Nat} {x0 x1 x2 : Value} (h : w.heap[R]? = some (.cells #[x0, x1, x2] 40 (0, 0))) :
    w.cell? ⟨R, 0, none⟩ = some x0 ∧ w.cell? ⟨R, 1, none⟩ = some x1 ∧ w.cell? ⟨R, 2, none⟩ = some x2 ∧ (∀ i, w.frozen? ⟨R, i, none⟩ = false) ∧ R < w.heap.size := by
  refine ⟨?_, ?_, ?_, fun i => unfrozen_of_block h i, (Array.getElem?_eq_some_iff.1 h).1⟩
  · rw [cell_of_block h 0]; rfl
  · rw [cell_of_block h 1]; rfl
  · rw [cell_of_block h 2]; rfl
theorem KG {w w1 w2 : World} {G : Nat} (h : Keeps (fun k => k = G) w w1) (k : Keeps (fun k => k = G) w1 w2) : Keeps (fun k => k = G) w w2 := h.trans k (fun _ _ h => h)
theorem KN {w w1 : World} {G : Nat} (h : New w w1) : Keeps (fun k => k = G) w w1 := Keeps.mono h (fun _ _ h => h.elim)
set_option maxRecDepth 100000 in
set_option maxHeartbeats 8000000 in
theorem pplace_any (w : World) (G : Nat) (l : List LTok) (a : Option Addr) (c k : Nat) (he : Ends l) (h : PAt w G l a c k) (hk : k < l.length) :
    Calls Tryd.prog 57 #[.pointer (some ⟨G, 0, none⟩)] w (PAs w G l a c plV (placeP l k)) := by
  have hGl := h.lt
  have n0 : New w (w.alloc (.cells #[.string ⟨#[]⟩, I 0, I 0] 40)) := (New.refl w).alloc _
  have hb0 := pl_blk w (.string ⟨#[]⟩) (I 0) (I 0)
  have hle := h.le
  have H := Lib.hid h
  obtain ⟨res, hre⟩ : ∃ r, placeP l k = r := ⟨_, rfl⟩
  rw [hre]
  have HRES := Lib.hid hre
  clear hre
  obtain ⟨r, hr⟩ : ∃ r, takeP 1 l k = r := ⟨_, rfl⟩
  have HR1 := Lib.hid hr
  cases r with
  | bad j =>
    have ht := ptake_no _ G l a c k (h.new n0) hk 1 hr
    clear h
    go_enter Tryd.func57, Tryd.ntmps57
    go_wp2_with fail
    refine ht.mono ?_
    rintro e w1 ⟨rfl, k1⟩
    go_wp2
    refine sk_panic rfl ?_
    rw [← HRES.out]; unfold placeP; rw [HR1.out]
    exact ⟨rfl, KG (KN n0) k1⟩
  | good t k1 =>
    obtain ⟨ht1, hso, rfl⟩ := takeP_inv hr
    obtain ⟨so, tx, nu, at_⟩ := t
    simp only at hso
    subst hso
    have hk1 : k + 1 < l.length := he.next ht1 (by simp)
    obtain ⟨T, hT⟩ : ∃ T : ByteArray, (⟨tx.toArray⟩ : ByteArray) = T := ⟨_, rfl⟩
    have ht := ptake_ok _ G l a c k (h.new n0) 1 tx nu at_ ht1 T hT
    have HB0 := Lib.hid hb0
    have HT := Lib.hid hT
    clear h hr hT ht1 hb0
    go_enter Tryd.func57, Tryd.ntmps57
    go_wp2_with fail
    refine ht.mono ?_
    rintro e w1 ⟨rfl, H1, kg1⟩
    have nb : New w1 (w1.alloc (.cells #[.int .u8 1, .string T, I nu, I (at_ : Int)] 50)) := (New.refl w1).alloc _
    have hb1 := tok_blk w1 (.int .u8 1) (.string T) (I nu) (I (at_ : Int))
    have hb0' := Keeps.heap nb (kg1.heap HB0.out (by omega)) (fun h => h)
    have hs1 : w.heap.size < w1.heap.size := by have := kg1.size; simp at this; omega
    have H1' := H1.new nb
    have kk1 := KG (KG (KN n0) kg1) (KN nb)
    obtain ⟨r, hr⟩ : ∃ r, mustP 3 [46] l (k + 1) = r := ⟨_, rfl⟩
    have HR2 := Lib.hid hr
    have HB1 := Lib.hid hb1
    have HB0' := Lib.hid hb0'
    have HP1 := Lib.hid H1'
    have HK1 := Lib.hid kk1
    clear H1 kg1 ht n0
    cases r with
    | bad j =>
      have ht := pmark_no _ G l a c (k + 1) H1' hk1 [46] hr
      clear hb1 hb0' H1' kk1 nb
      go_wp2_with fail
      refine ht.mono ?_
      rintro e w2 ⟨rfl, k2⟩
      go_wp2
      refine sk_panic rfl ?_
      rw [← HRES.out]; unfold placeP; rw [HR1.out, PR.bind_good, HR2.out]
      exact ⟨rfl, KG HK1.out k2⟩
    | good u k2 =>
      obtain ⟨_, _, _, _, rfl⟩ := mustP_inv hr
      have hk2 := (he.must hr (by decide)).1
      have ht := pmark_ok _ G l a c (k + 1) H1' hk1 [46] hr
      clear hb1 hb0' H1' kk1 nb
      go_wp2_with fail
      refine ht.mono ?_
      rintro e w2 ⟨rfl, H2, k2⟩
      have hb0 := k2.heap HB0'.out (by omega)
      have hb1 := k2.heap HB1.out (by omega)
      have kk2 := KG HK1.out k2
      have hs2 : w1.heap.size < w2.heap.size := by have := k2.size; simp at this; omega
      obtain ⟨R, hR⟩ : ∃ R, w1.heap.size = R := ⟨_, rfl⟩
      obtain ⟨Q, hQ⟩ : ∃ Q, w.heap.size = Q := ⟨_, rfl⟩
      rw [hR] at hb1 hs1 hs2 ⊢
      rw [hQ] at hb0 hs1 hGl ⊢
      have hRG : R ≠ G := by omega
      have hQG : Q ≠ G := by omega
      have hQw : w.heap.size ≤ Q := by omega
      have HQw := Lib.hid hQw
      obtain ⟨r, hr⟩ : ∃ r, takeP 2 l (k + 1 + 1) = r := ⟨_, rfl⟩
      have HR3 := Lib.hid hr
      have HP2 := Lib.hid H2
      have HK2 := Lib.hid kk2
      have HB0 := Lib.hid hb0
      have HB1 := Lib.hid hb1
      obtain ⟨p0, p1, p2, p3, -, hp⟩ := tok_get hb1
      clear H2 k2 ht HB0' HB1 hR hQ hQw hb0 kk2 hb1
      have hS0 : (fun w' : World => w'.cell? ⟨R, 1, none⟩ = some (.string T) ∧ w'.cell? ⟨R, 3, none⟩ = some (I (at_ : Int))) w2.drew := ⟨p1, p3⟩
      cases r with
      | bad j =>
        have ht := ptake_no _ G l a c (k + 1 + 1) (HP2.out.new (New.refl _).drew) hk2 2 hr
        go_wp2_with fail
        refine wp_region_X (fun w' : World => w'.cell? ⟨R, 1, none⟩ = some (.string T) ∧ w'.cell? ⟨R, 3, none⟩ = some (I (at_ : Int))) [10] (by kernel_rfl) hS0 ?_
        refine anyX_take 0 (by kernel_rfl) (by kernel_rfl) (by kernel_rfl) (by kernel_rfl) (by kernel_rfl) hS0 ?_
        intro oi ho; simp only [List.getElem?_toArray, List.getElem?_cons_succ, List.getElem?_cons_zero, Option.some.injEq] at ho; subst ho
        refine ⟨?_, fun _ _ _ h => h, Or.inl ⟨by rfl, ?_⟩, ?_⟩; rotate_left 1
        · (intro wS hSw; (try dsimp only at hSw); go_simp; try with_reducible rfl)
        simp only [Act.put, List.setIfInBounds_toArray, List.set_cons_zero, List.set_cons_succ]
        refine anyX_take 1 (by kernel_rfl) (by kernel_rfl) (by kernel_rfl) (by kernel_rfl) (by kernel_rfl) hS0 ?_
        intro oi ho; simp only [List.getElem?_toArray, List.getElem?_cons_succ, List.getElem?_cons_zero, Option.some.injEq] at ho; subst ho
        refine ⟨?_, fun _ _ _ h => h, Or.inl ⟨by rfl, ?_⟩, ?_⟩; rotate_left 1
        · (intro wS hSw; (try dsimp only at hSw); go_simp; try with_reducible rfl)
        simp only [Act.put, List.setIfInBounds_toArray, List.set_cons_zero, List.set_cons_succ]
        refine anyX_take 2 (by kernel_rfl) (by kernel_rfl) (by kernel_rfl) (by kernel_rfl) (by kernel_rfl) hS0 ?_
        intro oi ho; simp only [List.getElem?_toArray, List.getElem?_cons_succ, List.getElem?_cons_zero, Option.some.injEq] at ho; subst ho
        refine ⟨?_, fun _ _ _ h => h, Or.inl ⟨by rfl, ?_⟩, ?_⟩; rotate_left 1
        · (intro wS hSw; (try dsimp only at hSw); go_simp; try with_reducible rfl)
        simp only [Act.put, List.setIfInBounds_toArray, List.set_cons_zero, List.set_cons_succ]
        refine anyX_take 3 (by kernel_rfl) (by kernel_rfl) (by kernel_rfl) (by kernel_rfl) (by kernel_rfl) hS0 ?_
        intro oi ho; simp only [List.getElem?_toArray, List.getElem?_cons_succ, List.getElem?_cons_zero, Option.some.injEq] at ho; subst ho
        refine ⟨?_, fun _ _ _ h => h, Or.inl ⟨by rfl, ?_⟩, ?_⟩; rotate_left 1
        · (intro wS hSw; (try dsimp only at hSw); go_simp; try with_reducible rfl)
        simp only [Act.put, List.setIfInBounds_toArray, List.set_cons_zero, List.set_cons_succ]
        refine anyX_take 4 (by kernel_rfl) (by kernel_rfl) (by kernel_rfl) (by kernel_rfl) (by kernel_rfl) hS0 ?_
        intro oi ho; simp only [List.getElem?_toArray, List.getElem?_cons_succ, List.getElem?_cons_zero, Option.some.injEq] at ho; subst ho
        refine ⟨?_, fun _ _ _ h => h, Or.inl ⟨by rfl, ?_⟩, ?_⟩; rotate_left 1
        · (intro wS hSw; (try dsimp only at hSw); go_simp; try with_reducible rfl)
        simp only [Act.put, List.setIfInBounds_toArray, List.set_cons_zero, List.set_cons_succ]
        refine anyX_take 7 (by kernel_rfl) (by kernel_rfl) (by kernel_rfl) (by kernel_rfl) (by kernel_rfl) hS0 ?_
        intro oi ho; simp only [List.getElem?_toArray, List.getElem?_cons_succ, List.getElem?_cons_zero, Option.some.injEq] at ho; subst ho
        refine ⟨?_, fun _ _ _ h => h, Or.inl ⟨by rfl, ?_⟩, ?_⟩; rotate_left 1
        · (intro wS hSw; (try dsimp only at hSw); go_simp; try with_reducible rfl)
        simp only [Act.put, List.setIfInBounds_toArray, List.set_cons_zero, List.set_cons_succ]
        refine anyX_take 8 (by kernel_rfl) (by kernel_rfl) (by kernel_rfl) (by kernel_rfl) (by kernel_rfl) hS0 ?_
        intro oi ho; simp only [List.getElem?_toArray, List.getElem?_cons_succ, List.getElem?_cons_zero, Option.some.injEq] at ho; subst ho
        refine ⟨?_, fun _ _ _ h => h, Or.inl ⟨by rfl, ?_⟩, ?_⟩; rotate_left 1
        · (intro wS hSw; (try dsimp only at hSw); go_simp; try with_reducible rfl)
        simp only [Act.put, List.setIfInBounds_toArray, List.set_cons_zero, List.set_cons_succ]
        refine anyX_one 5 (by kernel_rfl) ?_
        intro oi ho; simp only [List.getElem?_toArray, List.getElem?_cons_succ, List.getElem?_cons_zero, Option.some.injEq] at ho; subst ho; intro K hK
        (try simp only [Act.put, List.setIfInBounds_toArray, List.set_cons_zero, List.set_cons_succ])
        go_simp
        refine ht.mono ?_
        rintro e w3 ⟨rfl, k3⟩
        refine sk_panic rfl ?_
        rw [← HRES.out]; unfold placeP; rw [HR1.out, PR.bind_good, HR2.out, PR.bind_good, HR3.out]
        exact ⟨rfl, KG (KG HK2.out (KN (New.refl _).drew)) k3⟩
      | good t k3 =>
        obtain ⟨ht1, hso, rfl⟩ := takeP_inv hr
        obtain ⟨so, tx3, nu3, at3⟩ := t
        simp only at hso
        subst hso
        have hk3 : k + 1 + 1 + 1 < l.length := he.next ht1 (by simp)
        obtain ⟨T3, hT3⟩ : ∃ T : ByteArray, (⟨tx3.toArray⟩ : ByteArray) = T := ⟨_, rfl⟩
        have ht := ptake_ok _ G l a c (k + 1 + 1) (HP2.out.new (New.refl _).drew) 2 tx3 nu3 at3 ht1 T3 hT3
        have f2 := fun W => (tok_fld (.int .u8 2) (.string T3) (I nu3) (I (at3 : Int)) W).2.2.1
        clear hT3 ht1
        go_wp2_with fail
        refine wp_region_X (fun w' : World => w'.cell? ⟨R, 1, none⟩ = some (.string T) ∧ w'.cell? ⟨R, 3, none⟩ = some (I (at_ : Int))) [10] (by kernel_rfl) hS0 ?_
        refine anyX_take 0 (by kernel_rfl) (by kernel_rfl) (by kernel_rfl) (by kernel_rfl) (by kernel_rfl) hS0 ?_
        intro oi ho; simp only [List.getElem?_toArray, List.getElem?_cons_succ, List.getElem?_cons_zero, Option.some.injEq] at ho; subst ho
        refine ⟨?_, fun _ _ _ h => h, Or.inl ⟨by rfl, ?_⟩, ?_⟩; rotate_left 1
        · (intro wS hSw; (try dsimp only at hSw); go_simp; try with_reducible rfl)
        simp only [Act.put, List.setIfInBounds_toArray, List.set_cons_zero, List.set_cons_succ]
        refine anyX_take 1 (by kernel_rfl) (by kernel_rfl) (by kernel_rfl) (by kernel_rfl) (by kernel_rfl) hS0 ?_
        intro oi ho; simp only [List.getElem?_toArray, List.getElem?_cons_succ, List.getElem?_cons_zero, Option.some.injEq] at ho; subst ho
        refine ⟨?_, fun _ _ _ h => h, Or.inl ⟨by rfl, ?_⟩, ?_⟩; rotate_left 1
        · (intro wS hSw; (try dsimp only at hSw); go_simp; try with_reducible rfl)
        simp only [Act.put, List.setIfInBounds_toArray, List.set_cons_zero, List.set_cons_succ]
        refine anyX_take 2 (by kernel_rfl) (by kernel_rfl) (by kernel_rfl) (by kernel_rfl) (by kernel_rfl) hS0 ?_
        intro oi ho; simp only [List.getElem?_toArray, List.getElem?_cons_succ, List.getElem?_cons_zero, Option.some.injEq] at ho; subst ho
        refine ⟨?_, fun _ _ _ h => h, Or.inl ⟨by rfl, ?_⟩, ?_⟩; rotate_left 1
        · (intro wS hSw; (try dsimp only at hSw); go_simp; try with_reducible rfl)
        simp only [Act.put, List.setIfInBounds_toArray, List.set_cons_zero, List.set_cons_succ]
        refine anyX_take 3 (by kernel_rfl) (by kernel_rfl) (by kernel_rfl) (by kernel_rfl) (by kernel_rfl) hS0 ?_
        intro oi ho; simp only [List.getElem?_toArray, List.getElem?_cons_succ, List.getElem?_cons_zero, Option.some.injEq] at ho; subst ho
        refine ⟨?_, fun _ _ _ h => h, Or.inl ⟨by rfl, ?_⟩, ?_⟩; rotate_left 1
        · (intro wS hSw; (try dsimp only at hSw); go_simp; try with_reducible rfl)
        simp only [Act.put, List.setIfInBounds_toArray, List.set_cons_zero, List.set_cons_succ]
        refine anyX_take 4 (by kernel_rfl) (by kernel_rfl) (by kernel_rfl) (by kernel_rfl) (by kernel_rfl) hS0 ?_
        intro oi ho; simp only [List.getElem?_toArray, List.getElem?_cons_succ, List.getElem?_cons_zero, Option.some.injEq] at ho; subst ho
        refine ⟨?_, fun _ _ _ h => h, Or.inl ⟨by rfl, ?_⟩, ?_⟩; rotate_left 1
        · (intro wS hSw; (try dsimp only at hSw); go_simp; try with_reducible rfl)
        simp only [Act.put, List.setIfInBounds_toArray, List.set_cons_zero, List.set_cons_succ]
        refine anyX_take 7 (by kernel_rfl) (by kernel_rfl) (by kernel_rfl) (by kernel_rfl) (by kernel_rfl) hS0 ?_
        intro oi ho; simp only [List.getElem?_toArray, List.getElem?_cons_succ, List.getElem?_cons_zero, Option.some.injEq] at ho; subst ho
        refine ⟨?_, fun _ _ _ h => h, Or.inl ⟨by rfl, ?_⟩, ?_⟩; rotate_left 1
        · (intro wS hSw; (try dsimp only at hSw); go_simp; try with_reducible rfl)
        simp only [Act.put, List.setIfInBounds_toArray, List.set_cons_zero, List.set_cons_succ]
        refine anyX_take 8 (by kernel_rfl) (by kernel_rfl) (by kernel_rfl) (by kernel_rfl) (by kernel_rfl) hS0 ?_
        intro oi ho; simp only [List.getElem?_toArray, List.getElem?_cons_succ, List.getElem?_cons_zero, Option.some.injEq] at ho; subst ho
        refine ⟨?_, fun _ _ _ h => h, Or.inl ⟨by rfl, ?_⟩, ?_⟩; rotate_left 1
        · (intro wS hSw; (try dsimp only at hSw); go_simp; try with_reducible rfl)
        simp only [Act.put, List.setIfInBounds_toArray, List.set_cons_zero, List.set_cons_succ]
        refine anyX_one 5 (by kernel_rfl) ?_
        intro oi ho; simp only [List.getElem?_toArray, List.getElem?_cons_succ, List.getElem?_cons_zero, Option.some.injEq] at ho; subst ho; intro K hK
        (try simp only [Act.put, List.setIfInBounds_toArray, List.set_cons_zero, List.set_cons_succ])
        go_simp
        refine ht.mono ?_
        rintro e w3 ⟨rfl, H3, k3⟩
        have hS1 : (fun w' : World => w'.cell? ⟨R, 1, none⟩ = some (.string T) ∧ w'.cell? ⟨R, 3, none⟩ = some (I (at_ : Int))) w3 := ⟨k3.cell hS0.1 hRG, k3.cell hS0.2 hRG⟩
        refine hK _ _ (fun _ => hS1) ?_
        clear hK K hS0
        have HP3 := Lib.hid H3
        have HK3 := Lib.hid (KG (KG HK2.out (KN (New.refl _).drew)) k3)
        have hbz := k3.heap (w := w2.drew) HB0.out hQG
        have HBZ := Lib.hid hbz
        obtain ⟨y0, y1, y2, z, hy⟩ := pl_get hbz
        have z0 := z 0
        have z1 := z 1
        have z2 := z 2
        clear H3 k3 hbz z p0 p1 p2 p3 ht
        refine anyX_take 6 (by kernel_rfl) (by kernel_rfl) (by kernel_rfl) (by kernel_rfl) (by kernel_rfl) hS1 ?_
        intro oi ho; simp only [List.getElem?_toArray, List.getElem?_cons_succ, List.getElem?_cons_zero, Option.some.injEq] at ho; subst ho
        refine ⟨?_, fun _ _ _ h => h, Or.inl ⟨by rfl, ?_⟩, ?_⟩; rotate_left 1
        · (intro wS hSw; (try dsimp only at hSw); go_simp; try with_reducible rfl)
        simp only [Act.put, List.setIfInBounds_toArray, List.set_cons_zero, List.set_cons_succ]
        refine anyX_take 9 (by kernel_rfl) (by kernel_rfl) (by kernel_rfl) (by kernel_rfl) (by kernel_rfl) hS1 ?_
        intro oi ho; simp only [List.getElem?_toArray, List.getElem?_cons_succ, List.getElem?_cons_zero, Option.some.injEq] at ho; subst ho
        refine ⟨?_, fun _ _ _ h => h, Or.inl ⟨by rfl, ?_⟩, ?_⟩; rotate_left 1
        · (intro wS hSw; (try dsimp only at hSw); go_simp; try with_reducible rfl)
        simp only [Act.put, List.setIfInBounds_toArray, List.set_cons_zero, List.set_cons_succ]
        refine anyX_one 10 (by kernel_rfl) ?_
        intro oi ho; simp only [List.getElem?_toArray, List.getElem?_cons_succ, List.getElem?_cons_zero, Option.some.injEq] at ho; subst ho; intro K hK
        (try simp only [Act.put, List.setIfInBounds_toArray, List.set_cons_zero, List.set_cons_succ])
        go_simp
        refine hK _ _ (fun h => absurd h (by decide)) ?_
        clear hK K
        refine anyX_done (by kernel_rfl) ?_
        (try simp only [Act.put, List.setIfInBounds_toArray, List.set_cons_zero, List.set_cons_succ])
        simp only [Exit.then]
        have hst := pl_set HBZ.out (.string T) (I nu3) (I (at_ : Int))
        have hb5 := hst.1
        have HP5 := HP3.out.keeps hst.2 (fun h => hQG h.symm) (fun g hg e => by have h1 := H.out.old (by omega) hg; have := HQw.out; omega)
        have HK5 := HK3.out.trans hst.2 (fun i hi e => by have := HQw.out; omega)
        generalize ((w3.setCell ⟨Q, 0, none⟩ (.string T)).setCell ⟨Q, 1, none⟩ (I nu3)).setCell ⟨Q, 2, none⟩ (I (at_ : Int)) = Wf at hb5 HP5 HK5 ⊢
        obtain ⟨r0, r1, r2, -, -⟩ := pl_get hb5
        clear y0 y1 y2 z0 z1 z2 hst hb5
        go_wp2_with fail
        refine bodyPost_ret (v := .agg #[.string T, I nu3, I (at_ : Int)]) (by simp [results, Tryd.results57, go_sem, r0, r1, r2]) rfl ?_
        rw [← HRES.out]; unfold placeP; rw [HR1.out, PR.bind_good, HR2.out, PR.bind_good, HR3.out]
        exact ⟨by simp only [plV, HT.out], HP5, HK5⟩
end Go.Proofs.YtohalcbhckahmaaDoor
