/-
  Layer 5, the program's side: an item.
-/
import Derived.Test.YtohalcbhckahmaaDoorSkC
namespace Go.Proofs.YtohalcbhckahmaaDoor
open Go Go.RowKit Go.Joins
set_option linter.all false

/-- What item leaves behind. -/
def ItemEnd (w : World) (G : Nat) (l : List LTok) (a : Option Addr) (c : Nat) (res : PR LIt) (e : Ending) (w' : World) : Prop := match res with
  | .bad j => PBad w G l j e w'
  | .good x k => ∃ ao co, e = .returned (.agg (itA (x.mem ao co))) ∧ OwnI w' w.heap.size ao co x.xs ∧ PAt w' G l a c k ∧ Keeps (fun b => b = G) w w'
theorem KX {w w' : World} {G X : Nat} (h : Keeps (fun b => b = G ∨ b = X) w w') (hX : w.heap.size ≤ X) : Keeps (fun b => b = G) w w' := h.mono (fun i hi hs => by rcases hs with h | h; exact h; omega)
theorem it_set11 {w : World} {R : Nat} {x0 x1 x2 x3 x4 x5 x6 x7 x8 x9 x10 : Value} (h : w.heap[R]? = some (.cells #[x0, x1, x2, x3, x4, x5, x6, x7, x8, x9, x10] ItT (0, 0))) (u0 u1 u2 u3 u4 u5 u6 u7 u8 u9 u10 : Value) :
    (((((((((((w.setCell ⟨R, 0, none⟩ u0).setCell ⟨R, 1, none⟩ u1).setCell ⟨R, 2, none⟩ u2).setCell ⟨R, 3, none⟩ u3).setCell ⟨R, 4, none⟩ u4).setCell ⟨R, 5, none⟩ u5).setCell ⟨R, 6, none⟩ u6).setCell ⟨R, 7, none⟩ u7).setCell ⟨R, 8, none⟩ u8).setCell ⟨R, 9, none⟩ u9).setCell ⟨R, 10, none⟩ u10).heap[R]? = some (.cells #[u0, u1, u2, u3, u4, u5, u6, u7, u8, u9, u10] ItT (0, 0)) ∧
    Keeps (fun k => k = R) w (((((((((((w.setCell ⟨R, 0, none⟩ u0).setCell ⟨R, 1, none⟩ u1).setCell ⟨R, 2, none⟩ u2).setCell ⟨R, 3, none⟩ u3).setCell ⟨R, 4, none⟩ u4).setCell ⟨R, 5, none⟩ u5).setCell ⟨R, 6, none⟩ u6).setCell ⟨R, 7, none⟩ u7).setCell ⟨R, 8, none⟩ u8).setCell ⟨R, 9, none⟩ u9).setCell ⟨R, 10, none⟩ u10) := by
  have h0 := block_setCell (i := 0) h u0
  have h1 := block_setCell (i := 1) h0 u1
  have h2 := block_setCell (i := 2) h1 u2
  have h3 := block_setCell (i := 3) h2 u3
  have h4 := block_setCell (i := 4) h3 u4
  have h5 := block_setCell (i := 5) h4 u5
  have h6 := block_setCell (i := 6) h5 u6
  have h7 := block_setCell (i := 7) h6 u7
  have h8 := block_setCell (i := 8) h7 u8
  have h9 := block_setCell (i := 9) h8 u9
  have h10 := block_setCell (i := 10) h9 u10
  refine ⟨by rw [h10]; simp, ?_⟩
  have t : ∀ (W : World) (i : Nat) (v : Value), Keeps (fun k => k = R) w W → Keeps (fun k => k = R) w (W.setCell ⟨R, i, none⟩ v) := fun W i v hW => hW.trans (Keeps.setCell (S := fun k => k = R) W ⟨R, i, none⟩ v rfl) (fun _ _ h => h)
  exact t _ _ _ (t _ _ _ (t _ _ _ (t _ _ _ (t _ _ _ (t _ _ _ (t _ _ _ (t _ _ _ (t _ _ _ (t _ _ _ (t _ _ _ (Keeps.refl _ w)))))))))))
theorem Ends.edge {l : List LTok} (h : Ends l) {k m at_ : Nat} {x : LIt} (hp : edgeP at_ l k = .good x m) : m < l.length ∧ k < m := by
  unfold edgeP at hp
  obtain ⟨n, k1, h1, hp⟩ := PR.bind_inv hp
  obtain ⟨_, k2, h2, hp⟩ := PR.bind_inv hp
  obtain ⟨g, k3, h3, hp⟩ := PR.bind_inv hp
  obtain ⟨xs, k4, h4, hp⟩ := PR.bind_inv hp
  cases hp
  have a := h.place h1
  have b := h.must h2 (by decide)
  have c := h.place h3
  have d := h.withP c.1 h4
  exact ⟨d.1, by omega⟩
theorem itemP_some {l : List LTok} {k : Nat} {so : Int} {tx : List UInt8} {nu : Int} {at_ : Nat} (h : l[k]? = some ⟨so, tx, nu, at_⟩) : itemP l k = (if so = 1 ∧ tx = actorW then actorP at_ l (k + 1) else if so = 1 ∧ tx = edgeW then edgeP at_ l (k + 1) else if so = 1 ∧ tx = inW then inP at_ l (k + 1) else if so = 1 ∧ tx = outW then outP at_ l (k + 1) else .bad k).bind fun x k1 => (mustP 3 [59] l k1).bind fun _ k2 => .good x k2 := by
  unfold itemP bodyP
  rw [h]
theorem ne_txt {T : ByteArray} {tx b : List UInt8} (h : T.toList = b ↔ tx = b) (hn : tx ≠ b) : (T.toList == b) = false := by
  cases hh : (T.toList == b) with
  | false => rfl
  | true => exact absurd (h.1 (by simpa using hh)) hn
theorem eq_txt {T : ByteArray} {tx b : List UInt8} (h : T.toList = b ↔ tx = b) (hn : tx = b) : (T.toList == b) = true := by simp [h.2 hn]
theorem ItS.fin {w W0 w' : World} {G X : Nat} (n : New w W0) (h : Keeps (fun b => b = G ∨ b = X) W0 w') (hX : w.heap.size ≤ X) : Keeps (fun b => b = G) w w' :=
  (Keeps.mono n (fun _ _ h => h.elim)).trans h (fun i hi hs => by rcases hs with hs | hs; exact hs; omega)
theorem ItS.here {w0 : World} {G X : Nat} {l : List LTok} {a : Option Addr} {c k : Nat} {cs : Array Value} {wr : World} (h : ItS w0 G X l a c k cs wr) : ItS wr G X l a c k cs wr := ⟨h.p, h.b, Keeps.refl _ _, h.ne, h.na⟩
theorem OwnI.base {w : World} {B B' : Nat} {a : Option Addr} {c : Nat} {xs : List Int} (h : OwnI w B a c xs) (hb : B' ≤ B) : OwnI w B' a c xs := ownsRow_rebase h (fun k hk => by have := (own_of_blk h (blk_of_own hk)).1; omega)
theorem OwnI.it {w w' : World} {B X : Nat} {a : Option Addr} {c : Nat} {xs : List Int} (h : OwnI w B a c xs) {cs : Array Value} {e : TypeId} (hb : w.heap[X]? = some (.cells cs e (0, 0))) (he : e ≠ 3) (k : Keeps (fun b => b = X) w w') : OwnI w' B a c xs :=
  own_oth h k (fun g hg => ⟨_, _, _, hg ▸ hb, he⟩)
set_option maxRecDepth 100000 in
set_option maxHeartbeats 8000000 in
theorem pitem_sort (w : World) (G : Nat) (l : List LTok) (a : Option Addr) (c k : Nat) (he : Ends l) (h : PAt w G l a c k) (so : Int) (tx : List UInt8) (nu : Int) (at_ : Nat) (hg : l[k]? = some ⟨so, tx, nu, at_⟩) (hs : so ≠ 1) :
    Calls Tryd.prog 30 #[.pointer (some ⟨G, 0, none⟩)] w (ItemEnd w G l a c (itemP l k)) := by
  have hk : k < l.length := (List.getElem?_eq_some_iff.1 hg).1
  have hle := h.le
  have hGw := h.lt
  have HOB : Hid (∀ g, blk a g → g < w.heap.size) := Lib.hid (fun g hg => h.old (by omega) hg)
  have HIP := Lib.hid (itemP_some hg)
  have HNX := Lib.hid (he.next hg)
  obtain ⟨res, hre⟩ : ∃ r, itemP l k = r := ⟨_, rfl⟩
  rw [hre]
  have HRES := Lib.hid hre
  clear hre
  obtain ⟨T, hT⟩ : ∃ T : ByteArray, (⟨tx.toArray⟩ : ByteArray) = T := ⟨_, rfl⟩
  have n0 : New w (w.alloc (.cells #[.int .u8 0, .string ⟨#[]⟩, .string ⟨#[]⟩, .slice none 0 0, .string ⟨#[]⟩, I 0, I 0, .string ⟨#[]⟩, I 0, I 0, I 0] ItT)) := (New.refl w).alloc _
  have hbR : (w.alloc (.cells #[.int .u8 0, .string ⟨#[]⟩, .string ⟨#[]⟩, .slice none 0 0, .string ⟨#[]⟩, I 0, I 0, .string ⟨#[]⟩, I 0, I 0, I 0] ItT)).heap[w.heap.size]? = some (.cells #[.int .u8 0, .string ⟨#[]⟩, .string ⟨#[]⟩, .slice none 0 0, .string ⟨#[]⟩, I 0, I 0, .string ⟨#[]⟩, I 0, I 0, I 0] ItT (0, 0)) := heap_alloc_new w _
  have hnx := pnext_any _ G l a c k (h.new n0) hk _ hg
  simp only [tokV, hT] at hnx
  have H := Lib.hid h
  have HBR := Lib.hid hbR
  have HN0 := Lib.hid n0
  have htx := fun b => sk_text tx b
  rw [hT] at htx
  have d1 : (so != 1) = true := by simpa using hs
  have HRW : Hid (itemP l k = .bad k) := Lib.hid (by rw [HIP.out, if_neg (fun h => hs h.1), if_neg (fun h => hs h.1), if_neg (fun h => hs h.1), if_neg (fun h => hs h.1)]; rfl)
  clear h hT hbR n0 htx hs hg
  go_enter Tryd.func30, Tryd.ntmps30
  go_wp2_with fail
  refine hnx.mono ?_
  rintro e w1 ⟨rfl, n1⟩
  have n2 : New w1 (w1.alloc (.cells #[.int .u8 so, .string T, I nu, I (at_ : Int)] 50)) := (New.refl w1).alloc _
  have hbF := tok_blk w1 (.int .u8 so) (.string T) (I nu) (I (at_ : Int))
  obtain ⟨p0, p1, p2, p3, -, hp⟩ := tok_get hbF
  have N2 := Lib.hid ((HN0.out.trans n1).trans n2)
  have hs1 : w.heap.size < w1.heap.size := by have := n1.size; simp at this; omega
  have hwr := pwrong_any _ G l a c k (H.out.new N2.out) hk
  clear n1 n2 hbF hnx p1 p2 p3
  go_wp2_with fail
  refine hwr.mono ?_
  rintro e w3 ⟨rfl, n3⟩
  go_wp2
  refine sk_panic rfl ?_
  rw [← HRES.out, HRW.out]
  exact ⟨rfl, KN (N2.out.trans n3)⟩
set_option maxRecDepth 100000 in
set_option maxHeartbeats 8000000 in
theorem pitem_other (w : World) (G : Nat) (l : List LTok) (a : Option Addr) (c k : Nat) (he : Ends l) (h : PAt w G l a c k) (tx : List UInt8) (nu : Int) (at_ : Nat) (hg : l[k]? = some ⟨1, tx, nu, at_⟩) (n_actor : tx ≠ actorW) (n_edge : tx ≠ edgeW) (n_in : tx ≠ inW) (n_out : tx ≠ outW) :
    Calls Tryd.prog 30 #[.pointer (some ⟨G, 0, none⟩)] w (ItemEnd w G l a c (itemP l k)) := by
  have hk : k < l.length := (List.getElem?_eq_some_iff.1 hg).1
  have hle := h.le
  have hGw := h.lt
  have HOB : Hid (∀ g, blk a g → g < w.heap.size) := Lib.hid (fun g hg => h.old (by omega) hg)
  have HIP := Lib.hid (itemP_some hg)
  have HNX := Lib.hid (he.next hg)
  obtain ⟨res, hre⟩ : ∃ r, itemP l k = r := ⟨_, rfl⟩
  rw [hre]
  have HRES := Lib.hid hre
  clear hre
  obtain ⟨T, hT⟩ : ∃ T : ByteArray, (⟨tx.toArray⟩ : ByteArray) = T := ⟨_, rfl⟩
  have n0 : New w (w.alloc (.cells #[.int .u8 0, .string ⟨#[]⟩, .string ⟨#[]⟩, .slice none 0 0, .string ⟨#[]⟩, I 0, I 0, .string ⟨#[]⟩, I 0, I 0, I 0] ItT)) := (New.refl w).alloc _
  have hbR : (w.alloc (.cells #[.int .u8 0, .string ⟨#[]⟩, .string ⟨#[]⟩, .slice none 0 0, .string ⟨#[]⟩, I 0, I 0, .string ⟨#[]⟩, I 0, I 0, I 0] ItT)).heap[w.heap.size]? = some (.cells #[.int .u8 0, .string ⟨#[]⟩, .string ⟨#[]⟩, .slice none 0 0, .string ⟨#[]⟩, I 0, I 0, .string ⟨#[]⟩, I 0, I 0, I 0] ItT (0, 0)) := heap_alloc_new w _
  have hnx := pnext_any _ G l a c k (h.new n0) hk _ hg
  simp only [tokV, hT] at hnx
  have H := Lib.hid h
  have HBR := Lib.hid hbR
  have HN0 := Lib.hid n0
  have htx := fun b => sk_text tx b
  rw [hT] at htx
  have t_actor := ne_txt (htx [97, 99, 116, 111, 114]) n_actor
  have t_edge := ne_txt (htx [101, 100, 103, 101]) n_edge
  have t_in := ne_txt (htx [105, 110]) n_in
  have t_out := ne_txt (htx [111, 117, 116]) n_out
  have d1 : ((1 : Int) != 1) = false := by decide
  have HRW : Hid (itemP l k = .bad k) := Lib.hid (by rw [HIP.out, if_neg (fun h => n_actor h.2), if_neg (fun h => n_edge h.2), if_neg (fun h => n_in h.2), if_neg (fun h => n_out h.2)]; rfl)
  clear h hT hbR n0 htx hg n_actor n_edge n_in n_out
  go_enter Tryd.func30, Tryd.ntmps30
  go_wp2_with fail
  refine hnx.mono ?_
  rintro e w1 ⟨rfl, n1⟩
  have n2 : New w1 (w1.alloc (.cells #[.int .u8 1, .string T, I nu, I (at_ : Int)] 50)) := (New.refl w1).alloc _
  have hbF := tok_blk w1 (.int .u8 1) (.string T) (I nu) (I (at_ : Int))
  obtain ⟨p0, p1, p2, p3, -, hp⟩ := tok_get hbF
  have N2 := Lib.hid ((HN0.out.trans n1).trans n2)
  have hs1 : w.heap.size < w1.heap.size := by have := n1.size; simp at this; omega
  have hIS : ItS ((w1.alloc (.cells #[.int .u8 1, .string T, I nu, I (at_ : Int)] 50)).alloc (.cells (zItC at_) ItT)) G (w1.heap.size + 1) l a c k (zItC at_) ((w1.alloc (.cells #[.int .u8 1, .string T, I nu, I (at_ : Int)] 50)).alloc (.cells (zItC at_) ItT)) :=
    ⟨H.out.new (N2.out.alloc _), by have := heap_alloc_new (w1.alloc (.cells #[.int .u8 1, .string T, I nu, I (at_ : Int)] 50)) (.cells (zItC at_) ItT); simpa using this, Keeps.refl _ _, by omega, fun h => by have := HOB.out _ h; omega⟩
  have hRb : ((w1.alloc (.cells #[.int .u8 1, .string T, I nu, I (at_ : Int)] 50)).alloc (.cells (zItC at_) ItT)).heap[w.heap.size]? = some (.cells #[.int .u8 0, .string ⟨#[]⟩, .string ⟨#[]⟩, .slice none 0 0, .string ⟨#[]⟩, I 0, I 0, .string ⟨#[]⟩, I 0, I 0, I 0] ItT (0, 0)) := Keeps.heap ((n1.trans n2).alloc _) HBR.out (fun h => h)
  have HRB := Lib.hid hRb
  have NW := Lib.hid (N2.out.alloc (.cells (zItC at_) ItT))
  have hXw : w.heap.size ≤ w1.heap.size + 1 := by omega
  clear hRb n1 n2 hbF hnx
  have hwr := pwrong_any _ G l a c k hIS.p hk
  clear hIS
  go_wp2_with fail
  refine hwr.mono ?_
  rintro e w3 ⟨rfl, n3⟩
  go_wp2
  refine sk_panic rfl ?_
  rw [← HRES.out, HRW.out]
  exact ⟨rfl, KN (NW.out.trans n3)⟩
set_option maxRecDepth 100000 in
set_option maxHeartbeats 8000000 in
theorem pitem_actor (w : World) (G : Nat) (l : List LTok) (a : Option Addr) (c k : Nat) (he : Ends l) (h : PAt w G l a c k) (tx : List UInt8) (nu : Int) (at_ : Nat) (hg : l[k]? = some ⟨1, tx, nu, at_⟩) (hw : tx = actorW) :
    Calls Tryd.prog 30 #[.pointer (some ⟨G, 0, none⟩)] w (ItemEnd w G l a c (itemP l k)) := by
  have hk : k < l.length := (List.getElem?_eq_some_iff.1 hg).1
  have hle := h.le
  have hGw := h.lt
  have HOB : Hid (∀ g, blk a g → g < w.heap.size) := Lib.hid (fun g hg => h.old (by omega) hg)
  have HIP := Lib.hid (itemP_some hg)
  have HNX := Lib.hid (he.next hg)
  obtain ⟨res, hre⟩ : ∃ r, itemP l k = r := ⟨_, rfl⟩
  rw [hre]
  have HRES := Lib.hid hre
  clear hre
  obtain ⟨T, hT⟩ : ∃ T : ByteArray, (⟨tx.toArray⟩ : ByteArray) = T := ⟨_, rfl⟩
  have n0 : New w (w.alloc (.cells #[.int .u8 0, .string ⟨#[]⟩, .string ⟨#[]⟩, .slice none 0 0, .string ⟨#[]⟩, I 0, I 0, .string ⟨#[]⟩, I 0, I 0, I 0] ItT)) := (New.refl w).alloc _
  have hbR : (w.alloc (.cells #[.int .u8 0, .string ⟨#[]⟩, .string ⟨#[]⟩, .slice none 0 0, .string ⟨#[]⟩, I 0, I 0, .string ⟨#[]⟩, I 0, I 0, I 0] ItT)).heap[w.heap.size]? = some (.cells #[.int .u8 0, .string ⟨#[]⟩, .string ⟨#[]⟩, .slice none 0 0, .string ⟨#[]⟩, I 0, I 0, .string ⟨#[]⟩, I 0, I 0, I 0] ItT (0, 0)) := heap_alloc_new w _
  have hnx := pnext_any _ G l a c k (h.new n0) hk _ hg
  simp only [tokV, hT] at hnx
  have H := Lib.hid h
  have HBR := Lib.hid hbR
  have HN0 := Lib.hid n0
  have htx := fun b => sk_text tx b
  rw [hT] at htx
  have t_actor := eq_txt (htx [97, 99, 116, 111, 114]) hw
  have d1 : ((1 : Int) != 1) = false := by decide
  have HRW : Hid (itemP l k = (actorP at_ l (k + 1)).bind fun x k1 => (mustP 3 [59] l k1).bind fun _ k2 => .good x k2) := Lib.hid (by rw [HIP.out, if_pos ⟨rfl, hw⟩])
  have hk1 : k + 1 < l.length := HNX.out (by show (1 : Int) ≠ 0; decide)
  clear h hT hbR n0 htx hg hw
  go_enter Tryd.func30, Tryd.ntmps30
  go_wp2_with fail
  refine hnx.mono ?_
  rintro e w1 ⟨rfl, n1⟩
  have n2 : New w1 (w1.alloc (.cells #[.int .u8 1, .string T, I nu, I (at_ : Int)] 50)) := (New.refl w1).alloc _
  have hbF := tok_blk w1 (.int .u8 1) (.string T) (I nu) (I (at_ : Int))
  obtain ⟨p0, p1, p2, p3, -, hp⟩ := tok_get hbF
  have N2 := Lib.hid ((HN0.out.trans n1).trans n2)
  have hs1 : w.heap.size < w1.heap.size := by have := n1.size; simp at this; omega
  have hIS : ItS ((w1.alloc (.cells #[.int .u8 1, .string T, I nu, I (at_ : Int)] 50)).alloc (.cells (zItC at_) ItT)) G (w1.heap.size + 1) l a c k (zItC at_) ((w1.alloc (.cells #[.int .u8 1, .string T, I nu, I (at_ : Int)] 50)).alloc (.cells (zItC at_) ItT)) :=
    ⟨H.out.new (N2.out.alloc _), by have := heap_alloc_new (w1.alloc (.cells #[.int .u8 1, .string T, I nu, I (at_ : Int)] 50)) (.cells (zItC at_) ItT); simpa using this, Keeps.refl _ _, by omega, fun h => by have := HOB.out _ h; omega⟩
  have hRb : ((w1.alloc (.cells #[.int .u8 1, .string T, I nu, I (at_ : Int)] 50)).alloc (.cells (zItC at_) ItT)).heap[w.heap.size]? = some (.cells #[.int .u8 0, .string ⟨#[]⟩, .string ⟨#[]⟩, .slice none 0 0, .string ⟨#[]⟩, I 0, I 0, .string ⟨#[]⟩, I 0, I 0, I 0] ItT (0, 0)) := Keeps.heap ((n1.trans n2).alloc _) HBR.out (fun h => h)
  have HRB := Lib.hid hRb
  have NW := Lib.hid (N2.out.alloc (.cells (zItC at_) ItT))
  have hXw : w.heap.size ≤ w1.heap.size + 1 := by omega
  clear hRb n1 n2 hbF hnx
  have hGX : G ≠ w1.heap.size + 1 := by omega
  have hXG : w1.heap.size + 1 ≠ G := by omega
  have hGF : G ≠ w1.heap.size := by omega
  have hFG : w1.heap.size ≠ G := by omega
  obtain ⟨-, c1, z1, hG⟩ := hIS.p.cells
  have hw1 : IntKind.i64.wrap ((k : Int) + 1) = (k : Int) + 1 := IntWalk.i64_in _ (by omega)
  have e4 : ((k + 1 : Nat) : Int) = (k : Int) + 1 := by omega
  obtain ⟨⟨y0, -, -, -, -, -, -, -, -, -, -⟩, z, hX⟩ := it_get hIS.b
  have x0 := z 0
  clear z
  have hq0 := (hIS.go (k + 1)).set 0 (.int .u8 1)
  rw [e4] at hq0
  simp only [zItC, List.setIfInBounds_toArray, List.set_cons_zero, List.set_cons_succ] at hq0
  have H1 := Lib.hid hq0
  clear hq0 hIS e4
  have hcon := ptake_any _ G l a c (k + 1) 1 H1.out.p hk1
  go_wp2_with fail
  refine hcon.mono ?_
  intro e w2 hq
  clear hcon
  rcases hq.inv with ⟨j, hr, rfl, kb⟩ | ⟨t, k2, hr, rfl, hpp, kk⟩
  · clear hq
    go_wp2
    refine sk_panic rfl ?_
    rw [← HRES.out, HRW.out]; unfold actorP; rw [hr, PR.bind_bad, PR.bind_bad]
    exact ⟨rfl, ItS.fin NW.out (H1.out.bad kb) hXw⟩
  have HR1 := Lib.hid hr
  have hk2 := (he.take hr (by decide)).1
  have hcall := H1.out.call hpp kk
  clear hq hr hpp kk H1
  have hb := hcall.b
  obtain ⟨so1, tx1, nu1, ta1⟩ := t
  obtain ⟨T1, hT1⟩ : ∃ T : ByteArray, (⟨tx1.toArray⟩ : ByteArray) = T := ⟨_, rfl⟩
  simp only [tokV, hT1]
  have HT1 := Lib.hid hT1
  have f1 := fun W => (tok_fld (.int .u8 so1) (.string T1) (I nu1) (I (ta1 : Int)) W).2.1
  clear hT1
  obtain ⟨⟨-, y1, -, -, -, -, -, -, -, -, -⟩, z, hX⟩ := it_get hb
  have x1 := z 1
  clear z
  have hq0 := hcall.set 1 (.string T1)
  (try simp only [zItC, List.setIfInBounds_toArray, List.set_cons_zero, List.set_cons_succ] at hq0)
  have H2 := Lib.hid hq0
  clear hq0 hcall hb
  have hcon := pmark_any _ G l a c k2 [61] H2.out.p hk2
  go_wp2_with fail
  refine hcon.mono ?_
  intro e w3 hq
  clear hcon
  rcases hq.inv with ⟨j, hr, rfl, kb⟩ | ⟨u, k3, hr, rfl, hpp, kk⟩
  · clear hq
    go_wp2
    refine sk_panic rfl ?_
    rw [← HRES.out, HRW.out]; unfold actorP; rw [HR1.out, PR.bind_good, hr, PR.bind_bad, PR.bind_bad]
    exact ⟨rfl, ItS.fin NW.out (H2.out.bad kb) hXw⟩
  have HR2 := Lib.hid hr
  have hk3 := (he.must hr (by decide)).1
  have hcall := H2.out.call hpp kk
  clear hq hr hpp kk H2
  have hb := hcall.b
  have hq0 := hcall
  (try simp only [zItC, List.setIfInBounds_toArray, List.set_cons_zero, List.set_cons_succ] at hq0)
  have H3 := Lib.hid hq0
  clear hq0 hcall hb
  have hcon := ptake_any _ G l a c k3 1 H3.out.p hk3
  go_wp2_with fail
  refine hcon.mono ?_
  intro e w4 hq
  clear hcon
  rcases hq.inv with ⟨j, hr, rfl, kb⟩ | ⟨t, k4, hr, rfl, hpp, kk⟩
  · clear hq
    go_wp2
    refine sk_panic rfl ?_
    rw [← HRES.out, HRW.out]; unfold actorP; rw [HR1.out, PR.bind_good, HR2.out, PR.bind_good, hr, PR.bind_bad, PR.bind_bad]
    exact ⟨rfl, ItS.fin NW.out (H3.out.bad kb) hXw⟩
  have HR3 := Lib.hid hr
  have hk4 := (he.take hr (by decide)).1
  have hcall := H3.out.call hpp kk
  clear hq hr hpp kk H3
  have hb := hcall.b
  obtain ⟨so3, tx3, nu3, ta3⟩ := t
  obtain ⟨T3, hT3⟩ : ∃ T : ByteArray, (⟨tx3.toArray⟩ : ByteArray) = T := ⟨_, rfl⟩
  simp only [tokV, hT3]
  have HT3 := Lib.hid hT3
  have f1 := fun W => (tok_fld (.int .u8 so3) (.string T3) (I nu3) (I (ta3 : Int)) W).2.1
  clear hT3
  obtain ⟨⟨-, -, y2, -, -, -, -, -, -, -, -⟩, z, hX⟩ := it_get hb
  have x2 := z 2
  clear z
  have hq0 := hcall.set 2 (.string T3)
  (try simp only [zItC, List.setIfInBounds_toArray, List.set_cons_zero, List.set_cons_succ] at hq0)
  have H4 := Lib.hid hq0
  clear hq0 hcall hb
  have hcon := pnums_any _ G l a c k4 he H4.out.p hk4
  go_wp2_with fail
  refine hcon.mono ?_
  rintro e w5 ⟨ao, co, rfl, ho, hpp, kk⟩
  clear hcon
  have hlx := he.nums hk4
  obtain ⟨L, hL⟩ : ∃ L, numsL l k4 = L := ⟨_, rfl⟩
  rw [hL] at ho hpp hlx ⊢
  have HR4 : Hid (numsP l k4 = .good L (k4 + L.length)) := Lib.hid (by unfold numsP; rw [hL])
  have HOX := Lib.hid (ho.base (B' := w.heap.size) (by have hz := H4.out.ks.size; simp at hz ⊢; omega))
  obtain ⟨N, hN⟩ : ∃ N, L.length = N := ⟨_, rfl⟩
  have HN := Lib.hid hN
  have hcall := H4.out.call hpp kk
  rw [hN] at hcall hlx
  rw [hN]
  clear hL ho hpp kk hN H4
  have hb := hcall.b
  obtain ⟨⟨-, -, -, y3, -, -, -, -, -, -, -⟩, z, hX⟩ := it_get hb
  have x3 := z 3
  clear z
  have hq0 := hcall.set 3 (.slice ao N co)
  have hox := HOX.out.it hb (by decide) (Keeps.setCell _ ⟨w1.heap.size + 1, 3, none⟩ (.slice ao N co) rfl)
  clear HOX
  have HOX := Lib.hid hox
  clear hox
  (try simp only [zItC, List.setIfInBounds_toArray, List.set_cons_zero, List.set_cons_succ] at hq0)
  have H5 := Lib.hid hq0
  clear hq0 hcall hb
  have hcon := pmark_any _ G l a c (k4 + N) [59] H5.out.p hlx
  go_wp2_with fail
  refine hcon.mono ?_
  intro e w6 hq
  clear hcon
  rcases hq.inv with ⟨j, hr, rfl, kb⟩ | ⟨u, k6, hr, rfl, hpp, kk⟩
  · clear hq
    go_wp2
    refine sk_panic rfl ?_
    rw [← HRES.out, HRW.out]; unfold actorP; rw [HR1.out, PR.bind_good, HR2.out, PR.bind_good, HR3.out, PR.bind_good, HR4.out, PR.bind_good, PR.bind_good, HN.out, hr, PR.bind_bad]
    exact ⟨rfl, ItS.fin NW.out (H5.out.bad kb) hXw⟩
  have HR5 := Lib.hid hr
  have hk6 := (he.must hr (by decide)).1
  have hcall := H5.out.call hpp kk
  have hox : OwnI _ w.heap.size ao co _ := own_oth HOX.out kk (fun g hg => ⟨_, _, _, hg ▸ H5.out.p.bk, by decide⟩)
  clear HOX
  have HOX := Lib.hid hox
  clear hox
  clear hq hr hpp kk H5
  have hb := hcall.b
  have hq0 := hcall
  (try simp only [zItC, List.setIfInBounds_toArray, List.set_cons_zero, List.set_cons_succ] at hq0)
  have H6 := Lib.hid hq0
  clear hq0 hcall hb
  have hb := H6.out.b
  obtain ⟨⟨y0, y1, y2, y3, y4, y5, y6, y7, y8, y9, y10⟩, -, hX⟩ := it_get hb
  have hbR := H6.out.ks.heap HRB.out (fun h => by rcases h with h | h <;> omega)
  obtain ⟨⟨r0, r1, r2, r3, r4, r5, r6, r7, r8, r9, r10⟩, z, hR⟩ := it_get hbR
  have x0 := z 0
  have x1 := z 1
  have x2 := z 2
  have x3 := z 3
  have x4 := z 4
  have x5 := z 5
  have x6 := z 6
  have x7 := z 7
  have x8 := z 8
  have x9 := z 9
  have x10 := z 10
  have hst := it_set11 hbR (.int .u8 1) (.string T1) (.string T3) (.slice ao N co) (.string ⟨#[]⟩) (I 0) (I 0) (.string ⟨#[]⟩) (I 0) (I 0) (I (at_ : Int))
  have hPf := H6.out.p.keeps hst.2 (fun h => by omega) (fun g hg h => by have := HOB.out g hg; omega)
  have hKf := (ItS.fin NW.out H6.out.ks hXw).trans hst.2 (fun i hi h => by omega)
  have hOf := HOX.out.it hbR (by decide) hst.2
  have hbf := hst.1
  have HFF := Lib.hid hbf
  have HFP := Lib.hid (And.intro hPf (And.intro hKf hOf))
  clear hst hPf hKf hbf hb hbR z H6 hOf
  go_wp2_with fail
  have hbf := HFF.out
  have hff := HFP.out
  clear HFF HFP y0 y1 y2 y3 y4 y5 y6 y7 y8 y9 y10 r0 r1 r2 r3 r4 r5 r6 r7 r8 r9 r10 x0 x1 x2 x3 x4 x5 x6 x7 x8 x9 x10
  generalize (((((((((((w6.setCell ⟨w.heap.size, 0, none⟩ (.int .u8 1)).setCell ⟨w.heap.size, 1, none⟩ (.string T1)).setCell ⟨w.heap.size, 2, none⟩ (.string T3)).setCell ⟨w.heap.size, 3, none⟩ (.slice ao N co)).setCell ⟨w.heap.size, 4, none⟩ (.string ⟨#[]⟩)).setCell ⟨w.heap.size, 5, none⟩ (I 0)).setCell ⟨w.heap.size, 6, none⟩ (I 0)).setCell ⟨w.heap.size, 7, none⟩ (.string ⟨#[]⟩)).setCell ⟨w.heap.size, 8, none⟩ (I 0)).setCell ⟨w.heap.size, 9, none⟩ (I 0)).setCell ⟨w.heap.size, 10, none⟩ (I (at_ : Int))) = Wf at hbf hff ⊢
  obtain ⟨⟨r0, r1, r2, r3, r4, r5, r6, r7, r8, r9, r10⟩, -, -⟩ := it_get hbf
  refine bodyPost_ret (v := .agg #[.int .u8 1, .string T1, .string T3, .slice ao N co, .string ⟨#[]⟩, I 0, I 0, .string ⟨#[]⟩, I 0, I 0, I (at_ : Int)]) (by simp [results, Tryd.results30, go_sem, r0, r1, r2, r3, r4, r5, r6, r7, r8, r9, r10]) rfl ?_
  rw [← HRES.out, HRW.out]; unfold actorP; rw [HR1.out, PR.bind_good, HR2.out, PR.bind_good, HR3.out, PR.bind_good, HR4.out, PR.bind_good, PR.bind_good, HN.out, HR5.out, PR.bind_good]
  obtain rfl := HT1.out
  obtain rfl := HT3.out
  obtain rfl := HN.out
  have h9 : OwnI Wf w.heap.size ao co L := hff.2.2
  have h8 := hff.1
  have h7 := hff.2.1
  clear hff
  simp only [ItemEnd]
  exact ⟨ao, co, rfl, h9, h8, h7⟩
set_option maxRecDepth 100000 in
set_option maxHeartbeats 8000000 in
theorem pitem_in (w : World) (G : Nat) (l : List LTok) (a : Option Addr) (c k : Nat) (he : Ends l) (h : PAt w G l a c k) (tx : List UInt8) (nu : Int) (at_ : Nat) (hg : l[k]? = some ⟨1, tx, nu, at_⟩) (hw : tx = inW) :
    Calls Tryd.prog 30 #[.pointer (some ⟨G, 0, none⟩)] w (ItemEnd w G l a c (itemP l k)) := by
  have hk : k < l.length := (List.getElem?_eq_some_iff.1 hg).1
  have hle := h.le
  have hGw := h.lt
  have HOB : Hid (∀ g, blk a g → g < w.heap.size) := Lib.hid (fun g hg => h.old (by omega) hg)
  have HIP := Lib.hid (itemP_some hg)
  have HNX := Lib.hid (he.next hg)
  obtain ⟨res, hre⟩ : ∃ r, itemP l k = r := ⟨_, rfl⟩
  rw [hre]
  have HRES := Lib.hid hre
  clear hre
  obtain ⟨T, hT⟩ : ∃ T : ByteArray, (⟨tx.toArray⟩ : ByteArray) = T := ⟨_, rfl⟩
  have n0 : New w (w.alloc (.cells #[.int .u8 0, .string ⟨#[]⟩, .string ⟨#[]⟩, .slice none 0 0, .string ⟨#[]⟩, I 0, I 0, .string ⟨#[]⟩, I 0, I 0, I 0] ItT)) := (New.refl w).alloc _
  have hbR : (w.alloc (.cells #[.int .u8 0, .string ⟨#[]⟩, .string ⟨#[]⟩, .slice none 0 0, .string ⟨#[]⟩, I 0, I 0, .string ⟨#[]⟩, I 0, I 0, I 0] ItT)).heap[w.heap.size]? = some (.cells #[.int .u8 0, .string ⟨#[]⟩, .string ⟨#[]⟩, .slice none 0 0, .string ⟨#[]⟩, I 0, I 0, .string ⟨#[]⟩, I 0, I 0, I 0] ItT (0, 0)) := heap_alloc_new w _
  have hnx := pnext_any _ G l a c k (h.new n0) hk _ hg
  simp only [tokV, hT] at hnx
  have H := Lib.hid h
  have HBR := Lib.hid hbR
  have HN0 := Lib.hid n0
  have htx := fun b => sk_text tx b
  rw [hT] at htx
  have t_actor := ne_txt (htx [97, 99, 116, 111, 114]) (by rw [hw]; decide)
  have t_edge := ne_txt (htx [101, 100, 103, 101]) (by rw [hw]; decide)
  have t_in := eq_txt (htx [105, 110]) hw
  have d1 : ((1 : Int) != 1) = false := by decide
  have HRW : Hid (itemP l k = (inP at_ l (k + 1)).bind fun x k1 => (mustP 3 [59] l k1).bind fun _ k2 => .good x k2) := Lib.hid (by rw [HIP.out, if_neg (fun h => absurd (hw.symm.trans h.2) (by decide)), if_neg (fun h => absurd (hw.symm.trans h.2) (by decide)), if_pos ⟨rfl, hw⟩])
  have hk1 : k + 1 < l.length := HNX.out (by show (1 : Int) ≠ 0; decide)
  clear h hT hbR n0 htx hg hw
  go_enter Tryd.func30, Tryd.ntmps30
  go_wp2_with fail
  refine hnx.mono ?_
  rintro e w1 ⟨rfl, n1⟩
  have n2 : New w1 (w1.alloc (.cells #[.int .u8 1, .string T, I nu, I (at_ : Int)] 50)) := (New.refl w1).alloc _
  have hbF := tok_blk w1 (.int .u8 1) (.string T) (I nu) (I (at_ : Int))
  obtain ⟨p0, p1, p2, p3, -, hp⟩ := tok_get hbF
  have N2 := Lib.hid ((HN0.out.trans n1).trans n2)
  have hs1 : w.heap.size < w1.heap.size := by have := n1.size; simp at this; omega
  have hIS : ItS ((w1.alloc (.cells #[.int .u8 1, .string T, I nu, I (at_ : Int)] 50)).alloc (.cells (zItC at_) ItT)) G (w1.heap.size + 1) l a c k (zItC at_) ((w1.alloc (.cells #[.int .u8 1, .string T, I nu, I (at_ : Int)] 50)).alloc (.cells (zItC at_) ItT)) :=
    ⟨H.out.new (N2.out.alloc _), by have := heap_alloc_new (w1.alloc (.cells #[.int .u8 1, .string T, I nu, I (at_ : Int)] 50)) (.cells (zItC at_) ItT); simpa using this, Keeps.refl _ _, by omega, fun h => by have := HOB.out _ h; omega⟩
  have hRb : ((w1.alloc (.cells #[.int .u8 1, .string T, I nu, I (at_ : Int)] 50)).alloc (.cells (zItC at_) ItT)).heap[w.heap.size]? = some (.cells #[.int .u8 0, .string ⟨#[]⟩, .string ⟨#[]⟩, .slice none 0 0, .string ⟨#[]⟩, I 0, I 0, .string ⟨#[]⟩, I 0, I 0, I 0] ItT (0, 0)) := Keeps.heap ((n1.trans n2).alloc _) HBR.out (fun h => h)
  have HRB := Lib.hid hRb
  have NW := Lib.hid (N2.out.alloc (.cells (zItC at_) ItT))
  have hXw : w.heap.size ≤ w1.heap.size + 1 := by omega
  clear hRb n1 n2 hbF hnx
  have hGX : G ≠ w1.heap.size + 1 := by omega
  have hXG : w1.heap.size + 1 ≠ G := by omega
  have hGF : G ≠ w1.heap.size := by omega
  have hFG : w1.heap.size ≠ G := by omega
  obtain ⟨-, c1, z1, hG⟩ := hIS.p.cells
  have hw1 : IntKind.i64.wrap ((k : Int) + 1) = (k : Int) + 1 := IntWalk.i64_in _ (by omega)
  have e4 : ((k + 1 : Nat) : Int) = (k : Int) + 1 := by omega
  obtain ⟨⟨y0, -, -, -, -, -, -, -, -, -, -⟩, z, hX⟩ := it_get hIS.b
  have x0 := z 0
  clear z
  have hq0 := (hIS.go (k + 1)).set 0 (.int .u8 3)
  rw [e4] at hq0
  simp only [zItC, List.setIfInBounds_toArray, List.set_cons_zero, List.set_cons_succ] at hq0
  have H1 := Lib.hid hq0
  clear hq0 hIS e4
  have hcon := ptake_any _ G l a c (k + 1) 1 H1.out.p hk1
  go_wp2_with fail
  refine hcon.mono ?_
  intro e w2 hq
  clear hcon
  rcases hq.inv with ⟨j, hr, rfl, kb⟩ | ⟨t, k2, hr, rfl, hpp, kk⟩
  · clear hq
    go_wp2
    refine sk_panic rfl ?_
    rw [← HRES.out, HRW.out]; unfold inP; rw [hr, PR.bind_bad, PR.bind_bad]
    exact ⟨rfl, ItS.fin NW.out (H1.out.bad kb) hXw⟩
  have HR1 := Lib.hid hr
  have hk2 := (he.take hr (by decide)).1
  have hcall := H1.out.call hpp kk
  clear hq hr hpp kk H1
  have hb := hcall.b
  obtain ⟨so1, tx1, nu1, ta1⟩ := t
  obtain ⟨T1, hT1⟩ : ∃ T : ByteArray, (⟨tx1.toArray⟩ : ByteArray) = T := ⟨_, rfl⟩
  simp only [tokV, hT1]
  have HT1 := Lib.hid hT1
  have f1 := fun W => (tok_fld (.int .u8 so1) (.string T1) (I nu1) (I (ta1 : Int)) W).2.1
  clear hT1
  obtain ⟨⟨-, y1, -, -, -, -, -, -, -, -, -⟩, z, hX⟩ := it_get hb
  have x1 := z 1
  clear z
  have hq0 := hcall.set 1 (.string T1)
  (try simp only [zItC, List.setIfInBounds_toArray, List.set_cons_zero, List.set_cons_succ] at hq0)
  have H2 := Lib.hid hq0
  clear hq0 hcall hb
  have hcon := pmark_any _ G l a c k2 [45, 62] H2.out.p hk2
  go_wp2_with fail
  refine hcon.mono ?_
  intro e w3 hq
  clear hcon
  rcases hq.inv with ⟨j, hr, rfl, kb⟩ | ⟨u, k3, hr, rfl, hpp, kk⟩
  · clear hq
    go_wp2
    refine sk_panic rfl ?_
    rw [← HRES.out, HRW.out]; unfold inP; rw [HR1.out, PR.bind_good, hr, PR.bind_bad, PR.bind_bad]
    exact ⟨rfl, ItS.fin NW.out (H2.out.bad kb) hXw⟩
  have HR2 := Lib.hid hr
  have hk3 := (he.must hr (by decide)).1
  have hcall := H2.out.call hpp kk
  clear hq hr hpp kk H2
  have hb := hcall.b
  have hq0 := hcall
  (try simp only [zItC, List.setIfInBounds_toArray, List.set_cons_zero, List.set_cons_succ] at hq0)
  have H3 := Lib.hid hq0
  clear hq0 hcall hb
  have hcon := pplace_any _ G l a c k3 he H3.out.p hk3
  go_wp2_with fail
  refine hcon.mono ?_
  intro e w4 hq
  clear hcon
  rcases hq.inv with ⟨j, hr, rfl, kb⟩ | ⟨t, k4, hr, rfl, hpp, kk⟩
  · clear hq
    go_wp2
    refine sk_panic rfl ?_
    rw [← HRES.out, HRW.out]; unfold inP; rw [HR1.out, PR.bind_good, HR2.out, PR.bind_good, hr, PR.bind_bad, PR.bind_bad]
    exact ⟨rfl, ItS.fin NW.out (H3.out.bad kb) hXw⟩
  have HR3 := Lib.hid hr
  have hk4 := (he.place hr).1
  have hcall := H3.out.call hpp kk
  clear hq hr hpp kk H3
  have hb := hcall.b
  obtain ⟨pn3, pp3, pa3⟩ := t
  obtain ⟨⟨-, -, -, -, -, -, -, y7, y8, y9, -⟩, z, hX⟩ := it_get hb
  have x7 := z 7
  have x8 := z 8
  have x9 := z 9
  clear z
  have hq0 := ((hcall.set 7 (.string ⟨pn3.toArray⟩)).set 8 (I pp3)).set 9 (I (pa3 : Int))
  (try simp only [zItC, List.setIfInBounds_toArray, List.set_cons_zero, List.set_cons_succ] at hq0)
  have H4 := Lib.hid hq0
  clear hq0 hcall hb
  have hcon := pmark_any _ G l a c k4 [59] H4.out.p hk4
  go_wp2_with fail
  refine hcon.mono ?_
  intro e w5 hq
  clear hcon
  rcases hq.inv with ⟨j, hr, rfl, kb⟩ | ⟨u, k5, hr, rfl, hpp, kk⟩
  · clear hq
    go_wp2
    refine sk_panic rfl ?_
    rw [← HRES.out, HRW.out]; unfold inP; rw [HR1.out, PR.bind_good, HR2.out, PR.bind_good, HR3.out, PR.bind_good, PR.bind_good, hr, PR.bind_bad]
    exact ⟨rfl, ItS.fin NW.out (H4.out.bad kb) hXw⟩
  have HR4 := Lib.hid hr
  have hk5 := (he.must hr (by decide)).1
  have hcall := H4.out.call hpp kk
  clear hq hr hpp kk H4
  have hb := hcall.b
  have hq0 := hcall
  (try simp only [zItC, List.setIfInBounds_toArray, List.set_cons_zero, List.set_cons_succ] at hq0)
  have H5 := Lib.hid hq0
  clear hq0 hcall hb
  have hb := H5.out.b
  obtain ⟨⟨y0, y1, y2, y3, y4, y5, y6, y7, y8, y9, y10⟩, -, hX⟩ := it_get hb
  have hbR := H5.out.ks.heap HRB.out (fun h => by rcases h with h | h <;> omega)
  obtain ⟨⟨r0, r1, r2, r3, r4, r5, r6, r7, r8, r9, r10⟩, z, hR⟩ := it_get hbR
  have x0 := z 0
  have x1 := z 1
  have x2 := z 2
  have x3 := z 3
  have x4 := z 4
  have x5 := z 5
  have x6 := z 6
  have x7 := z 7
  have x8 := z 8
  have x9 := z 9
  have x10 := z 10
  have hst := it_set11 hbR (.int .u8 3) (.string T1) (.string ⟨#[]⟩) (.slice none 0 0) (.string ⟨#[]⟩) (I 0) (I 0) (.string ⟨pn3.toArray⟩) (I pp3) (I (pa3 : Int)) (I (at_ : Int))
  have hPf := H5.out.p.keeps hst.2 (fun h => by omega) (fun g hg h => by have := HOB.out g hg; omega)
  have hKf := (ItS.fin NW.out H5.out.ks hXw).trans hst.2 (fun i hi h => by omega)

  have hbf := hst.1
  have HFF := Lib.hid hbf
  have HFP := Lib.hid (And.intro hPf hKf)
  clear hst hPf hKf hbf hb hbR z H5
  go_wp2_with fail
  have hbf := HFF.out
  have hff := HFP.out
  clear HFF HFP y0 y1 y2 y3 y4 y5 y6 y7 y8 y9 y10 r0 r1 r2 r3 r4 r5 r6 r7 r8 r9 r10 x0 x1 x2 x3 x4 x5 x6 x7 x8 x9 x10
  generalize (((((((((((w5.setCell ⟨w.heap.size, 0, none⟩ (.int .u8 3)).setCell ⟨w.heap.size, 1, none⟩ (.string T1)).setCell ⟨w.heap.size, 2, none⟩ (.string ⟨#[]⟩)).setCell ⟨w.heap.size, 3, none⟩ (.slice none 0 0)).setCell ⟨w.heap.size, 4, none⟩ (.string ⟨#[]⟩)).setCell ⟨w.heap.size, 5, none⟩ (I 0)).setCell ⟨w.heap.size, 6, none⟩ (I 0)).setCell ⟨w.heap.size, 7, none⟩ (.string ⟨pn3.toArray⟩)).setCell ⟨w.heap.size, 8, none⟩ (I pp3)).setCell ⟨w.heap.size, 9, none⟩ (I (pa3 : Int))).setCell ⟨w.heap.size, 10, none⟩ (I (at_ : Int))) = Wf at hbf hff ⊢
  obtain ⟨⟨r0, r1, r2, r3, r4, r5, r6, r7, r8, r9, r10⟩, -, -⟩ := it_get hbf
  refine bodyPost_ret (v := .agg #[.int .u8 3, .string T1, .string ⟨#[]⟩, .slice none 0 0, .string ⟨#[]⟩, I 0, I 0, .string ⟨pn3.toArray⟩, I pp3, I (pa3 : Int), I (at_ : Int)]) (by simp [results, Tryd.results30, go_sem, r0, r1, r2, r3, r4, r5, r6, r7, r8, r9, r10]) rfl ?_
  rw [← HRES.out, HRW.out]; unfold inP; rw [HR1.out, PR.bind_good, HR2.out, PR.bind_good, HR3.out, PR.bind_good, PR.bind_good, HR4.out, PR.bind_good]
  obtain rfl := HT1.out
  exact ⟨none, 0, rfl, World.ownsRow_nil _ _ _ _, hff.1, hff.2⟩
set_option maxRecDepth 100000 in
set_option maxHeartbeats 8000000 in
theorem pitem_out (w : World) (G : Nat) (l : List LTok) (a : Option Addr) (c k : Nat) (he : Ends l) (h : PAt w G l a c k) (tx : List UInt8) (nu : Int) (at_ : Nat) (hg : l[k]? = some ⟨1, tx, nu, at_⟩) (hw : tx = outW) :
    Calls Tryd.prog 30 #[.pointer (some ⟨G, 0, none⟩)] w (ItemEnd w G l a c (itemP l k)) := by
  have hk : k < l.length := (List.getElem?_eq_some_iff.1 hg).1
  have hle := h.le
  have hGw := h.lt
  have HOB : Hid (∀ g, blk a g → g < w.heap.size) := Lib.hid (fun g hg => h.old (by omega) hg)
  have HIP := Lib.hid (itemP_some hg)
  have HNX := Lib.hid (he.next hg)
  obtain ⟨res, hre⟩ : ∃ r, itemP l k = r := ⟨_, rfl⟩
  rw [hre]
  have HRES := Lib.hid hre
  clear hre
  obtain ⟨T, hT⟩ : ∃ T : ByteArray, (⟨tx.toArray⟩ : ByteArray) = T := ⟨_, rfl⟩
  have n0 : New w (w.alloc (.cells #[.int .u8 0, .string ⟨#[]⟩, .string ⟨#[]⟩, .slice none 0 0, .string ⟨#[]⟩, I 0, I 0, .string ⟨#[]⟩, I 0, I 0, I 0] ItT)) := (New.refl w).alloc _
  have hbR : (w.alloc (.cells #[.int .u8 0, .string ⟨#[]⟩, .string ⟨#[]⟩, .slice none 0 0, .string ⟨#[]⟩, I 0, I 0, .string ⟨#[]⟩, I 0, I 0, I 0] ItT)).heap[w.heap.size]? = some (.cells #[.int .u8 0, .string ⟨#[]⟩, .string ⟨#[]⟩, .slice none 0 0, .string ⟨#[]⟩, I 0, I 0, .string ⟨#[]⟩, I 0, I 0, I 0] ItT (0, 0)) := heap_alloc_new w _
  have hnx := pnext_any _ G l a c k (h.new n0) hk _ hg
  simp only [tokV, hT] at hnx
  have H := Lib.hid h
  have HBR := Lib.hid hbR
  have HN0 := Lib.hid n0
  have htx := fun b => sk_text tx b
  rw [hT] at htx
  have t_actor := ne_txt (htx [97, 99, 116, 111, 114]) (by rw [hw]; decide)
  have t_edge := ne_txt (htx [101, 100, 103, 101]) (by rw [hw]; decide)
  have t_in := ne_txt (htx [105, 110]) (by rw [hw]; decide)
  have t_out := eq_txt (htx [111, 117, 116]) hw
  have d1 : ((1 : Int) != 1) = false := by decide
  have HRW : Hid (itemP l k = (outP at_ l (k + 1)).bind fun x k1 => (mustP 3 [59] l k1).bind fun _ k2 => .good x k2) := Lib.hid (by rw [HIP.out, if_neg (fun h => absurd (hw.symm.trans h.2) (by decide)), if_neg (fun h => absurd (hw.symm.trans h.2) (by decide)), if_neg (fun h => absurd (hw.symm.trans h.2) (by decide)), if_pos ⟨rfl, hw⟩])
  have hk1 : k + 1 < l.length := HNX.out (by show (1 : Int) ≠ 0; decide)
  clear h hT hbR n0 htx hg hw
  go_enter Tryd.func30, Tryd.ntmps30
  go_wp2_with fail
  refine hnx.mono ?_
  rintro e w1 ⟨rfl, n1⟩
  have n2 : New w1 (w1.alloc (.cells #[.int .u8 1, .string T, I nu, I (at_ : Int)] 50)) := (New.refl w1).alloc _
  have hbF := tok_blk w1 (.int .u8 1) (.string T) (I nu) (I (at_ : Int))
  obtain ⟨p0, p1, p2, p3, -, hp⟩ := tok_get hbF
  have N2 := Lib.hid ((HN0.out.trans n1).trans n2)
  have hs1 : w.heap.size < w1.heap.size := by have := n1.size; simp at this; omega
  have hIS : ItS ((w1.alloc (.cells #[.int .u8 1, .string T, I nu, I (at_ : Int)] 50)).alloc (.cells (zItC at_) ItT)) G (w1.heap.size + 1) l a c k (zItC at_) ((w1.alloc (.cells #[.int .u8 1, .string T, I nu, I (at_ : Int)] 50)).alloc (.cells (zItC at_) ItT)) :=
    ⟨H.out.new (N2.out.alloc _), by have := heap_alloc_new (w1.alloc (.cells #[.int .u8 1, .string T, I nu, I (at_ : Int)] 50)) (.cells (zItC at_) ItT); simpa using this, Keeps.refl _ _, by omega, fun h => by have := HOB.out _ h; omega⟩
  have hRb : ((w1.alloc (.cells #[.int .u8 1, .string T, I nu, I (at_ : Int)] 50)).alloc (.cells (zItC at_) ItT)).heap[w.heap.size]? = some (.cells #[.int .u8 0, .string ⟨#[]⟩, .string ⟨#[]⟩, .slice none 0 0, .string ⟨#[]⟩, I 0, I 0, .string ⟨#[]⟩, I 0, I 0, I 0] ItT (0, 0)) := Keeps.heap ((n1.trans n2).alloc _) HBR.out (fun h => h)
  have HRB := Lib.hid hRb
  have NW := Lib.hid (N2.out.alloc (.cells (zItC at_) ItT))
  have hXw : w.heap.size ≤ w1.heap.size + 1 := by omega
  clear hRb n1 n2 hbF hnx
  have hGX : G ≠ w1.heap.size + 1 := by omega
  have hXG : w1.heap.size + 1 ≠ G := by omega
  have hGF : G ≠ w1.heap.size := by omega
  have hFG : w1.heap.size ≠ G := by omega
  obtain ⟨-, c1, z1, hG⟩ := hIS.p.cells
  have hw1 : IntKind.i64.wrap ((k : Int) + 1) = (k : Int) + 1 := IntWalk.i64_in _ (by omega)
  have e4 : ((k + 1 : Nat) : Int) = (k : Int) + 1 := by omega
  obtain ⟨⟨y0, -, -, -, -, -, -, -, -, -, -⟩, z, hX⟩ := it_get hIS.b
  have x0 := z 0
  clear z
  have hq0 := (hIS.go (k + 1)).set 0 (.int .u8 4)
  rw [e4] at hq0
  simp only [zItC, List.setIfInBounds_toArray, List.set_cons_zero, List.set_cons_succ] at hq0
  have H1 := Lib.hid hq0
  clear hq0 hIS e4
  have hcon := pplace_any _ G l a c (k + 1) he H1.out.p hk1
  go_wp2_with fail
  refine hcon.mono ?_
  intro e w2 hq
  clear hcon
  rcases hq.inv with ⟨j, hr, rfl, kb⟩ | ⟨t, k2, hr, rfl, hpp, kk⟩
  · clear hq
    go_wp2
    refine sk_panic rfl ?_
    rw [← HRES.out, HRW.out]; unfold outP; rw [hr, PR.bind_bad, PR.bind_bad]
    exact ⟨rfl, ItS.fin NW.out (H1.out.bad kb) hXw⟩
  have HR1 := Lib.hid hr
  have hk2 := (he.place hr).1
  have hcall := H1.out.call hpp kk
  clear hq hr hpp kk H1
  have hb := hcall.b
  obtain ⟨pn1, pp1, pa1⟩ := t
  obtain ⟨⟨-, -, -, -, y4, y5, y6, -, -, -, -⟩, z, hX⟩ := it_get hb
  have x4 := z 4
  have x5 := z 5
  have x6 := z 6
  clear z
  have hq0 := ((hcall.set 4 (.string ⟨pn1.toArray⟩)).set 5 (I pp1)).set 6 (I (pa1 : Int))
  (try simp only [zItC, List.setIfInBounds_toArray, List.set_cons_zero, List.set_cons_succ] at hq0)
  have H2 := Lib.hid hq0
  clear hq0 hcall hb
  have hcon := pmark_any _ G l a c k2 [45, 62] H2.out.p hk2
  go_wp2_with fail
  refine hcon.mono ?_
  intro e w3 hq
  clear hcon
  rcases hq.inv with ⟨j, hr, rfl, kb⟩ | ⟨u, k3, hr, rfl, hpp, kk⟩
  · clear hq
    go_wp2
    refine sk_panic rfl ?_
    rw [← HRES.out, HRW.out]; unfold outP; rw [HR1.out, PR.bind_good, hr, PR.bind_bad, PR.bind_bad]
    exact ⟨rfl, ItS.fin NW.out (H2.out.bad kb) hXw⟩
  have HR2 := Lib.hid hr
  have hk3 := (he.must hr (by decide)).1
  have hcall := H2.out.call hpp kk
  clear hq hr hpp kk H2
  have hb := hcall.b
  have hq0 := hcall
  (try simp only [zItC, List.setIfInBounds_toArray, List.set_cons_zero, List.set_cons_succ] at hq0)
  have H3 := Lib.hid hq0
  clear hq0 hcall hb
  have hcon := ptake_any _ G l a c k3 1 H3.out.p hk3
  go_wp2_with fail
  refine hcon.mono ?_
  intro e w4 hq
  clear hcon
  rcases hq.inv with ⟨j, hr, rfl, kb⟩ | ⟨t, k4, hr, rfl, hpp, kk⟩
  · clear hq
    go_wp2
    refine sk_panic rfl ?_
    rw [← HRES.out, HRW.out]; unfold outP; rw [HR1.out, PR.bind_good, HR2.out, PR.bind_good, hr, PR.bind_bad, PR.bind_bad]
    exact ⟨rfl, ItS.fin NW.out (H3.out.bad kb) hXw⟩
  have HR3 := Lib.hid hr
  have hk4 := (he.take hr (by decide)).1
  have hcall := H3.out.call hpp kk
  clear hq hr hpp kk H3
  have hb := hcall.b
  obtain ⟨so3, tx3, nu3, ta3⟩ := t
  obtain ⟨T3, hT3⟩ : ∃ T : ByteArray, (⟨tx3.toArray⟩ : ByteArray) = T := ⟨_, rfl⟩
  simp only [tokV, hT3]
  have HT3 := Lib.hid hT3
  have f1 := fun W => (tok_fld (.int .u8 so3) (.string T3) (I nu3) (I (ta3 : Int)) W).2.1
  clear hT3
  obtain ⟨⟨-, y1, -, -, -, -, -, -, -, -, -⟩, z, hX⟩ := it_get hb
  have x1 := z 1
  clear z
  have hq0 := hcall.set 1 (.string T3)
  (try simp only [zItC, List.setIfInBounds_toArray, List.set_cons_zero, List.set_cons_succ] at hq0)
  have H4 := Lib.hid hq0
  clear hq0 hcall hb
  have hcon := pmark_any _ G l a c k4 [59] H4.out.p hk4
  go_wp2_with fail
  refine hcon.mono ?_
  intro e w5 hq
  clear hcon
  rcases hq.inv with ⟨j, hr, rfl, kb⟩ | ⟨u, k5, hr, rfl, hpp, kk⟩
  · clear hq
    go_wp2
    refine sk_panic rfl ?_
    rw [← HRES.out, HRW.out]; unfold outP; rw [HR1.out, PR.bind_good, HR2.out, PR.bind_good, HR3.out, PR.bind_good, PR.bind_good, hr, PR.bind_bad]
    exact ⟨rfl, ItS.fin NW.out (H4.out.bad kb) hXw⟩
  have HR4 := Lib.hid hr
  have hk5 := (he.must hr (by decide)).1
  have hcall := H4.out.call hpp kk
  clear hq hr hpp kk H4
  have hb := hcall.b
  have hq0 := hcall
  (try simp only [zItC, List.setIfInBounds_toArray, List.set_cons_zero, List.set_cons_succ] at hq0)
  have H5 := Lib.hid hq0
  clear hq0 hcall hb
  have hb := H5.out.b
  obtain ⟨⟨y0, y1, y2, y3, y4, y5, y6, y7, y8, y9, y10⟩, -, hX⟩ := it_get hb
  have hbR := H5.out.ks.heap HRB.out (fun h => by rcases h with h | h <;> omega)
  obtain ⟨⟨r0, r1, r2, r3, r4, r5, r6, r7, r8, r9, r10⟩, z, hR⟩ := it_get hbR
  have x0 := z 0
  have x1 := z 1
  have x2 := z 2
  have x3 := z 3
  have x4 := z 4
  have x5 := z 5
  have x6 := z 6
  have x7 := z 7
  have x8 := z 8
  have x9 := z 9
  have x10 := z 10
  have hst := it_set11 hbR (.int .u8 4) (.string T3) (.string ⟨#[]⟩) (.slice none 0 0) (.string ⟨pn1.toArray⟩) (I pp1) (I (pa1 : Int)) (.string ⟨#[]⟩) (I 0) (I 0) (I (at_ : Int))
  have hPf := H5.out.p.keeps hst.2 (fun h => by omega) (fun g hg h => by have := HOB.out g hg; omega)
  have hKf := (ItS.fin NW.out H5.out.ks hXw).trans hst.2 (fun i hi h => by omega)

  have hbf := hst.1
  have HFF := Lib.hid hbf
  have HFP := Lib.hid (And.intro hPf hKf)
  clear hst hPf hKf hbf hb hbR z H5
  go_wp2_with fail
  have hbf := HFF.out
  have hff := HFP.out
  clear HFF HFP y0 y1 y2 y3 y4 y5 y6 y7 y8 y9 y10 r0 r1 r2 r3 r4 r5 r6 r7 r8 r9 r10 x0 x1 x2 x3 x4 x5 x6 x7 x8 x9 x10
  generalize (((((((((((w5.setCell ⟨w.heap.size, 0, none⟩ (.int .u8 4)).setCell ⟨w.heap.size, 1, none⟩ (.string T3)).setCell ⟨w.heap.size, 2, none⟩ (.string ⟨#[]⟩)).setCell ⟨w.heap.size, 3, none⟩ (.slice none 0 0)).setCell ⟨w.heap.size, 4, none⟩ (.string ⟨pn1.toArray⟩)).setCell ⟨w.heap.size, 5, none⟩ (I pp1)).setCell ⟨w.heap.size, 6, none⟩ (I (pa1 : Int))).setCell ⟨w.heap.size, 7, none⟩ (.string ⟨#[]⟩)).setCell ⟨w.heap.size, 8, none⟩ (I 0)).setCell ⟨w.heap.size, 9, none⟩ (I 0)).setCell ⟨w.heap.size, 10, none⟩ (I (at_ : Int))) = Wf at hbf hff ⊢
  obtain ⟨⟨r0, r1, r2, r3, r4, r5, r6, r7, r8, r9, r10⟩, -, -⟩ := it_get hbf
  refine bodyPost_ret (v := .agg #[.int .u8 4, .string T3, .string ⟨#[]⟩, .slice none 0 0, .string ⟨pn1.toArray⟩, I pp1, I (pa1 : Int), .string ⟨#[]⟩, I 0, I 0, I (at_ : Int)]) (by simp [results, Tryd.results30, go_sem, r0, r1, r2, r3, r4, r5, r6, r7, r8, r9, r10]) rfl ?_
  rw [← HRES.out, HRW.out]; unfold outP; rw [HR1.out, PR.bind_good, HR2.out, PR.bind_good, HR3.out, PR.bind_good, PR.bind_good, HR4.out, PR.bind_good]
  obtain rfl := HT3.out
  exact ⟨none, 0, rfl, World.ownsRow_nil _ _ _ _, hff.1, hff.2⟩
set_option maxRecDepth 100000 in
set_option maxHeartbeats 8000000 in
theorem pitem_edge (w : World) (G : Nat) (l : List LTok) (a : Option Addr) (c k : Nat) (he : Ends l) (h : PAt w G l a c k) (tx : List UInt8) (nu : Int) (at_ : Nat) (hg : l[k]? = some ⟨1, tx, nu, at_⟩) (hw : tx = edgeW) :
    Calls Tryd.prog 30 #[.pointer (some ⟨G, 0, none⟩)] w (ItemEnd w G l a c (itemP l k)) := by
  have hk : k < l.length := (List.getElem?_eq_some_iff.1 hg).1
  have hle := h.le
  have hGw := h.lt
  have HOB : Hid (∀ g, blk a g → g < w.heap.size) := Lib.hid (fun g hg => h.old (by omega) hg)
  have HIP := Lib.hid (itemP_some hg)
  have HNX := Lib.hid (he.next hg)
  obtain ⟨res, hre⟩ : ∃ r, itemP l k = r := ⟨_, rfl⟩
  rw [hre]
  have HRES := Lib.hid hre
  clear hre
  obtain ⟨T, hT⟩ : ∃ T : ByteArray, (⟨tx.toArray⟩ : ByteArray) = T := ⟨_, rfl⟩
  have n0 : New w (w.alloc (.cells #[.int .u8 0, .string ⟨#[]⟩, .string ⟨#[]⟩, .slice none 0 0, .string ⟨#[]⟩, I 0, I 0, .string ⟨#[]⟩, I 0, I 0, I 0] ItT)) := (New.refl w).alloc _
  have hbR : (w.alloc (.cells #[.int .u8 0, .string ⟨#[]⟩, .string ⟨#[]⟩, .slice none 0 0, .string ⟨#[]⟩, I 0, I 0, .string ⟨#[]⟩, I 0, I 0, I 0] ItT)).heap[w.heap.size]? = some (.cells #[.int .u8 0, .string ⟨#[]⟩, .string ⟨#[]⟩, .slice none 0 0, .string ⟨#[]⟩, I 0, I 0, .string ⟨#[]⟩, I 0, I 0, I 0] ItT (0, 0)) := heap_alloc_new w _
  have hnx := pnext_any _ G l a c k (h.new n0) hk _ hg
  simp only [tokV, hT] at hnx
  have H := Lib.hid h
  have HBR := Lib.hid hbR
  have HN0 := Lib.hid n0
  have htx := fun b => sk_text tx b
  rw [hT] at htx
  have t_actor := ne_txt (htx [97, 99, 116, 111, 114]) (by rw [hw]; decide)
  have t_edge := eq_txt (htx [101, 100, 103, 101]) hw
  have d1 : ((1 : Int) != 1) = false := by decide
  have HRW : Hid (itemP l k = (edgeP at_ l (k + 1)).bind fun x k1 => (mustP 3 [59] l k1).bind fun _ k2 => .good x k2) := Lib.hid (by rw [HIP.out, if_neg (fun h => absurd (hw.symm.trans h.2) (by decide)), if_pos ⟨rfl, hw⟩])
  have hk1 : k + 1 < l.length := HNX.out (by show (1 : Int) ≠ 0; decide)
  clear h hT hbR n0 htx hg hw
  go_enter Tryd.func30, Tryd.ntmps30
  go_wp2_with fail
  refine hnx.mono ?_
  rintro e w1 ⟨rfl, n1⟩
  have n2 : New w1 (w1.alloc (.cells #[.int .u8 1, .string T, I nu, I (at_ : Int)] 50)) := (New.refl w1).alloc _
  have hbF := tok_blk w1 (.int .u8 1) (.string T) (I nu) (I (at_ : Int))
  obtain ⟨p0, p1, p2, p3, -, hp⟩ := tok_get hbF
  have N2 := Lib.hid ((HN0.out.trans n1).trans n2)
  have hs1 : w.heap.size < w1.heap.size := by have := n1.size; simp at this; omega
  have hIS : ItS ((w1.alloc (.cells #[.int .u8 1, .string T, I nu, I (at_ : Int)] 50)).alloc (.cells (zItC at_) ItT)) G (w1.heap.size + 1) l a c k (zItC at_) ((w1.alloc (.cells #[.int .u8 1, .string T, I nu, I (at_ : Int)] 50)).alloc (.cells (zItC at_) ItT)) :=
    ⟨H.out.new (N2.out.alloc _), by have := heap_alloc_new (w1.alloc (.cells #[.int .u8 1, .string T, I nu, I (at_ : Int)] 50)) (.cells (zItC at_) ItT); simpa using this, Keeps.refl _ _, by omega, fun h => by have := HOB.out _ h; omega⟩
  have hRb : ((w1.alloc (.cells #[.int .u8 1, .string T, I nu, I (at_ : Int)] 50)).alloc (.cells (zItC at_) ItT)).heap[w.heap.size]? = some (.cells #[.int .u8 0, .string ⟨#[]⟩, .string ⟨#[]⟩, .slice none 0 0, .string ⟨#[]⟩, I 0, I 0, .string ⟨#[]⟩, I 0, I 0, I 0] ItT (0, 0)) := Keeps.heap ((n1.trans n2).alloc _) HBR.out (fun h => h)
  have HRB := Lib.hid hRb
  have NW := Lib.hid (N2.out.alloc (.cells (zItC at_) ItT))
  have hXw : w.heap.size ≤ w1.heap.size + 1 := by omega
  clear hRb n1 n2 hbF hnx
  have hGX : G ≠ w1.heap.size + 1 := by omega
  have hXG : w1.heap.size + 1 ≠ G := by omega
  have hGF : G ≠ w1.heap.size := by omega
  have hFG : w1.heap.size ≠ G := by omega
  obtain ⟨-, c1, z1, hG⟩ := hIS.p.cells
  have hw1 : IntKind.i64.wrap ((k : Int) + 1) = (k : Int) + 1 := IntWalk.i64_in _ (by omega)
  have e4 : ((k + 1 : Nat) : Int) = (k : Int) + 1 := by omega

  have hq0 := hIS.go (k + 1)
  rw [e4] at hq0
  simp only [zItC, List.setIfInBounds_toArray, List.set_cons_zero, List.set_cons_succ] at hq0
  have H1 := Lib.hid hq0
  clear hq0 hIS e4
  have hcon := pedge_any _ G (w1.heap.size + 1) l a c (k + 1) at_ he H1.out.here hk1
  go_wp2_with fail
  refine hcon.mono ?_
  intro e w2 hq
  clear hcon
  unfold EdgeEnd at hq
  cases hr : edgeP at_ l (k + 1) with
  | bad j =>
    rw [hr] at hq
    obtain ⟨rfl, kb⟩ := hq
    go_wp2
    refine sk_panic rfl ?_
    rw [← HRES.out, HRW.out, hr, PR.bind_bad]
    exact ⟨rfl, ItS.fin NW.out (H1.out.ks.trans kb (fun _ _ h => h)) hXw⟩
  | good x k2 =>
  rw [hr] at hq
  obtain ⟨rfl, ao, co, hIS2, ho⟩ := hq
  have HR1 := Lib.hid hr
  have hk2 : k2 < l.length := (he.edge hr).1
  have HOX := Lib.hid (ho.base (B' := w.heap.size) (by have hz := H1.out.ks.size; simp at hz ⊢; omega))
  obtain ⟨xk, xn, xt, xs, ⟨fn, fp, fa⟩, ⟨tn, tp, ta⟩, xa⟩ := x
  have H2 : Hid (ItS _ G (w1.heap.size + 1) l a c k2 #[.int .u8 xk, .string ⟨xn.toArray⟩, .string ⟨xt.toArray⟩, .slice ao xs.length co, .string ⟨fn.toArray⟩, I fp, I (fa : Int), .string ⟨tn.toArray⟩, I tp, I (ta : Int), I (xa : Int)] w2) := Lib.hid (ItS.tr H1.out.ks hIS2)
  clear hr hIS2 ho H1
  have hcon := pmark_any _ G l a c k2 [59] H2.out.p hk2
  go_wp2_with fail
  refine hcon.mono ?_
  intro e w3 hq
  clear hcon
  rcases hq.inv with ⟨j, hr, rfl, kb⟩ | ⟨u, k3, hr, rfl, hpp, kk⟩
  · clear hq
    go_wp2
    refine sk_panic rfl ?_
    rw [← HRES.out, HRW.out]; rw [HR1.out, PR.bind_good, hr, PR.bind_bad]
    exact ⟨rfl, ItS.fin NW.out (H2.out.bad kb) hXw⟩
  have HR2 := Lib.hid hr
  have hk3 := (he.must hr (by decide)).1
  have hcall := H2.out.call hpp kk
  have hox : OwnI _ w.heap.size ao co _ := own_oth HOX.out kk (fun g hg => ⟨_, _, _, hg ▸ H2.out.p.bk, by decide⟩)
  clear HOX
  have HOX := Lib.hid hox
  clear hox
  clear hq hr hpp kk H2
  have hb := hcall.b
  have hq0 := hcall
  (try simp only [zItC, List.setIfInBounds_toArray, List.set_cons_zero, List.set_cons_succ] at hq0)
  have H3 := Lib.hid hq0
  clear hq0 hcall hb
  have hb := H3.out.b
  obtain ⟨⟨y0, y1, y2, y3, y4, y5, y6, y7, y8, y9, y10⟩, -, hX⟩ := it_get hb
  have hbR := H3.out.ks.heap HRB.out (fun h => by rcases h with h | h <;> omega)
  obtain ⟨⟨r0, r1, r2, r3, r4, r5, r6, r7, r8, r9, r10⟩, z, hR⟩ := it_get hbR
  have x0 := z 0
  have x1 := z 1
  have x2 := z 2
  have x3 := z 3
  have x4 := z 4
  have x5 := z 5
  have x6 := z 6
  have x7 := z 7
  have x8 := z 8
  have x9 := z 9
  have x10 := z 10
  have hst := it_set11 hbR (.int .u8 xk) (.string ⟨xn.toArray⟩) (.string ⟨xt.toArray⟩) (.slice ao xs.length co) (.string ⟨fn.toArray⟩) (I fp) (I (fa : Int)) (.string ⟨tn.toArray⟩) (I tp) (I (ta : Int)) (I (xa : Int))
  have hPf := H3.out.p.keeps hst.2 (fun h => by omega) (fun g hg h => by have := HOB.out g hg; omega)
  have hKf := (ItS.fin NW.out H3.out.ks hXw).trans hst.2 (fun i hi h => by omega)
  have hOf := HOX.out.it hbR (by decide) hst.2
  have hbf := hst.1
  have HFF := Lib.hid hbf
  have HFP := Lib.hid (And.intro hPf (And.intro hKf hOf))
  clear hst hPf hKf hbf hb hbR z H3 hOf
  go_wp2_with fail
  have hbf := HFF.out
  have hff := HFP.out
  clear HFF HFP y0 y1 y2 y3 y4 y5 y6 y7 y8 y9 y10 r0 r1 r2 r3 r4 r5 r6 r7 r8 r9 r10 x0 x1 x2 x3 x4 x5 x6 x7 x8 x9 x10
  generalize (((((((((((w3.setCell ⟨w.heap.size, 0, none⟩ (.int .u8 xk)).setCell ⟨w.heap.size, 1, none⟩ (.string ⟨xn.toArray⟩)).setCell ⟨w.heap.size, 2, none⟩ (.string ⟨xt.toArray⟩)).setCell ⟨w.heap.size, 3, none⟩ (.slice ao xs.length co)).setCell ⟨w.heap.size, 4, none⟩ (.string ⟨fn.toArray⟩)).setCell ⟨w.heap.size, 5, none⟩ (I fp)).setCell ⟨w.heap.size, 6, none⟩ (I (fa : Int))).setCell ⟨w.heap.size, 7, none⟩ (.string ⟨tn.toArray⟩)).setCell ⟨w.heap.size, 8, none⟩ (I tp)).setCell ⟨w.heap.size, 9, none⟩ (I (ta : Int))).setCell ⟨w.heap.size, 10, none⟩ (I (xa : Int))) = Wf at hbf hff ⊢
  obtain ⟨⟨r0, r1, r2, r3, r4, r5, r6, r7, r8, r9, r10⟩, -, -⟩ := it_get hbf
  refine bodyPost_ret (v := .agg #[.int .u8 xk, .string ⟨xn.toArray⟩, .string ⟨xt.toArray⟩, .slice ao xs.length co, .string ⟨fn.toArray⟩, I fp, I (fa : Int), .string ⟨tn.toArray⟩, I tp, I (ta : Int), I (xa : Int)]) (by simp [results, Tryd.results30, go_sem, r0, r1, r2, r3, r4, r5, r6, r7, r8, r9, r10]) rfl ?_
  rw [← HRES.out, HRW.out]; rw [HR1.out, PR.bind_good, HR2.out, PR.bind_good]
  have h9 : OwnI Wf w.heap.size ao co xs := hff.2.2
  have h8 := hff.1
  have h7 := hff.2.1
  clear hff
  simp only [ItemEnd]
  exact ⟨ao, co, rfl, h9, h8, h7⟩
theorem pitem_any (w : World) (G : Nat) (l : List LTok) (a : Option Addr) (c k : Nat) (he : Ends l) (h : PAt w G l a c k) (hk : k < l.length) :
    Calls Tryd.prog 30 #[.pointer (some ⟨G, 0, none⟩)] w (ItemEnd w G l a c (itemP l k)) := by
  have hg := List.getElem?_eq_getElem hk
  obtain ⟨t, ht⟩ : ∃ t, l[k] = t := ⟨_, rfl⟩
  rw [ht] at hg
  obtain ⟨so, tx, nu, at_⟩ := t
  by_cases hs : so = 1
  · subst hs
    by_cases h1 : tx = actorW
    · exact pitem_actor w G l a c k he h tx nu at_ hg h1
    · by_cases h2 : tx = edgeW
      · exact pitem_edge w G l a c k he h tx nu at_ hg h2
      · by_cases h3 : tx = inW
        · exact pitem_in w G l a c k he h tx nu at_ hg h3
        · by_cases h4 : tx = outW
          · exact pitem_out w G l a c k he h tx nu at_ hg h4
          · exact pitem_other w G l a c k he h tx nu at_ hg h1 h2 h3 h4
  · exact pitem_sort w G l a c k he h so tx nu at_ hg hs
end Go.Proofs.YtohalcbhckahmaaDoor
