/-
  Layer 8: LentGraph.
-/
import Derived.Test.YtpljnapglbmdlaaGsF
import Derived.Test.YtpljnapglbmdlaaGrZ
namespace Go.Proofs.Ytpljnapglbmdlaa
open Go Go.RowKit Go.Joins
set_option linter.all false

abbrev qL (g : Gr) (a : Option Addr) (c : Nat) (l : List GAct) (b : Option Addr) (d : Nat) (m : List GEdge) : Gr := ⟨g.name, a, c, l, b, d, m, none, 0, [], none, 0, []⟩
theorem bare_snoc {α : Type} {f : α → α} {l m : List α} {k : Nat} {x : α} (h : l.map f = (m.take k).map f) (hk : k < m.length) (hx : f x = f m[k]) : (l ++ [x]).map f = (m.take (k + 1)).map f := by
  rw [List.map_append, h, List.take_succ_eq_append_getElem hk, List.map_append]; simp [hx]
theorem bare_take_len {α : Type} {f : α → α} {l m : List α} {k : Nat} (h : l.map f = (m.take k).map f) (hk : k ≤ m.length) : l.length = k := by
  have := congrArg List.length h
  simp only [List.length_map, List.length_take] at this
  omega
/-- A graph that is lent. -/
def LentG (w : World) (g : Gr) (e : Ending) (w' : World) : Prop := ∃ (a : Option Addr) (c : Nat) (l : List GAct) (b : Option Addr) (d : Nat) (m : List GEdge) (ia : Option Addr) (ic : Nat) (oa : Option Addr) (oc : Nat), e = .returned (.agg #[.string g.name, .slice a g.acts.length c, .slice b g.edges.length d, .slice ia g.ins.length ic, .slice oa g.outs.length oc]) ∧
      GrOwn w' w.heap.size (qL g a c (l ++ [mkAct]) b d (m ++ [mkEdge])) ∧ l.map GAct.bare = g.acts.map GAct.bare ∧ m.map GEdge.bare = g.edges.map GEdge.bare ∧ (∀ x ∈ l, LtB w' x.a x.c x.xs) ∧ (∀ x ∈ m, LtB w' x.a x.c x.xs) ∧
      w'.ownsRow w.heap.size 60 3 (.slice ia (g.ins.length + 1) ic) (g.ins.length + 1) ((g.ins ++ [mkPort]).flatMap portCells) ∧ w'.ownsRow w.heap.size 60 3 (.slice oa (g.outs.length + 1) oc) (g.outs.length + 1) ((g.outs ++ [mkPort]).flatMap portCells) ∧ New w w'
set_option maxRecDepth 100000 in
set_option maxHeartbeats 32000000 in
theorem lentGraph_any (w : World) (g : Gr) (hg : GrAt w g) (hf : GFew g) :
    Calls Try.prog 10 #[g.v] w (LentG w g) := by
  have HG := Lib.hid hg
  have hfn := hf.n
  have FAX := Lib.hid hf.ax
  have FEX := Lib.hid hf.ex
  clear hg hf
  obtain ⟨it1, hit1, ha0, ha1, ha2⟩ := info_parts infoAct
  obtain ⟨it2, hit2, he0, he1, he2⟩ := info_parts infoEdge
  obtain ⟨aA, hA⟩ : ∃ a, g.aa = a := ⟨_, rfl⟩
  obtain ⟨aE, hE⟩ : ∃ a, g.ea = a := ⟨_, rfl⟩
  simp only [Gr.v, Gr.cs]
  rw [hA, hE]
  have HA := Lib.hid hA
  have HE := Lib.hid hE
  clear hA hE
  obtain ⟨post, hpost⟩ : ∃ post : Ending → World → Prop, LentG w g = post := ⟨_, rfl⟩
  rw [hpost]
  have HP := Lib.hid hpost
  clear hpost
  go_enter Try.func10, Try.ntmps10
  go_wp2_with fail
  have na : New w (w.alloc (.cells #[.string g.name, .slice aA g.acts.length g.ac, .slice aE g.edges.length g.ec, .slice g.ia g.ins.length g.ic, .slice g.oa g.outs.length g.oc] 26)) := (New.refl w).alloc _
  have ha : (w.alloc (.cells #[.string g.name, .slice aA g.acts.length g.ac, .slice aE g.edges.length g.ec, .slice g.ia g.ins.length g.ic, .slice g.oa g.outs.length g.oc] 26)).heap[w.heap.size]? = some (.cells #[.string g.name, .slice aA g.acts.length g.ac, .slice aE g.edges.length g.ec, .slice g.ia g.ins.length g.ic, .slice g.oa g.outs.length g.oc] 26 (0, 0)) := heap_alloc_new w _
  have sa : (w.alloc (.cells #[.string g.name, .slice aA g.acts.length g.ac, .slice aE g.edges.length g.ec, .slice g.ia g.ins.length g.ic, .slice g.oa g.outs.length g.oc] 26)).heap.size = w.heap.size + 1 := size_alloc _ _
  generalize (w.alloc (.cells #[.string g.name, .slice aA g.acts.length g.ac, .slice aE g.edges.length g.ec, .slice g.ia g.ins.length g.ic, .slice g.oa g.outs.length g.oc] 26)) = wa at na ha sa ⊢
  have nb : New wa (wa.alloc (.cells #[.string ⟨#[]⟩, .slice none 0 0, .slice none 0 0, .slice none 0 0, .slice none 0 0] 26)) := (New.refl wa).alloc _
  have hb : (wa.alloc (.cells #[.string ⟨#[]⟩, .slice none 0 0, .slice none 0 0, .slice none 0 0, .slice none 0 0] 26)).heap[wa.heap.size]? = some (.cells #[.string ⟨#[]⟩, .slice none 0 0, .slice none 0 0, .slice none 0 0, .slice none 0 0] 26 (0, 0)) := heap_alloc_new wa _
  rw [sa] at hb
  have sb : (wa.alloc (.cells #[.string ⟨#[]⟩, .slice none 0 0, .slice none 0 0, .slice none 0 0, .slice none 0 0] 26)).heap.size = w.heap.size + 1 + 1 := by rw [size_alloc, sa]
  generalize (wa.alloc (.cells #[.string ⟨#[]⟩, .slice none 0 0, .slice none 0 0, .slice none 0 0, .slice none 0 0] 26)) = wb at nb hb sb ⊢
  have nc : New wb (wb.alloc (.cells #[.string g.name, .slice none 0 0, .slice none 0 0, .slice none 0 0, .slice none 0 0] 26)) := (New.refl wb).alloc _
  have hc : (wb.alloc (.cells #[.string g.name, .slice none 0 0, .slice none 0 0, .slice none 0 0, .slice none 0 0] 26)).heap[wb.heap.size]? = some (.cells #[.string g.name, .slice none 0 0, .slice none 0 0, .slice none 0 0, .slice none 0 0] 26 (0, 0)) := heap_alloc_new wb _
  have hPlo : w.heap.size + 1 < wb.heap.size := by omega
  generalize (wb.alloc (.cells #[.string g.name, .slice none 0 0, .slice none 0 0, .slice none 0 0, .slice none 0 0] 26)) = wc at nc hc ⊢
  rw [sb] at hc hPlo
  generalize w.heap.size + 1 + 1 = P at hc hPlo ⊢
  have HX := Lib.hid (Keeps.heap nc (Keeps.heap nb ha (fun h => h)) (fun h => h))
  have hgc : Hid (wc.heap[w.heap.size]? = some (.cells g.cs 26 (0, 0))) := Lib.hid (by rw [Gr.cs, HA.out, HE.out]; exact HX.out)
  have HD : Hid (LSt w g P (qL g none 0 [] none 0 []) 0 0 wc) := Lib.hid ⟨⟨World.ownsRow_nil _ _ _ _, World.ownsRow_nil _ _ _ _, World.ownsRow_nil _ _ _ _, World.ownsRow_nil _ _ _ _, (fun x hx => by cases hx), (fun x hx => by cases hx), List.Pairwise.nil, (fun k hk => by obtain ⟨y, hy, _⟩ := hk; cases hy)⟩, hc, (fun x hx => by cases hx), (fun x hx => by cases hx), (na.trans nb).trans nc, hgc.out, Keeps.heap nc hb (fun h => h), hPlo⟩
  clear na nb nc ha hb hc sa sb hgc HX
  go_wp2_with fail
  go_loopw [4] (fun i wr => ∃ (k : Nat) (a : Option Addr) (c : Nat) (l : List GAct), k ≤ g.acts.length ∧ i = .int .i64 k ∧ Hid (LSt w g P (qL g a c l none 0 []) k 0 wr ∧ l.map GAct.bare = (g.acts.take k).map GAct.bare ∧ ∀ x ∈ l, LtB wr x.a x.c x.xs)) (fun i _ => g.acts.length - (intOf i).toNat)
  case atStart => exact ⟨0, none, 0, [], by omega, rfl, Lib.hid ⟨HD.out, rfl, fun x hx => by cases hx⟩⟩
  case round =>
    clear HD
    obtain ⟨k, a, c, l, hk, rfl, HR⟩ := hrel
    obtain ⟨g0, g1, g2, g3, g4, hGl⟩ := gr_cells HR.out.1.hg
    rw [HA.out] at g1
    by_cases hk1 : k < g.acts.length
    · have hkI : (k : Int) < (g.acts.length : Int) := by omega
      have hkd : decide (k < g.acts.length) = true := decide_eq_true hk1
      obtain ⟨b, off, hab, q0, q1, q2⟩ := acts_at (HG.out.new HR.out.1.nw).sa hk1
      have hbw : b < wr.heap.size := World.block_lt_of_cell? wr _ q0
      have hxl := FAX.out _ (List.getElem_mem hk1)
      have HXS := Lib.hid (fun W (n : New wr W) => ((HG.out.new HR.out.1.nw).ax _ (List.getElem_mem hk1)).new n)
      have HBS : Hid (∀ y : GAct, y.bare = g.acts[k].bare → (l ++ [y]).map GAct.bare = (g.acts.take (k + 1)).map GAct.bare) := Lib.hid (fun y hy => bare_snoc HR.out.2.1 hk1 hy)
      have HLL := Lib.hid (bare_take_len HR.out.2.1 (by omega))
      have e : aA = some ⟨b, off, none⟩ := HA.out.symm.trans hab
      subst e
      clear hab
      generalize g.acts[k] = x at q0 q1 q2 hxl HXS HBS
      go_wp2_with fail
      have kb : New wr (wr.alloc (.cells #[.string x.name, .int .u8 x.tag, .slice x.a x.xs.length x.c] 55)) := (New.refl wr).alloc _
      have hby : (wr.alloc (.cells #[.string x.name, .int .u8 x.tag, .slice x.a x.xs.length x.c] 55)).heap[wr.heap.size]? = some (.cells #[.string x.name, .int .u8 x.tag, .slice x.a x.xs.length x.c] 55 (0, 0)) := heap_alloc_new wr _
      generalize (wr.alloc (.cells #[.string x.name, .int .u8 x.tag, .slice x.a x.xs.length x.c] 55)) = w1 at kb hby ⊢
      obtain ⟨Y, hY⟩ : ∃ Y, Y = wr.heap.size := ⟨_, rfl⟩
      rw [← hY] at hby ⊢
      have HYY := Lib.hid hY
      clear hY
      refine (lent_any x.a x.c x.xs w1 (HXS.out _ kb) (by omega)).mono ?_
      rintro e w2 ⟨gb, rfl, hgb, hblk, k2⟩
      have hY2 := Keeps.heap k2 hby (fun h => h)
      obtain ⟨y0, y1, y2, hYl⟩ := act_cells hY2
      have yf : w2.frozen? ⟨Y, 2, none⟩ = false := unfrozen_of_block hY2 2
      have hYg : ¬ gb = Y := by have := (Array.getElem?_eq_some_iff.1 hby).1; omega
      clear q0 q1 q2 hbw g0 g1 g2 g3 g4 hGl
      go_upto_region 7 with (fail)
      have k3 : New wr (w2.setCell ⟨Y, 2, none⟩ (.slice (some ⟨gb, 0, none⟩) x.xs.length (x.xs.length + 4))) := (kb.trans k2).setCell (by rw [← HYY.out]; exact Nat.le_refl _) _
      have hY3 : (w2.setCell ⟨Y, 2, none⟩ (.slice (some ⟨gb, 0, none⟩) x.xs.length (x.xs.length + 4))).heap[Y]? = some (.cells #[.string x.name, .int .u8 x.tag, .slice (some ⟨gb, 0, none⟩) x.xs.length (x.xs.length + 4)] 55 (0, 0)) := by
        rw [block_setCell hY2]; simp
      have hb3 := (Keeps.setCell (S := fun k => k = Y) w2 ⟨Y, 2, none⟩ (.slice (some ⟨gb, 0, none⟩) x.xs.length (x.xs.length + 4)) rfl).heap hblk hYg
      generalize (w2.setCell ⟨Y, 2, none⟩ (.slice (some ⟨gb, 0, none⟩) x.xs.length (x.xs.length + 4))) = w3 at k3 hY3 hb3 ⊢
      have kz : New w3 (w3.alloc (.cells #[.string x.name, .int .u8 x.tag, .slice (some ⟨gb, 0, none⟩) x.xs.length (x.xs.length + 4)] 55)) := (New.refl w3).alloc _
      have hlit : SlAt (w3.alloc (.cells #[.string x.name, .int .u8 x.tag, .slice (some ⟨gb, 0, none⟩) x.xs.length (x.xs.length + 4)] 55)) (some ⟨w3.heap.size, 0, none⟩) (actCells (⟨x.name, x.tag, some ⟨gb, 0, none⟩, x.xs.length + 4, x.xs⟩ : GAct)) := SlAt.lit w3 _ _
      have hoz : (w3.alloc (.cells #[.string x.name, .int .u8 x.tag, .slice (some ⟨gb, 0, none⟩) x.xs.length (x.xs.length + 4)] 55)).ownsRow w.heap.size 55 3 (.slice a k c) k (l.flatMap actCells) := by
        have := ((HR.out.1.new k3).new kz).own.ao
        simp only [qL] at this
        rw [HLL.out] at this; exact this
      have hxo : OwnI (w3.alloc (.cells #[.string x.name, .int .u8 x.tag, .slice (some ⟨gb, 0, none⟩) x.xs.length (x.xs.length + 4)] 55)) w.heap.size (some ⟨gb, 0, none⟩) (x.xs.length + 4) x.xs := LtB.own (Keeps.heap kz hb3 (fun h => h)) (by have := HR.out.1.nw.size; have := kb.size; omega) hxl
      have hxd : ∀ k, blk (some ⟨gb, 0, none⟩ : Option Addr) k → wr.heap.size ≤ k := fun k hk => by
        obtain ⟨y, hy, rfl⟩ := hk
        cases hy
        exact Nat.le_trans kb.size hgb
      have hbz : w.heap.size ≤ (w3.alloc (.cells #[.string x.name, .int .u8 x.tag, .slice (some ⟨gb, 0, none⟩) x.xs.length (x.xs.length + 4)] 55)).heap.size := Nat.le_trans (Nat.le_trans HR.out.1.nw.size k3.size) kz.size
      have hbl3 := Keeps.heap k3 HR.out.1.bl (fun h => h)
      simp only [qL] at hbl3
      obtain ⟨p0, p1, p2, p3, p4, hPl⟩ := gr_cells hbl3
      clear hbl3
      obtain ⟨z0, z1, z2, hZl⟩ := act_cells hY3
      clear y0 y1 y2 hYl yf hYg hY2 hby k2 hblk
      have hkf : k ≤ 1048576 := by omega
      go_wp2_with (at_builtin; refine wpList_app rfl _ _ 22 rfl w.heap.size 55 it1 _ 3 48 Try.underlying22 hit1 ha0 ha1 ha2 rfl (by decide) a k c (l.flatMap actCells) rfl hoz (some ⟨w3.heap.size, 0, none⟩) 1 1 (actCells (⟨x.name, x.tag, some ⟨gb, 0, none⟩, x.xs.length + 4, x.xs⟩ : GAct)) rfl rfl hlit (one_act _) (by unfold maxLen; omega) (by omega) hbz ?_)
      intro a' c' w4 hown' hk' hm' _
      have hadd := HR.out.1.own.addAct (⟨x.name, x.tag, some ⟨gb, 0, none⟩, x.xs.length + 4, x.xs⟩ : GAct) hxo hxd (k3.trans kz) (by simp only [qL]; rw [HLL.out]; exact hown') hk' hm'
      have htag : ∀ b, blk a b → ∃ cur, wr.heap[b]? = some (.cells cur 55 (0, 0)) := fun b hb => tab_tag HR.out.1.own.ao (own_blk hb)
      have hP4 := hadd.2.heap HR.out.1.bl (fun hb => by obtain ⟨cur, hc⟩ := htag _ hb; rw [HR.out.1.bl] at hc; simp at hc)
      have hP5 := hP4
      simp only [qL] at hP5
      obtain ⟨-, v1, -, -, -, hPl4⟩ := gr_cells hP5
      clear hP5
      have vf : w4.frozen? ⟨P, 1, none⟩ = false := unfrozen_of_block hP4 1
      have htn : ∀ b, blk a b → ∃ cur t fr, wr.heap[b]? = some (.cells cur t fr) ∧ t ≠ 3 := fun b hb => by
        obtain ⟨cur, hc⟩ := htag b hb; exact ⟨cur, _, _, hc, by decide⟩
      have hb4 : LtB w4 (some ⟨gb, 0, none⟩) (x.xs.length + 4) x.xs := by
        have h0 : LtB (w3.alloc (.cells #[.string x.name, .int .u8 x.tag, .slice (some ⟨gb, 0, none⟩) x.xs.length (x.xs.length + 4)] 55)) (some ⟨gb, 0, none⟩) (x.xs.length + 4) x.xs := ⟨gb, rfl, rfl, Keeps.heap kz hb3 (fun h => h)⟩
        refine h0.keeps hk' (fun b hb => ?_)
        obtain ⟨cur, hc⟩ := htag b hb
        exact ⟨cur, _, _, Keeps.heap (k3.trans kz) hc (fun h => h), by decide⟩
      have hS := LSt.set (q' := qL g a' c' (l ++ [(⟨x.name, x.tag, some ⟨gb, 0, none⟩, x.xs.length + 4, x.xs⟩ : GAct)]) none 0 []) (k + 1) 0 (v := .slice a' (k + 1) c') (i := 1) HR.out.1 hadd.1 hadd.2 htag (by decide) (fun b hb => (own_of_blk HR.out.1.own.ao hb).1) rfl
        (fun y hy => by rcases List.mem_append.1 hy with hy | hy; (exact .inl hy); (rw [List.mem_singleton.1 hy]; exact .inr (.inr hb4))) (fun y hy => .inl hy)
      have hL4 : ∀ y ∈ l ++ [(⟨x.name, x.tag, some ⟨gb, 0, none⟩, x.xs.length + 4, x.xs⟩ : GAct)], LtB (w4.setCell ⟨P, 1, none⟩ (.slice a' (k + 1) c')) y.a y.c y.xs := fun y hy => by
        have h4 : LtB w4 y.a y.c y.xs := by
          rcases List.mem_append.1 hy with hy | hy
          · exact (HR.out.2.2 y hy).keeps hadd.2 htn
          · rw [List.mem_singleton.1 hy]; exact hb4
        exact h4.keeps (Keeps.setCell (S := fun k => k = P) w4 _ _ rfl) (fun b hb => ⟨_, _, _, hb ▸ hP4, by decide⟩)
      have HS := Lib.hid hS
      have HL4 := Lib.hid hL4
      have HB2 := Lib.hid (HBS.out (⟨x.name, x.tag, some ⟨gb, 0, none⟩, x.xs.length + 4, x.xs⟩ : GAct) rfl)
      clear hS hL4 hb4 htn hadd htag hP4 hown' hk' hm' hoz hxo hxd hlit hbz kz k3 hY3 hb3 kb hgb p0 p1 p2 p3 p4 hPl z0 z1 z2 hZl HR
      go_wp2_with fail
      go_roundw
      case rel => exact ⟨k + 1, a', c', _, by omega, by go_num, Lib.hid ⟨HS.out, HB2.out, HL4.out⟩⟩
      case measure => simp [intOf]; omega
    · have hke : k = g.acts.length := by omega
      have hkd : decide (k < g.acts.length) = false := decide_eq_false hk1
      have HLL := Lib.hid (bare_take_len HR.out.2.1 (by omega))
      have HBA : Hid (l.map GAct.bare = g.acts.map GAct.bare) := Lib.hid (by have := HR.out.2.1; rwa [hke, List.take_length] at this)
      have hkf : k ≤ 1048576 := by omega
      have hbl3 := HR.out.1.bl
      simp only [qL] at hbl3
      obtain ⟨p0, p1, p2, p3, p4, hPl⟩ := gr_cells hbl3
      have kz : New wr (wr.alloc (.cells #[.string ⟨#[109, 97, 114, 107]⟩, .int .u8 99, .slice none 0 0] 55)) := (New.refl wr).alloc _
      have hlit : SlAt (wr.alloc (.cells #[.string ⟨#[109, 97, 114, 107]⟩, .int .u8 99, .slice none 0 0] 55)) (some ⟨wr.heap.size, 0, none⟩) (actCells mkAct) := SlAt.lit wr _ _
      have hoz : (wr.alloc (.cells #[.string ⟨#[109, 97, 114, 107]⟩, .int .u8 99, .slice none 0 0] 55)).ownsRow w.heap.size 55 3 (.slice a k c) k (l.flatMap actCells) := by
        have := (HR.out.1.new kz).own.ao
        simp only [qL] at this
        rw [HLL.out] at this; exact this
      have hbz : w.heap.size ≤ (wr.alloc (.cells #[.string ⟨#[109, 97, 114, 107]⟩, .int .u8 99, .slice none 0 0] 55)).heap.size := Nat.le_trans HR.out.1.nw.size kz.size
      have HKE := Lib.hid hke
      have hkI : (g.acts.length : Int) ≤ (k : Int) := by omega
      clear hbl3 hke hk1
      go_wp2_with (at_builtin; refine wpList_app rfl _ _ 22 rfl w.heap.size 55 it1 _ 3 48 Try.underlying22 hit1 ha0 ha1 ha2 rfl (by decide) a k c (l.flatMap actCells) rfl hoz (some ⟨wr.heap.size, 0, none⟩) 1 1 (actCells mkAct) rfl rfl hlit (one_act _) (by unfold maxLen; omega) (by omega) hbz ?_)
      intro a' c' w4 hown' hk' hm' _
      have hcap : k + 1 ≤ c' := by
        rcases hown'.2 with ⟨h0, -⟩ | ⟨g9, cap, cur, h0, hb, hg, hnc, -⟩
        · simp at h0
        · simp only [Value.slice.injEq] at h0
          obtain ⟨-, -, rfl⟩ := h0
          exact hnc
      have hadd := HR.out.1.own.addAct mkAct (OwnI.nil _ _) (fun k hk => by obtain ⟨y, hy, _⟩ := hk; cases hy) kz (by simp only [qL]; rw [HLL.out]; exact hown') hk' hm'
      have htag : ∀ b, blk a b → ∃ cur, wr.heap[b]? = some (.cells cur 55 (0, 0)) := fun b hb => tab_tag HR.out.1.own.ao (own_blk hb)
      have htn : ∀ b, blk a b → ∃ cur t fr, wr.heap[b]? = some (.cells cur t fr) ∧ t ≠ 3 := fun b hb => by
        obtain ⟨cur, hc⟩ := htag b hb; exact ⟨cur, _, _, hc, by decide⟩
      have hP4 := hadd.2.heap HR.out.1.bl (fun hb => by obtain ⟨cur, hc⟩ := htag _ hb; rw [HR.out.1.bl] at hc; simp at hc)
      have hP5 := hP4
      simp only [qL] at hP5
      obtain ⟨-, v1, -, -, -, hPl4⟩ := gr_cells hP5
      have vf : w4.frozen? ⟨P, 1, none⟩ = false := unfrozen_of_block hP4 1
      have hS := Lib.hid (LSt.set (q' := qL g a' c' (l ++ [mkAct]) none 0 []) (k + 1) 0 (v := .slice a' (k + 1) c') (i := 1) HR.out.1 hadd.1 hadd.2 htag (by decide) (fun b hb => (own_of_blk HR.out.1.own.ao hb).1) rfl
        (fun y hy => by rcases List.mem_append.1 hy with hy | hy; (exact .inl hy); (rw [List.mem_singleton.1 hy]; exact .inr (.inl rfl))) (fun y hy => .inl hy))
      have HL4 := Lib.hid (fun y (hy : y ∈ l) => ((HR.out.2.2 y hy).keeps hadd.2 htn).keeps (Keeps.setCell (S := fun k => k = P) w4 ⟨P, 1, none⟩ (.slice a' (k + 1) c') rfl) (fun b hb => ⟨_, _, _, hb ▸ hP4, by decide⟩))
      clear hP5 hP4 htn htag hadd hown' hk' hm' hoz hlit hbz kz p0 p1 p2 p3 p4 hPl g0 g1 g2 g3 g4 hGl
      go_upto_region 9 with (fail)
      generalize (w4.setCell ⟨P, 1, none⟩ (.slice a' (k + 1) c')) = w5 at hS HL4 ⊢
      clear v1 vf hPl4 HR
      obtain ⟨g0, g1, g2, g3, g4, hGl⟩ := gr_cells hS.out.hg
      obtain ⟨p0, p1, p2, p3, p4, hPl⟩ := gr_cells hS.out.bl
      simp only [qL] at p1
      have pf : w5.frozen? ⟨P, 1, none⟩ = false := unfrozen_of_block hS.out.bl 1
      rw [HA.out] at g1
      have hcI : (g.acts.length : Int) ≤ (c' : Int) := by omega
      go_wp2_with fail
      have hS2 := Lib.hid (LSt.set (q' := qL g a' c' (l ++ [mkAct]) none 0 []) g.acts.length 0 (v := .slice a' g.acts.length c') (i := 1) (a := none) (T := 55) hS.out hS.out.own (Keeps.refl _ _) (fun b hb => by obtain ⟨y, hy, _⟩ := hb; cases hy) (by decide) (fun b hb => by obtain ⟨y, hy, _⟩ := hb; cases hy) rfl (fun y hy => .inl hy) (fun y hy => .inl hy))
      have HLA := Lib.hid (fun y (hy : y ∈ l) => (HL4.out y hy).keeps (Keeps.setCell (S := fun k => k = P) w5 ⟨P, 1, none⟩ (.slice a' g.acts.length c') rfl) (fun b hb => ⟨_, _, _, hb ▸ hS.out.bl, by decide⟩))
      clear hS HL4 g0 g1 g2 g3 g4 hGl p0 p1 p2 p3 p4 hPl pf hcI hcap hkf HKE HLL hkI hkd hk
      generalize (w5.setCell ⟨P, 1, none⟩ (.slice a' g.acts.length c')) = w6 at hS2 HLA ⊢
      obtain ⟨a1, rfl⟩ : ∃ z, z = a' := ⟨_, rfl⟩
      obtain ⟨c1, rfl⟩ : ∃ z, z = c' := ⟨_, rfl⟩
      obtain ⟨l1, rfl⟩ : ∃ z, z = l := ⟨_, rfl⟩
      have HSOME : Hid (∀ y ∈ l1, ∃ z, y.a = some z) := Lib.hid (fun y hy => by obtain ⟨z, hz, -⟩ := HLA.out y hy; exact ⟨_, hz⟩)
      have HBX := HBA
      have HD := hS2
      clear hS2 HLA
      go_loopw [6] (fun i wr => ∃ (k : Nat) (b : Option Addr) (d : Nat) (m : List GEdge), k ≤ g.edges.length ∧ i = .int .i64 k ∧ Hid (LSt w g P (qL g a1 c1 (l1 ++ [mkAct]) b d m) g.acts.length k wr ∧ m.map GEdge.bare = (g.edges.take k).map GEdge.bare ∧ ∀ x ∈ m, LtB wr x.a x.c x.xs)) (fun i _ => g.edges.length - (intOf i).toNat)
      case atStart => exact ⟨0, none, 0, [], by omega, rfl, Lib.hid ⟨HD.out, rfl, fun x hx => by cases hx⟩⟩
      case round =>
        clear HD
        obtain ⟨k, b, d, m, hk, rfl, HR⟩ := hrel
        obtain ⟨g0, g1, g2, g3, g4, hGl⟩ := gr_cells HR.out.1.hg
        rw [HE.out] at g2
        by_cases hk1 : k < g.edges.length
        · have hkI : (k : Int) < (g.edges.length : Int) := by omega
          have hkd : decide (k < g.edges.length) = true := decide_eq_true hk1
          obtain ⟨bb, off, hab, q0, q1, q2, q3, q4⟩ := gedges_at (HG.out.new HR.out.1.nw).se hk1
          have hbw : bb < wr.heap.size := World.block_lt_of_cell? wr _ q0
          have hxl := FEX.out _ (List.getElem_mem hk1)
          have HXS := Lib.hid (fun W (n : New wr W) => ((HG.out.new HR.out.1.nw).ex _ (List.getElem_mem hk1)).new n)
          have HBS : Hid (∀ y : GEdge, y.bare = g.edges[k].bare → (m ++ [y]).map GEdge.bare = (g.edges.take (k + 1)).map GEdge.bare) := Lib.hid (fun y hy => bare_snoc HR.out.2.1 hk1 hy)
          have HLL := Lib.hid (bare_take_len HR.out.2.1 (by omega))
          have e : aE = some ⟨bb, off, none⟩ := HE.out.symm.trans hab
          subst e
          clear hab
          generalize g.edges[k] = x at q0 q1 q2 q3 q4 hxl HXS HBS
          go_wp2_with fail
          have kb : New wr (wr.alloc (.cells #[I x.f, I x.fp, I x.t, I x.tp, .slice x.a x.xs.length x.c] 58)) := (New.refl wr).alloc _
          have hby : (wr.alloc (.cells #[I x.f, I x.fp, I x.t, I x.tp, .slice x.a x.xs.length x.c] 58)).heap[wr.heap.size]? = some (.cells #[I x.f, I x.fp, I x.t, I x.tp, .slice x.a x.xs.length x.c] 58 (0, 0)) := heap_alloc_new wr _
          generalize (wr.alloc (.cells #[I x.f, I x.fp, I x.t, I x.tp, .slice x.a x.xs.length x.c] 58)) = w1 at kb hby ⊢
          obtain ⟨Y, hY⟩ : ∃ Y, Y = wr.heap.size := ⟨_, rfl⟩
          rw [← hY] at hby ⊢
          have HYY := Lib.hid hY
          clear hY
          refine (lent_any x.a x.c x.xs w1 (HXS.out _ kb) (by omega)).mono ?_
          rintro e w2 ⟨gb, rfl, hgb, hblk, k2⟩
          have hY2 := Keeps.heap k2 hby (fun h => h)
          obtain ⟨y0, y1, y2, y3, y4, hYl⟩ := edge_cells hY2
          have yf : w2.frozen? ⟨Y, 4, none⟩ = false := unfrozen_of_block hY2 4
          have hYg : ¬ gb = Y := by have := (Array.getElem?_eq_some_iff.1 hby).1; omega
          clear q0 q1 q2 q3 q4 hbw g0 g1 g2 g3 g4 hGl
          go_upto_region 15 with (fail)
          have k3 : New wr (w2.setCell ⟨Y, 4, none⟩ (.slice (some ⟨gb, 0, none⟩) x.xs.length (x.xs.length + 4))) := (kb.trans k2).setCell (by rw [← HYY.out]; exact Nat.le_refl _) _
          have hY3 : (w2.setCell ⟨Y, 4, none⟩ (.slice (some ⟨gb, 0, none⟩) x.xs.length (x.xs.length + 4))).heap[Y]? = some (.cells #[I x.f, I x.fp, I x.t, I x.tp, .slice (some ⟨gb, 0, none⟩) x.xs.length (x.xs.length + 4)] 58 (0, 0)) := by
            rw [block_setCell hY2]; simp
          have hb3 := (Keeps.setCell (S := fun k => k = Y) w2 ⟨Y, 4, none⟩ (.slice (some ⟨gb, 0, none⟩) x.xs.length (x.xs.length + 4)) rfl).heap hblk hYg
          generalize (w2.setCell ⟨Y, 4, none⟩ (.slice (some ⟨gb, 0, none⟩) x.xs.length (x.xs.length + 4))) = w3 at k3 hY3 hb3 ⊢
          have kz : New w3 (w3.alloc (.cells #[I x.f, I x.fp, I x.t, I x.tp, .slice (some ⟨gb, 0, none⟩) x.xs.length (x.xs.length + 4)] 58)) := (New.refl w3).alloc _
          have hlit : SlAt (w3.alloc (.cells #[I x.f, I x.fp, I x.t, I x.tp, .slice (some ⟨gb, 0, none⟩) x.xs.length (x.xs.length + 4)] 58)) (some ⟨w3.heap.size, 0, none⟩) (edgeCells (⟨x.f, x.fp, x.t, x.tp, some ⟨gb, 0, none⟩, x.xs.length + 4, x.xs⟩ : GEdge)) := SlAt.lit w3 _ _
          have hoz : (w3.alloc (.cells #[I x.f, I x.fp, I x.t, I x.tp, .slice (some ⟨gb, 0, none⟩) x.xs.length (x.xs.length + 4)] 58)).ownsRow w.heap.size 58 5 (.slice b k d) k (m.flatMap edgeCells) := by
            have := ((HR.out.1.new k3).new kz).own.eo
            simp only [qL] at this
            rw [HLL.out] at this; exact this
          have hxo : OwnI (w3.alloc (.cells #[I x.f, I x.fp, I x.t, I x.tp, .slice (some ⟨gb, 0, none⟩) x.xs.length (x.xs.length + 4)] 58)) w.heap.size (some ⟨gb, 0, none⟩) (x.xs.length + 4) x.xs := LtB.own (Keeps.heap kz hb3 (fun h => h)) (by have := HR.out.1.nw.size; have := kb.size; omega) hxl
          have hxd : ∀ k, blk (some ⟨gb, 0, none⟩ : Option Addr) k → wr.heap.size ≤ k := fun k hk => by
            obtain ⟨y, hy, rfl⟩ := hk
            cases hy
            exact Nat.le_trans kb.size hgb
          have hbz : w.heap.size ≤ (w3.alloc (.cells #[I x.f, I x.fp, I x.t, I x.tp, .slice (some ⟨gb, 0, none⟩) x.xs.length (x.xs.length + 4)] 58)).heap.size := Nat.le_trans (Nat.le_trans HR.out.1.nw.size k3.size) kz.size
          have hbl3 := Keeps.heap k3 HR.out.1.bl (fun h => h)
          simp only [qL] at hbl3
          obtain ⟨p0, p1, p2, p3, p4, hPl⟩ := gr_cells hbl3
          clear hbl3
          obtain ⟨z0, z1, z2, z3, z4, hZl⟩ := edge_cells hY3
          clear y0 y1 y2 y3 y4 hYl yf hYg hY2 hby k2 hblk
          have hkf : k ≤ 1048576 := by omega
          go_wp2_with (at_builtin; refine wpList_app rfl _ _ 23 rfl w.heap.size 58 it2 _ 5 56 Try.underlying23 hit2 he0 he1 he2 rfl (by decide) b k d (m.flatMap edgeCells) rfl hoz (some ⟨w3.heap.size, 0, none⟩) 1 1 (edgeCells (⟨x.f, x.fp, x.t, x.tp, some ⟨gb, 0, none⟩, x.xs.length + 4, x.xs⟩ : GEdge)) rfl rfl hlit (one_edge _) (by unfold maxLen; omega) (by omega) hbz ?_)
          intro b' d' w4 hown' hk' hm' _
          have hadd := HR.out.1.own.addEdge (⟨x.f, x.fp, x.t, x.tp, some ⟨gb, 0, none⟩, x.xs.length + 4, x.xs⟩ : GEdge) hxo hxd (k3.trans kz) (by simp only [qL]; rw [HLL.out]; exact hown') hk' hm'
          have htag : ∀ b9, blk b b9 → ∃ cur, wr.heap[b9]? = some (.cells cur 58 (0, 0)) := fun b9 hb => tab_tag HR.out.1.own.eo (own_blk hb)
          have hP4 := hadd.2.heap HR.out.1.bl (fun hb => by obtain ⟨cur, hc⟩ := htag _ hb; rw [HR.out.1.bl] at hc; simp at hc)
          have hP5 := hP4
          simp only [qL] at hP5
          obtain ⟨-, -, v1, -, -, hPl4⟩ := gr_cells hP5
          clear hP5
          have vf : w4.frozen? ⟨P, 2, none⟩ = false := unfrozen_of_block hP4 2
          have htn : ∀ b9, blk b b9 → ∃ cur t fr, wr.heap[b9]? = some (.cells cur t fr) ∧ t ≠ 3 := fun b hb => by
            obtain ⟨cur, hc⟩ := htag _ hb; exact ⟨cur, _, _, hc, by decide⟩
          have hb4 : LtB w4 (some ⟨gb, 0, none⟩) (x.xs.length + 4) x.xs := by
            have h0 : LtB (w3.alloc (.cells #[I x.f, I x.fp, I x.t, I x.tp, .slice (some ⟨gb, 0, none⟩) x.xs.length (x.xs.length + 4)] 58)) (some ⟨gb, 0, none⟩) (x.xs.length + 4) x.xs := ⟨gb, rfl, rfl, Keeps.heap kz hb3 (fun h => h)⟩
            refine h0.keeps hk' (fun b hb => ?_)
            obtain ⟨cur, hc⟩ := htag _ hb
            exact ⟨cur, _, _, Keeps.heap (k3.trans kz) hc (fun h => h), by decide⟩
          have hS := LSt.set (q' := qL g a1 c1 (l1 ++ [mkAct]) b' d' (m ++ [(⟨x.f, x.fp, x.t, x.tp, some ⟨gb, 0, none⟩, x.xs.length + 4, x.xs⟩ : GEdge)]))  g.acts.length (k + 1) (v := .slice b' (k + 1) d') (i := 2) HR.out.1 hadd.1 hadd.2 htag (by decide) (fun b hb => (own_of_blk HR.out.1.own.eo hb).1) rfl
            (fun y hy => .inl hy) (fun y hy => by rcases List.mem_append.1 hy with hy | hy; (exact .inl hy); (rw [List.mem_singleton.1 hy]; exact .inr (.inr hb4)))
          have hL4 : ∀ y ∈ m ++ [(⟨x.f, x.fp, x.t, x.tp, some ⟨gb, 0, none⟩, x.xs.length + 4, x.xs⟩ : GEdge)], LtB (w4.setCell ⟨P, 2, none⟩ (.slice b' (k + 1) d')) y.a y.c y.xs := fun y hy => by
            have h4 : LtB w4 y.a y.c y.xs := by
              rcases List.mem_append.1 hy with hy | hy
              · exact (HR.out.2.2 y hy).keeps hadd.2 htn
              · rw [List.mem_singleton.1 hy]; exact hb4
            exact h4.keeps (Keeps.setCell (S := fun k => k = P) w4 _ _ rfl) (fun b hb => ⟨_, _, _, hb ▸ hP4, by decide⟩)
          have HS := Lib.hid hS
          have HL4 := Lib.hid hL4
          have HB2 := Lib.hid (HBS.out (⟨x.f, x.fp, x.t, x.tp, some ⟨gb, 0, none⟩, x.xs.length + 4, x.xs⟩ : GEdge) rfl)
          clear hS hL4 hb4 htn hadd htag hP4 hown' hk' hm' hoz hxo hxd hlit hbz kz k3 hY3 hb3 kb hgb p0 p1 p2 p3 p4 hPl z0 z1 z2 z3 z4 hZl HR
          go_wp2_with fail
          go_roundw
          case rel => exact ⟨k + 1, b', d', _, by omega, by go_num, Lib.hid ⟨HS.out, HB2.out, HL4.out⟩⟩
          case measure => simp [intOf]; omega
        · have hke : k = g.edges.length := by omega
          have hkd : decide (k < g.edges.length) = false := decide_eq_false hk1
          have HLL := Lib.hid (bare_take_len HR.out.2.1 (by omega))
          have HBA : Hid (m.map GEdge.bare = g.edges.map GEdge.bare) := Lib.hid (by have := HR.out.2.1; rwa [hke, List.take_length] at this)
          have hkf : k ≤ 1048576 := by omega
          have hbl3 := HR.out.1.bl
          simp only [qL] at hbl3
          obtain ⟨p0, p1, p2, p3, p4, hPl⟩ := gr_cells hbl3
          have kz : New wr (wr.alloc (.cells #[I (-7770777), I 0, I 0, I 0, .slice none 0 0] 58)) := (New.refl wr).alloc _
          have hlit : SlAt (wr.alloc (.cells #[I (-7770777), I 0, I 0, I 0, .slice none 0 0] 58)) (some ⟨wr.heap.size, 0, none⟩) (edgeCells mkEdge) := SlAt.lit wr _ _
          have hoz : (wr.alloc (.cells #[I (-7770777), I 0, I 0, I 0, .slice none 0 0] 58)).ownsRow w.heap.size 58 5 (.slice b k d) k (m.flatMap edgeCells) := by
            have := (HR.out.1.new kz).own.eo
            simp only [qL] at this
            rw [HLL.out] at this; exact this
          have hbz : w.heap.size ≤ (wr.alloc (.cells #[I (-7770777), I 0, I 0, I 0, .slice none 0 0] 58)).heap.size := Nat.le_trans HR.out.1.nw.size kz.size
          have HKE := Lib.hid hke
          have hkI : (g.edges.length : Int) ≤ (k : Int) := by omega
          clear hbl3 hke hk1
          go_wp2_with (at_builtin; refine wpList_app rfl _ _ 23 rfl w.heap.size 58 it2 _ 5 56 Try.underlying23 hit2 he0 he1 he2 rfl (by decide) b k d (m.flatMap edgeCells) rfl hoz (some ⟨wr.heap.size, 0, none⟩) 1 1 (edgeCells mkEdge) rfl rfl hlit (one_edge _) (by unfold maxLen; omega) (by omega) hbz ?_)
          intro b' d' w4 hown' hk' hm' _
          have hcap : k + 1 ≤ d' := by
            rcases hown'.2 with ⟨h0, -⟩ | ⟨g9, cap, cur, h0, hb, hg, hnc, -⟩
            · simp at h0
            · simp only [Value.slice.injEq] at h0
              obtain ⟨-, -, rfl⟩ := h0
              exact hnc
          have hadd := HR.out.1.own.addEdge mkEdge (OwnI.nil _ _) (fun k hk => by obtain ⟨y, hy, _⟩ := hk; cases hy) kz (by simp only [qL]; rw [HLL.out]; exact hown') hk' hm'
          have htag : ∀ b9, blk b b9 → ∃ cur, wr.heap[b9]? = some (.cells cur 58 (0, 0)) := fun b9 hb => tab_tag HR.out.1.own.eo (own_blk hb)
          have htn : ∀ b9, blk b b9 → ∃ cur t fr, wr.heap[b9]? = some (.cells cur t fr) ∧ t ≠ 3 := fun b hb => by
            obtain ⟨cur, hc⟩ := htag _ hb; exact ⟨cur, _, _, hc, by decide⟩
          have hP4 := hadd.2.heap HR.out.1.bl (fun hb => by obtain ⟨cur, hc⟩ := htag _ hb; rw [HR.out.1.bl] at hc; simp at hc)
          have hP5 := hP4
          simp only [qL] at hP5
          obtain ⟨-, -, v1, -, -, hPl4⟩ := gr_cells hP5
          have vf : w4.frozen? ⟨P, 2, none⟩ = false := unfrozen_of_block hP4 2
          have hS := Lib.hid (LSt.set (q' := qL g a1 c1 (l1 ++ [mkAct]) b' d' (m ++ [mkEdge]))  g.acts.length (k + 1) (v := .slice b' (k + 1) d') (i := 2) HR.out.1 hadd.1 hadd.2 htag (by decide) (fun b hb => (own_of_blk HR.out.1.own.eo hb).1) rfl
            (fun y hy => .inl hy) (fun y hy => by rcases List.mem_append.1 hy with hy | hy; (exact .inl hy); (rw [List.mem_singleton.1 hy]; exact .inr (.inl rfl))))
          have HL4 := Lib.hid (fun y (hy : y ∈ m) => ((HR.out.2.2 y hy).keeps hadd.2 htn).keeps (Keeps.setCell (S := fun k => k = P) w4 ⟨P, 2, none⟩ (.slice b' (k + 1) d') rfl) (fun b hb => ⟨_, _, _, hb ▸ hP4, by decide⟩))
          clear hP5 hP4 htn htag hadd hown' hk' hm' hoz hlit hbz kz p0 p1 p2 p3 p4 hPl g0 g1 g2 g3 g4 hGl
          go_upto_region 17 with (fail)
          generalize (w4.setCell ⟨P, 2, none⟩ (.slice b' (k + 1) d')) = w5 at hS HL4 ⊢
          clear v1 vf hPl4 HR
          obtain ⟨g0, g1, g2, g3, g4, hGl⟩ := gr_cells hS.out.hg
          obtain ⟨p0, p1, p2, p3, p4, hPl⟩ := gr_cells hS.out.bl
          simp only [qL] at p2
          have pf : w5.frozen? ⟨P, 2, none⟩ = false := unfrozen_of_block hS.out.bl 2
          rw [HE.out] at g2
          have hcI : (g.edges.length : Int) ≤ (d' : Int) := by omega
          go_wp2_with fail
          have hS2 := Lib.hid (LSt.set (q' := qL g a1 c1 (l1 ++ [mkAct]) b' d' (m ++ [mkEdge]))  g.acts.length g.edges.length (v := .slice b' g.edges.length d') (i := 2) (a := none) (T := 58) hS.out hS.out.own (Keeps.refl _ _) (fun b hb => by obtain ⟨y, hy, _⟩ := hb; cases hy) (by decide) (fun b hb => by obtain ⟨y, hy, _⟩ := hb; cases hy) rfl (fun y hy => .inl hy) (fun y hy => .inl hy))
          have HLA := Lib.hid (fun y (hy : y ∈ m) => (HL4.out y hy).keeps (Keeps.setCell (S := fun k => k = P) w5 ⟨P, 2, none⟩ (.slice b' g.edges.length d') rfl) (fun b hb => ⟨_, _, _, hb ▸ hS.out.bl, by decide⟩))
          clear hS HL4 g0 g1 g2 g3 g4 hGl p0 p1 p2 p3 p4 hPl pf hcI hcap hkf HKE HLL hkI hkd hk
          generalize (w5.setCell ⟨P, 2, none⟩ (.slice b' g.edges.length d')) = w7 at hS2 HLA ⊢
          obtain ⟨g0, g1, g2, g3, g4, hGl⟩ := gr_cells hS2.out.hg
          have hP1 := (LSt.bl hS2.out)
          have pf3 : w7.frozen? ⟨P, 3, none⟩ = false := unfrozen_of_block hP1 3
          have pf4 : w7.frozen? ⟨P, 4, none⟩ = false := unfrozen_of_block hP1 4
          obtain ⟨p0, p1, p2, p3, p4, hPl⟩ := gr_cells hP1
          go_wp2_with fail
          refine (lentPorts_any w7 g.ia g.ic g.ins ((HG.out.new hS2.out.nw).si) (by omega)).mono ?_
          rintro e w8 ⟨ia, ic, rfl, hio, k8⟩
          have hS3 := Lib.hid (hS2.out.new k8)
          clear hP1 pf3 pf4 p0 p1 p2 p3 p4 hPl g0 g1 g2 g3 g4 hGl
          obtain ⟨g0, g1, g2, g3, g4, hGl⟩ := gr_cells hS3.out.hg
          obtain ⟨p0, p1, p2, p3, p4, hPl⟩ := gr_cells hS3.out.bl
          have pf3 : w8.frozen? ⟨P, 3, none⟩ = false := unfrozen_of_block hS3.out.bl 3
          go_wp2_with fail
          have k89 : Keeps (fun k => k = P) w8 (w8.setCell ⟨P, 3, none⟩ (.slice ia g.ins.length ic)) := Keeps.setCell w8 _ _ rfl
          have hb9 := block_setCell (i := 3) hS3.out.bl (.slice ia g.ins.length ic)
          have hPlo : w.heap.size + 1 < P := hS3.out.hP
          have hN9 : New w (w8.setCell ⟨P, 3, none⟩ (.slice ia g.ins.length ic)) := hS3.out.nw.setCell (by simp; omega) _
          generalize (w8.setCell ⟨P, 3, none⟩ (.slice ia g.ins.length ic)) = w9 at k89 hb9 hN9 ⊢
          refine (lentPorts_any w9 g.oa g.oc g.outs ((HG.out.new hN9).so) (by omega)).mono ?_
          rintro e w10 ⟨oa, oc, rfl, hoo, k10⟩
          have hT8 : ∀ k, k = P → ∃ cur t fr, w8.heap[k]? = some (.cells cur t fr) ∧ t ≠ 3 := fun k hk => ⟨_, _, _, hk ▸ hS3.out.bl, by decide⟩
          have hown10 := (hS3.out.own.other k89 (fun k hk => .inr ⟨_, _, _, hk ▸ hS3.out.bl, by decide⟩)).new k10
          have hla10 : ∀ y ∈ l1, LtB w10 y.a y.c y.xs := fun y hy => by
            rcases hS3.out.la y (List.mem_append.2 (.inl hy)) with h1 | h1
            · obtain ⟨z, hz⟩ := HSOME.out y hy
              rw [h1] at hz; cases hz
            · exact (h1.keeps k89 hT8).new k10
          have hle10 : ∀ y ∈ m, LtB w10 y.a y.c y.xs := fun y hy => (((HLA.out y hy).new k8).keeps k89 hT8).new k10
          have hio10 := k10.owns (own_oth hio k89 (fun k hk => ⟨_, _, _, hk ▸ hS3.out.bl, by decide⟩))
          have hio' := ownsRow_le hio10 hS2.out.nw.size
          have hoo' := ownsRow_le hoo hN9.size
          have HEND := Lib.hid (And.intro hown10 (And.intro hla10 (And.intro hle10 (And.intro hio' hoo'))))
          have hN10 : New w w10 := hN9.trans k10
          have hb10 := k10.heap hb9 (fun h => h)
          have hR10 := k10.heap (k89.heap hS3.out.hr (by omega)) (fun h => h)
          have HN10 := Lib.hid hN10
          clear hT8 hown10 hla10 hle10 hio10 hio' hoo' hio hoo hN10 k10 k89 hb9 hN9 g0 g1 g2 g3 g4 hGl p0 p1 p2 p3 p4 hPl pf3 k8
          simp only [qL, List.setIfInBounds_toArray, List.set_cons_succ, List.set_cons_zero] at hb10
          have pf4 : w10.frozen? ⟨P, 4, none⟩ = false := unfrozen_of_block hb10 4
          obtain ⟨-, -, -, -, p4, hPl⟩ := gr_cells hb10
          go_upto_region 20 with (fail)
          clear p4 hPl
          have k11 : Keeps (fun k => k = P) w10 (w10.setCell ⟨P, 4, none⟩ (.slice oa g.outs.length oc)) := Keeps.setCell w10 _ _ rfl
          have hb11 := block_setCell (i := 4) hb10 (.slice oa g.outs.length oc)
          simp only [List.setIfInBounds_toArray, List.set_cons_succ, List.set_cons_zero] at hb11
          generalize (w10.setCell ⟨P, 4, none⟩ (.slice oa g.outs.length oc)) = w11 at k11 hb11 ⊢
          have hR11 := k11.heap hR10 (by omega)
          have hTP : ∀ k, k = P ∨ k = w.heap.size + 1 → ∃ cur, w10.heap[k]? = some (.cells cur 26 (0, 0)) := fun k hk => by
            rcases hk with rfl | rfl
            · exact ⟨_, hb10⟩
            · exact ⟨_, hR10⟩
          have HTP := Lib.hid hTP
          have HPLO := Lib.hid hPlo
          clear hTP hb10 hR10 pf4
          obtain ⟨p0, p1, p2, p3, p4, hPl⟩ := gr_cells hb11
          obtain ⟨r0, r1, r2, r3, r4, hRl⟩ := gr_cells hR11
          have rf0 : w11.frozen? ⟨w.heap.size + 1, 0, none⟩ = false := unfrozen_of_block hR11 0
          have rf1 : w11.frozen? ⟨w.heap.size + 1, 1, none⟩ = false := unfrozen_of_block hR11 1
          have rf2 : w11.frozen? ⟨w.heap.size + 1, 2, none⟩ = false := unfrozen_of_block hR11 2
          have rf3 : w11.frozen? ⟨w.heap.size + 1, 3, none⟩ = false := unfrozen_of_block hR11 3
          have rf4 : w11.frozen? ⟨w.heap.size + 1, 4, none⟩ = false := unfrozen_of_block hR11 4
          have HR11 := Lib.hid hR11
          clear hR11 hb11
          go_wp2_with fail
          obtain ⟨hRW, k12⟩ := gr_stored HR11.out (.string g.name) (.slice a1 g.acts.length c1) (.slice b' g.edges.length d') (.slice ia g.ins.length ic) (.slice oa g.outs.length oc)
          generalize (((((w11.setCell ⟨w.heap.size + 1, 0, none⟩ (.string g.name)).setCell ⟨w.heap.size + 1, 1, none⟩ (.slice a1 g.acts.length c1)).setCell ⟨w.heap.size + 1, 2, none⟩ (.slice b' g.edges.length d')).setCell ⟨w.heap.size + 1, 3, none⟩ (.slice ia g.ins.length ic)).setCell ⟨w.heap.size + 1, 4, none⟩ (.slice oa g.outs.length oc)) = W9 at hRW k12 ⊢
          have kAll : Keeps (fun k => k = P ∨ k = w.heap.size + 1) w10 W9 := (k11.mono (fun _ _ h => .inl h)).trans k12 (fun _ _ h => .inr h)
          clear p0 p1 p2 p3 p4 hPl r0 r1 r2 r3 r4 hRl rf0 rf1 rf2 rf3 rf4 HR11 k11 k12
          obtain ⟨c0, c1', c2, c3, c4, hCl⟩ := gr_cells hRW
          refine bodyPost_ret (v := .agg #[.string g.name, .slice a1 g.acts.length c1, .slice b' g.edges.length d', .slice ia g.ins.length ic, .slice oa g.outs.length oc]) (by simp [results, Try.results10, go_sem, c0, c1', c2, c3, c4, hCl]) rfl ?_
          rw [← HP.out]
          have hti : ∀ k, k = P ∨ k = w.heap.size + 1 → ∃ cur t fr, w10.heap[k]? = some (.cells cur t fr) ∧ t ≠ 3 := fun k hk => by
            obtain ⟨cur, hc⟩ := HTP.out k hk; exact ⟨cur, _, _, hc, by decide⟩
          have htp : ∀ k, k = P ∨ k = w.heap.size + 1 → ∃ cur t fr, w10.heap[k]? = some (.cells cur t fr) ∧ t ≠ 60 := fun k hk => by
            obtain ⟨cur, hc⟩ := HTP.out k hk; exact ⟨cur, _, _, hc, by decide⟩
          have hHE := HEND.out
          refine ⟨a1, c1, l1, b', d', m, ia, ic, oa, oc, rfl, ?_, HBX.out, HBA.out, fun y hy => (hHE.2.1 y hy).keeps kAll hti, fun y hy => (hHE.2.2.1 y hy).keeps kAll hti, own_oth hHE.2.2.2.1 kAll htp, own_oth hHE.2.2.2.2 kAll htp, ?_⟩
          · exact hHE.1.other kAll (fun k hk => .inr (by obtain ⟨cur, hc⟩ := HTP.out k hk; exact ⟨_, _, _, hc, by decide⟩))
          · exact New.keeps HN10.out kAll (fun i hi hk => by have := HPLO.out; rcases hk with rfl | rfl <;> omega)
end Go.Proofs.Ytpljnapglbmdlaa
