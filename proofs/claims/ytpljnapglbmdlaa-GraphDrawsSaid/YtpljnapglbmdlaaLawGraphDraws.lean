/-
  'GraphDraws': the law returns true at every input; what it is handed reads afterwards as before.
-/
import Derived.Test.YtpljnapglbmdlaaRead
import Derived.Test.YtpljnapglbmdlaaReadGr
import Derived.Test.YtpljnapglbmdlaaGrU
import Derived.Test.YtpljnapglbmdlaaGsH
import Derived.Test.YtpljnapglbmdlaaGsC
import Derived.Test.YtpljnapglbmdlaaGsD
import Derived.Test.YtpljnapglbmdlaaGtI
namespace Go.Proofs.Ytpljnapglbmdlaa.graphDraws
open Go Go.RowKit Go.Joins Go.ChangeShapes Go.WideShapes Go.ChangeAt
open Go.ChangeMaps (open_string shut_string)
set_option linter.all false

set_option maxRecDepth 100000 in
set_option maxHeartbeats 16000000 in
theorem walk (w : World) (g0 : Gr) (hg0 : GrAt w g0) (hl0 : GLen g0) (hw0 : GWf g0) (hr0 : GRoom g0) :
    Calls Try.prog 4 #[g0.v] w fun e w' => e = .returned (.bool true) ∧ New w w' := by
  have HHV := Lib.hid (fun W (k : New w W) => heavy_any W g0 (hg0.new k) hr0)
  simp only [Gr.v, Gr.cs] at HHV ⊢
  go_enter Try.func4, Try.ntmps4
  have na : New w (w.alloc (.cells #[.string g0.name, .slice g0.aa g0.acts.length g0.ac, .slice g0.ea g0.edges.length g0.ec, .slice g0.ia g0.ins.length g0.ic, .slice g0.oa g0.outs.length g0.oc] 26)) := (New.refl w).alloc _
  have ha : (w.alloc (.cells #[.string g0.name, .slice g0.aa g0.acts.length g0.ac, .slice g0.ea g0.edges.length g0.ec, .slice g0.ia g0.ins.length g0.ic, .slice g0.oa g0.outs.length g0.oc] 26)).heap[w.heap.size]? = some (.cells #[.string g0.name, .slice g0.aa g0.acts.length g0.ac, .slice g0.ea g0.edges.length g0.ec, .slice g0.ia g0.ins.length g0.ic, .slice g0.oa g0.outs.length g0.oc] 26 (0, 0)) := heap_alloc_new w _
  go_wp2_with fail
  generalize (w.alloc (.cells #[.string g0.name, .slice g0.aa g0.acts.length g0.ac, .slice g0.ea g0.edges.length g0.ec, .slice g0.ia g0.ins.length g0.ic, .slice g0.oa g0.outs.length g0.oc] 26)) = wa at na ha ⊢
  have HB := Lib.hid ha
  clear ha
  refine (HHV.out wa na).mono ?_
  rintro e w1 ⟨he, k1⟩
  have hN1 := na.trans k1
  rcases he with rfl | ⟨rfl, hf⟩
  · go_wp2_with fail
    go_ret
    exact ⟨rfl, hN1⟩
  · have HB1 := Lib.hid (Keeps.heap k1 HB.out (fun h => h))
    clear HB HHV na k1
    obtain ⟨x0, x1, x2, x3, x4, hXl⟩ := gr_cells HB1.out
    go_wp2_with fail
    have hLG := lentGraph_any w1 g0 (hg0.new hN1) hf
    simp only [Gr.v, Gr.cs] at hLG
    refine hLG.mono ?_
    intro e w2 hL
    obtain ⟨q, rfl, hq, k2⟩ := hL.lended
    clear hL hLG x0 x1 x2 x3 x4 hXl
    have HB2 := Lib.hid (Keeps.heap k2 HB1.out (fun h => h))
    have hN2 := hN1.trans k2
    clear HB1 hN1 k2
    simp only [Gr.v, Gr.cs]
    obtain ⟨x0, x1, x2, x3, x4, hXl⟩ := gr_cells HB2.out
    go_wp2_with fail
    have kz : New w2 (w2.alloc (.cells #[.string q.name, .slice q.aa q.acts.length q.ac, .slice q.ea q.edges.length q.ec, .slice q.ia q.ins.length q.ic, .slice q.oa q.outs.length q.oc] 26)) := (New.refl w2).alloc _
    have hz : (w2.alloc (.cells #[.string q.name, .slice q.aa q.acts.length q.ac, .slice q.ea q.edges.length q.ec, .slice q.ia q.ins.length q.ic, .slice q.oa q.outs.length q.oc] 26)).heap[w2.heap.size]? = some (.cells #[.string q.name, .slice q.aa q.acts.length q.ac, .slice q.ea q.edges.length q.ec, .slice q.ia q.ins.length q.ic, .slice q.oa q.outs.length q.oc] 26 (0, 0)) := heap_alloc_new w2 _
    generalize (w2.alloc (.cells #[.string q.name, .slice q.aa q.acts.length q.ac, .slice q.ea q.edges.length q.ec, .slice q.ia q.ins.length q.ic, .slice q.oa q.outs.length q.oc] 26)) = w3 at kz hz  ⊢
    have hN3 := hN2.trans kz
    have hq3 := hq.new kz
    have HB3 := Lib.hid (Keeps.heap kz HB2.out (fun h => h))
    clear x0 x1 x2 x3 x4 hXl HB2 hN2 kz hq
    generalize w2.heap.size = BO at hz ⊢
    have HO3 := Lib.hid hz
    clear hz
    have hfq := findG_same hq3.bare
    have htg := tags_bare hw0.tag hq3.bare
    have hlq := hl0.bare hq3.bare
    have hdq := drawD_same hq3.bare
    obtain ⟨y0, y1, y2, y3, y4, hYl⟩ := gr_cells (Keeps.heap (New.refl w3) HO3.out (fun h => h))
    have hD := cdraw_any w3 q (hq3.at.new (New.refl w3)) hlq htg
    simp only [Gr.v, Gr.cs] at hD
    go_wp2_with fail
    refine hD.mono ?_
    intro e v1 hd
    obtain ⟨s, rfl, hs, hsb, n1⟩ := hd.uni
    rw [hfq]
    rw [hdq] at hsb
    clear hD hd y0 y1 y2 y3 y4 hYl
    simp only [Sk.v, Sk.cs]
    obtain ⟨y0, y1, y2, y3, y4, hYl⟩ := gr_cells (Keeps.heap ((New.refl w3).trans n1) HO3.out (fun h => h))
    go_wp2_with fail
    clear y0 y1 y2 y3 y4 hYl
    have kz : New v1 (v1.alloc (.cells #[.string s.name, .slice s.ia s.items.length s.ic] 35)) := (New.refl v1).alloc _
    have hz : (v1.alloc (.cells #[.string s.name, .slice s.ia s.items.length s.ic] 35)).heap[v1.heap.size]? = some (.cells #[.string s.name, .slice s.ia s.items.length s.ic] 35 (0, 0)) := heap_alloc_new v1 _
    generalize (v1.alloc (.cells #[.string s.name, .slice s.ia s.items.length s.ic] 35)) = v2 at kz hz  ⊢
    have k1 := n1.trans kz
    replace hs := hs.new kz
    have HP4 := Lib.hid hz
    generalize v1.heap.size = P4 at HP4 ⊢
    clear n1 kz hz
    obtain ⟨y0, y1, y2, y3, y4, hYl⟩ := gr_cells (Keeps.heap (k1) HO3.out (fun h => h))
    have hD := cdraw_any v2 q (hq3.at.new (k1)) hlq htg
    simp only [Gr.v, Gr.cs] at hD
    refine hD.mono ?_
    intro e v3 hd
    obtain ⟨t, rfl, ht, htb, n2⟩ := hd.uni
    rw [hfq]
    rw [hdq] at htb
    clear hD hd y0 y1 y2 y3 y4 hYl
    simp only [Sk.v, Sk.cs]
    obtain ⟨y0, y1, y2, y3, y4, hYl⟩ := gr_cells (Keeps.heap ((k1).trans n2) HB3.out (fun h => h))
    go_wp2_with fail
    clear y0 y1 y2 y3 y4 hYl
    have kz : New v3 (v3.alloc (.cells #[.string t.name, .slice t.ia t.items.length t.ic] 35)) := (New.refl v3).alloc _
    have hz : (v3.alloc (.cells #[.string t.name, .slice t.ia t.items.length t.ic] 35)).heap[v3.heap.size]? = some (.cells #[.string t.name, .slice t.ia t.items.length t.ic] 35 (0, 0)) := heap_alloc_new v3 _
    generalize (v3.alloc (.cells #[.string t.name, .slice t.ia t.items.length t.ic] 35)) = v4 at kz hz  ⊢
    have k2 := n2.trans kz
    replace ht := ht.new kz
    have HP6 := Lib.hid hz
    generalize v3.heap.size = P6 at HP6 ⊢
    clear n2 kz hz
    have HS4 := Lib.hid (hs.new k2)
    have HT4 := Lib.hid ht
    have HSIB := Lib.hid (fun k (hk : blk s.ia k) => (own_of_blk hs.io hk).2)
    have HSIL := Lib.hid (fun k (hk : blk s.ia k) => (own_of_blk hs.io hk).1)
    replace HP4 := Lib.hid (Keeps.heap k2 HP4.out (fun h => h))
    have k12 := k1.trans k2
    have hR := rdraw_any v4 g0 (hg0.new (hN3.trans k12)) hl0 hw0.tag
    simp only [Gr.v, Gr.cs] at hR
    refine hR.mono ?_
    intro e v5 hd
    obtain ⟨u, rfl, hu, hub, n5⟩ := hd.uni
    clear hR hd
    simp only [Sk.v, Sk.cs]
    obtain ⟨s0, s1, -, -, hSl⟩ := sk_cells (Keeps.heap n5 HP4.out (fun h => h))
    obtain ⟨t0, t1, -, -, hTl⟩ := sk_cells (Keeps.heap n5 HP6.out (fun h => h))
    generalize (findG g0).1 = rr
    go_wp2_with fail
    have kz : New v5 (v5.alloc (.cells #[.string u.name, .slice u.ia u.items.length u.ic] 35)) := (New.refl v5).alloc _
    have hz : (v5.alloc (.cells #[.string u.name, .slice u.ia u.items.length u.ic] 35)).heap[v5.heap.size]? = some (.cells #[.string u.name, .slice u.ia u.items.length u.ic] 35 (0, 0)) := heap_alloc_new v5 _
    generalize (v5.alloc (.cells #[.string u.name, .slice u.ia u.items.length u.ic] 35)) = v6 at kz hz  ⊢
    have k3 := n5.trans kz
    replace hu := hu.new kz
    have HP8 := Lib.hid hz
    generalize v5.heap.size = P8 at HP8 ⊢
    clear n5 kz hz s0 s1 hSl t0 t1 hTl
    replace HP4 := Lib.hid (Keeps.heap k3 HP4.out (fun h => h))
    replace HP6 := Lib.hid (Keeps.heap k3 HP6.out (fun h => h))
    replace HS4 := Lib.hid (HS4.out.new k3)
    replace HT4 := Lib.hid (HT4.out.new k3)
    obtain ⟨hs1, hs2, hs3, hs4⟩ := drawD_small hsb hf
    obtain ⟨ht1, ht2, ht3, ht4⟩ := drawD_small htb hf
    have hM1 := same_yes v6 s u HS4.out.at hu.at (hsb.trans hub.symm) hs1
    simp only [Sk.v, Sk.cs] at hM1
    refine hM1.mono ?_
    rintro e v7 ⟨rfl, n7⟩
    clear hM1
    obtain ⟨t0, t1, -, -, hTl⟩ := sk_cells (Keeps.heap n7 HP6.out (fun h => h))
    obtain ⟨u0, u1, -, -, hUl⟩ := sk_cells (Keeps.heap n7 HP8.out (fun h => h))
    have hM2 := same_yes v7 t u (HT4.out.new n7).at (hu.new n7).at (htb.trans hub.symm) ht1
    simp only [Sk.v, Sk.cs] at hM2
    go_wp2_with fail
    refine hM2.mono ?_
    rintro e v8 ⟨rfl, n8⟩
    clear hM2 t0 t1 hTl u0 u1 hUl hu hub
    have k8 := k3.trans (n7.trans n8)
    replace HP4 := Lib.hid (Keeps.heap (n7.trans n8) HP4.out (fun h => h))
    replace HP6 := Lib.hid (Keeps.heap (n7.trans n8) HP6.out (fun h => h))
    replace HS4 := Lib.hid (HS4.out.new (n7.trans n8))
    replace HT4 := Lib.hid (HT4.out.new (n7.trans n8))
    have HN8 := Lib.hid (k12.trans k8)
    have hsz8 : v2.heap.size ≤ v8.heap.size := Nat.le_trans k2.size k8.size
    have hsz3 : w3.heap.size ≤ v2.heap.size := k1.size
    have HAP := Lib.hid (ents_apart hs ht (Nat.le_refl _))
    clear k1 k2 k12 k3 n7 n8 k8 hs ht HP8
    obtain ⟨it9, hit9, hn0, hn1, hn2⟩ := info_parts Try.infoInts
    obtain ⟨itI, hitI, hi0, hi1, hi2⟩ := info_parts infoItem
    have hL0 : Hid (v8.ownsRow v8.heap.size 41 1 (.slice none 0 0) 0 ((((s.items.take 0).map sEnt)).map entV) ∧ New v8 v8) := Lib.hid ⟨World.ownsRow_nil _ _ _ _, New.refl _⟩
    go_wp2_with fail
    go_loopw [10, 11] (fun v i wr => ∃ (k : Nat) (a : Option Addr) (c : Nat), k ≤ s.items.length ∧ i = .int .i64 k ∧ v = .slice a (k) c ∧ Hid (wr.ownsRow v8.heap.size 41 1 (.slice a (k) c) (k) (((s.items.take (k)).map sEnt).map entV) ∧ New v8 wr)) (fun _ i _ => s.items.length - (intOf i).toNat)
    case atStart => exact ⟨0, none, 0, by omega, rfl, rfl, hL0⟩
    case round =>
      clear hL0
      obtain ⟨k, a, c, hk, rfl, rfl, HR⟩ := hrel
      obtain ⟨-, p1, -, -, hPl⟩ := sk_cells (Keeps.heap HR.out.2 HP4.out (fun h => h))
      by_cases hk1 : k < s.items.length
      · have hsl : SlAt wr s.ia (s.items.flatMap itCells) := (HS4.out.new HR.out.2).at.sl
        obtain ⟨b, off, e1, q0, -, -, q3, -, -, -, -, -, -, -⟩ := items_row hsl hk1
        clear hsl
        have hbw : b < wr.heap.size := World.block_lt_of_cell? wr _ q0
        have hk0 : (k : Int) < (s.items.length : Int) := by omega
        have hkd : decide (k < s.items.length) = true := decide_eq_true hk1
        obtain ⟨XS, hXS⟩ : ∃ XS, XS = ((s.items.take (k)).map sEnt).map entV := ⟨_, rfl⟩
        rw [← hXS] at HR
        have HTK : Hid (((s.items.take (k + 1)).map sEnt).map entV = XS ++ [entV (sEnt s.items[k])]) := Lib.hid (by rw [hXS, List.take_succ_eq_append_getElem hk1]; simp only [List.map_append, List.map_cons, List.map_nil, List.append_assoc])
        clear hXS
        generalize s.items[k] = x at q0 q3 HTK
        rw [e1] at p1
        clear e1 q0
        have kz : New wr (wr.alloc (.cells #[.slice x.a x.xs.length x.c] 41)) := (New.refl wr).alloc _
        have hlit : SlAt (wr.alloc (.cells #[.slice x.a x.xs.length x.c] 41)) (some ⟨wr.heap.size, 0, none⟩) [entV (sEnt x)] := SlAt.lit wr _ _
        have hoz := kz.owns HR.out.1
        have hbz : v8.heap.size ≤ (wr.alloc (.cells #[.slice x.a x.xs.length x.c] 41)).heap.size := Nat.le_trans HR.out.2.size kz.size
        go_wp2_with (at_builtin; refine wpList_app rfl _ _ 39 rfl v8.heap.size 41 it9 _ 1 24 Try.underlying39 hit9 hn0 hn1 hn2 rfl (by decide) a (k) c XS rfl hoz (some ⟨wr.heap.size, 0, none⟩) 1 1 [entV (sEnt x)] rfl rfl hlit (by intro u hu; rw [List.mem_singleton.1 hu]; rfl) (by unfold maxLen; omega) (by omega) hbz ?_)
        intro a' c' w4 hown' hk' hm' _
        have hNn := (HR.out.2.trans kz).keeps hk' (fun i hi hb => by have := (own_of_blk hoz hb).1; omega)
        have hown2 : w4.ownsRow v8.heap.size 41 1 (.slice a' ((k + 1)) c') ((k + 1)) (((s.items.take (k + 1)).map sEnt).map entV) := by
          rw [HTK.out]; exact hown'
        have HN4 := Lib.hid (And.intro hown2 hNn)
        clear hown2 hNn hown' hk' hm' hoz hlit kz hbz q3 p1 hPl hbw HR
        go_wp2_with fail
        go_roundw
        case rel => exact ⟨k + 1, a', c', by omega, by go_num, rfl, HN4⟩
        case measure => simp [intOf]; omega
      · have hke : k = s.items.length := by omega
        have hkd : decide (k < s.items.length) = false := decide_eq_false hk1
        have hkI : (s.items.length : Int) ≤ (k : Int) := by omega
        subst hke
        rw [List.take_length] at HR
        have hL0 : Hid (wr.ownsRow v8.heap.size 41 1 (.slice a (s.items.length + 0) c) (s.items.length + 0) ((s.items.map sEnt ++ (t.items.take 0).map sEnt).map entV) ∧ New v8 wr) := Lib.hid (by rw [List.take_zero, List.map_nil, List.append_nil]; exact HR.out)
        clear HR hk hk1
        go_wp2_with fail
        clear p1 hPl
        go_loopw [10, 12] (fun v i wr => ∃ (k : Nat) (a : Option Addr) (c : Nat), k ≤ t.items.length ∧ i = .int .i64 k ∧ v = .slice a (s.items.length + k) c ∧ Hid (wr.ownsRow v8.heap.size 41 1 (.slice a (s.items.length + k) c) (s.items.length + k) ((s.items.map sEnt ++ (t.items.take (k)).map sEnt).map entV) ∧ New v8 wr)) (fun _ i _ => t.items.length - (intOf i).toNat)
        case atStart => exact ⟨0, _, _, by omega, rfl, rfl, hL0⟩
        case round =>
          clear hL0
          obtain ⟨k, a, c, hk, rfl, rfl, HR⟩ := hrel
          obtain ⟨-, p1, -, -, hPl⟩ := sk_cells (Keeps.heap HR.out.2 HP6.out (fun h => h))
          by_cases hk1 : k < t.items.length
          · have hsl : SlAt wr t.ia (t.items.flatMap itCells) := (HT4.out.new HR.out.2).at.sl
            obtain ⟨b, off, e1, q0, -, -, q3, -, -, -, -, -, -, -⟩ := items_row hsl hk1
            clear hsl
            have hbw : b < wr.heap.size := World.block_lt_of_cell? wr _ q0
            have hk0 : (k : Int) < (t.items.length : Int) := by omega
            have hkd : decide (k < t.items.length) = true := decide_eq_true hk1
            obtain ⟨XS, hXS⟩ : ∃ XS, XS = (s.items.map sEnt ++ (t.items.take (k)).map sEnt).map entV := ⟨_, rfl⟩
            rw [← hXS] at HR
            have HTK : Hid ((s.items.map sEnt ++ (t.items.take (k + 1)).map sEnt).map entV = XS ++ [entV (sEnt t.items[k])]) := Lib.hid (by rw [hXS, List.take_succ_eq_append_getElem hk1]; simp only [List.map_append, List.map_cons, List.map_nil, List.append_assoc])
            clear hXS
            generalize t.items[k] = x at q0 q3 HTK
            rw [e1] at p1
            clear e1 q0
            have kz : New wr (wr.alloc (.cells #[.slice x.a x.xs.length x.c] 41)) := (New.refl wr).alloc _
            have hlit : SlAt (wr.alloc (.cells #[.slice x.a x.xs.length x.c] 41)) (some ⟨wr.heap.size, 0, none⟩) [entV (sEnt x)] := SlAt.lit wr _ _
            have hoz := kz.owns HR.out.1
            have hbz : v8.heap.size ≤ (wr.alloc (.cells #[.slice x.a x.xs.length x.c] 41)).heap.size := Nat.le_trans HR.out.2.size kz.size
            go_wp2_with (at_builtin; refine wpList_app rfl _ _ 39 rfl v8.heap.size 41 it9 _ 1 24 Try.underlying39 hit9 hn0 hn1 hn2 rfl (by decide) a (s.items.length + k) c XS rfl hoz (some ⟨wr.heap.size, 0, none⟩) 1 1 [entV (sEnt x)] rfl rfl hlit (by intro u hu; rw [List.mem_singleton.1 hu]; rfl) (by unfold maxLen; omega) (by omega) hbz ?_)
            intro a' c' w4 hown' hk' hm' _
            have hNn := (HR.out.2.trans kz).keeps hk' (fun i hi hb => by have := (own_of_blk hoz hb).1; omega)
            have hown2 : w4.ownsRow v8.heap.size 41 1 (.slice a' (s.items.length + (k + 1)) c') (s.items.length + (k + 1)) ((s.items.map sEnt ++ (t.items.take (k + 1)).map sEnt).map entV) := by
              rw [HTK.out]; exact hown'
            have HN4 := Lib.hid (And.intro hown2 hNn)
            clear hown2 hNn hown' hk' hm' hoz hlit kz hbz q3 p1 hPl hbw HR
            go_wp2_with fail
            go_roundw
            case rel => exact ⟨k + 1, a', c', by omega, by go_num, rfl, HN4⟩
            case measure => simp [intOf]; omega
          · have hke : k = t.items.length := by omega
            have hkd : decide (k < t.items.length) = false := decide_eq_false hk1
            have hkI : (t.items.length : Int) ≤ (k : Int) := by omega
            subst hke
            rw [List.take_length] at HR
            obtain ⟨hrow, hNr⟩ := HR.out
            clear HR hk hk1
            have low : ∀ y ∈ (s.items.map sEnt ++ t.items.map sEnt), OwnI wr w3.heap.size y.a y.c y.xs := fun y hy => by
              rcases List.mem_append.1 hy with hy | hy <;> obtain ⟨x, hx, rfl⟩ := List.mem_map.1 hy
              · exact (HS4.out.new hNr).nx x hx
              · exact ownsRow_le ((HT4.out.new hNr).nx x hx) hsz3
            have off : ∀ y ∈ (s.items.map sEnt ++ t.items.map sEnt), ∀ k, blk y.a k → k < v8.heap.size := fun y hy k hk => by
              rcases List.mem_append.1 hy with hy | hy <;> obtain ⟨x, hx, rfl⟩ := List.mem_map.1 hy
              · exact (own_of_blk (HS4.out.nx x hx) hk).2
              · exact (own_of_blk (HT4.out.nx x hx) hk).2
            have hN9 : New w3 wr := HN8.out.trans hNr
            have hTl : (s.items.map sEnt ++ t.items.map sEnt).length = s.items.length + t.items.length := by simp
            have hA := apart_rows wr a c w3.heap.size v8.heap.size (s.items.map sEnt ++ t.items.map sEnt) (by rw [hTl]; exact hrow) low HAP.out off hN9.size (by omega) (fun y hy => by
              rcases List.mem_append.1 hy with hy | hy <;> obtain ⟨x, hx, rfl⟩ := List.mem_map.1 hy
              · exact hs4 x hx
              · exact ht4 x hx)
            rw [hTl] at hA
            go_wp2_with fail
            refine hA.mono ?_
            rintro e x1 ⟨rfl, kA⟩
            have hty : ∀ e : TypeId, 3 ≠ e → ∀ k, (∃ y ∈ (s.items.map sEnt ++ t.items.map sEnt), blk y.a k) → ∃ cur tt fr, wr.heap[k]? = some (.cells cur tt fr) ∧ tt ≠ e := fun e he k ⟨y, hy, hb⟩ => by
              obtain ⟨cur, hc⟩ := tab_tag (low y hy) (own_blk hb)
              exact ⟨cur, _, _, hc, he⟩
            have hhp : ∀ {b : Nat} {cs : Array Value}, v8.heap[b]? = some (.cells cs 35 (0, 0)) → x1.heap[b]? = some (.cells cs 35 (0, 0)) := fun hb => by
              have hb2 := Keeps.heap hNr hb (fun h => h)
              refine kA.heap hb2 (fun hx => ?_)
              obtain ⟨cur, tt, fr, h1, h2⟩ := hty 35 (by decide) _ hx
              rw [hb2] at h1; simp at h1; exact h2 h1.2.1.symm
            have HX4 := Lib.hid (hhp HP4.out)
            have HX6 := Lib.hid (hhp HP6.out)
            have HXS := Lib.hid (own_oth (HS4.out.new hNr).io kA (hty _ (by decide)))
            have HXT := Lib.hid (own_oth (HT4.out.new hNr).io kA (hty _ (by decide)))
            have HXN := Lib.hid (New.keeps hN9 kA (fun i hi ⟨y, hy, hb⟩ => by have := (own_of_blk (low y hy) hb).1; omega))
            clear hA kA hty hhp low off hrow hNr hN9 HP4 HP6 HS4 HT4 HN8 HAP p1 hPl hTl
            obtain ⟨-, p1, -, -, hPl⟩ := sk_cells HX4.out
            go_wp2_with fail
            clear p1 hPl
            go_loopw [13] (fun i wr => ∃ k : Nat, k ≤ s.items.length ∧ i = .int .i64 k ∧ Hid (Keeps (blk s.ia) x1 wr ∧ ∀ b, s.ia = some ⟨b, 0, none⟩ → ∃ cur, wr.heap[b]? = some (.cells cur 45 (0, 0)) ∧ cur.size = s.ic * 11)) (fun i _ => s.items.length - (intOf i).toNat)
            case atStart =>
              refine ⟨0, by omega, rfl, Lib.hid ⟨Keeps.refl _ _, fun b hb => ?_⟩⟩
              rcases HXS.out.2 with ⟨h0, -⟩ | ⟨g9, cap, cur, h0, hb9, hg, hnc, hmx, hsz, -⟩
              · simp only [Value.slice.injEq] at h0
                rw [h0.1] at hb; cases hb
              · simp only [Value.slice.injEq] at h0
                obtain ⟨h1, -, h3⟩ := h0
                rw [h1] at hb; cases hb
                exact ⟨cur, hg, by rw [h3]; exact hsz⟩
            case round =>
              obtain ⟨k, hk, rfl, HR⟩ := hrel
              have hne4 : ¬ blk s.ia P4 := fun hx => by
                obtain ⟨cur, hc⟩ := tab_tag HXS.out (own_blk hx)
                rw [HX4.out] at hc; simp at hc
              obtain ⟨-, p1, -, -, hPl⟩ := sk_cells (HR.out.1.heap HX4.out hne4)
              by_cases hk1 : k < s.items.length
              · have hk0 : (k : Int) < (s.items.length : Int) := by omega
                have hkd : decide (k < s.items.length) = true := decide_eq_true hk1
                rcases HXS.out.2 with ⟨h0, -⟩ | ⟨b, cap, cur0, h0, hb9, hg, hnc, hmx, hsz, -⟩
                · simp only [Value.slice.injEq] at h0
                  omega
                · simp only [Value.slice.injEq] at h0
                  obtain ⟨hia, -, hic⟩ := h0
                  obtain ⟨cur, hcb, hcs⟩ := HR.out.2 b hia
                  have hbk : k * 11 + 10 < cur.size := by rw [hcs, hic]; omega
                  have hbw : b < wr.heap.size := (Array.getElem?_eq_some_iff.1 hcb).1
                  have fz : ∀ i, wr.frozen? ⟨b, i, none⟩ = false := fun i => unfrozen_of_block hcb i
                  have hc : ∀ i, i ≤ k * 11 + 10 → ∃ v, wr.cell? ⟨b, i, none⟩ = some v := fun i hi => cell_there hcb (by omega)
                  obtain ⟨z0, hz0⟩ := hc (k * 11) (by omega)
                  have fz0 := fz (k * 11)
                  obtain ⟨z1, hz1⟩ := hc (k * 11 + 1) (by omega)
                  have fz1 := fz (k * 11 + 1)
                  obtain ⟨z2, hz2⟩ := hc (k * 11 + 2) (by omega)
                  have fz2 := fz (k * 11 + 2)
                  obtain ⟨z3, hz3⟩ := hc (k * 11 + 3) (by omega)
                  have fz3 := fz (k * 11 + 3)
                  obtain ⟨z4, hz4⟩ := hc (k * 11 + 4) (by omega)
                  have fz4 := fz (k * 11 + 4)
                  obtain ⟨z5, hz5⟩ := hc (k * 11 + 5) (by omega)
                  have fz5 := fz (k * 11 + 5)
                  obtain ⟨z6, hz6⟩ := hc (k * 11 + 6) (by omega)
                  have fz6 := fz (k * 11 + 6)
                  obtain ⟨z7, hz7⟩ := hc (k * 11 + 7) (by omega)
                  have fz7 := fz (k * 11 + 7)
                  obtain ⟨z8, hz8⟩ := hc (k * 11 + 8) (by omega)
                  have fz8 := fz (k * 11 + 8)
                  obtain ⟨z9, hz9⟩ := hc (k * 11 + 9) (by omega)
                  have fz9 := fz (k * 11 + 9)
                  obtain ⟨z10, hz10⟩ := hc (k * 11 + 10) (by omega)
                  have fz10 := fz (k * 11 + 10)
                  have HSB := Lib.hid hcb
                  have HIA := Lib.hid hia
                  rw [hia] at p1
                  clear fz hc hia hcb hic hg hb9 hsz hnc hmx
                  go_wp2_with fail
                  obtain ⟨⟨cur2, hcb2, hcs2⟩, kk⟩ := set11_block (o := k * 11) HSB.out (.int .u8 77) (.string ⟨#[]⟩) (.string ⟨#[]⟩) (.slice none 0 0) (.string ⟨#[]⟩) (I 0) (I 0) (.string ⟨#[]⟩) (I 0) (I 0) (I 0)
                  go_roundw
                  case rel => exact ⟨k + 1, by omega, by go_num, Lib.hid ⟨HR.out.1.trans kk (fun i hi e => ⟨_, HIA.out, e.symm⟩), fun b' hb' => by rw [HIA.out] at hb'; cases hb'; exact ⟨cur2, hcb2, hcs2.trans hcs⟩⟩⟩
                  case measure => simp [intOf]; omega
              · have hkd : decide (k < s.items.length) = false := decide_eq_false hk1
                have hkI : (s.items.length : Int) ≤ (k : Int) := by omega
                have hrow0 : ∃ xs, wr.ownsRow w3.heap.size 45 11 (.slice s.ia (s.items.length + 0) s.ic) (s.items.length + 0) xs := by
                  rcases HXS.out.2 with ⟨h0, -⟩ | ⟨b, cap, cur0, h0, hb9, hg, hnc, hmx, hsz, -⟩
                  · rw [Nat.add_zero, h0]
                    simp only [Value.slice.injEq] at h0
                    rw [h0.2.1]
                    exact ⟨[], World.ownsRow_nil _ _ _ _⟩
                  · simp only [Value.slice.injEq] at h0
                    obtain ⟨hia, -, hic⟩ := h0
                    obtain ⟨cur, hcb, hcs⟩ := HR.out.2 b hia
                    rw [hia, hic]
                    exact row_any hcb hb9 (by rw [hcs, hic]) hnc hmx
                obtain ⟨xs0, hxs0⟩ := hrow0
                have hsc : s.items.length + 0 = s.items.length := rfl
                have HM : Hid (wr.ownsRow w3.heap.size 45 11 (.slice s.ia (s.items.length + 0) s.ic) (s.items.length + 0) xs0 ∧ Keeps (blk s.ia) x1 wr ∧ ∀ j, j < x1.heap.size → blk s.ia j → blk s.ia j) := Lib.hid ⟨hxs0, HR.out.1, fun _ _ h => h⟩
                clear hxs0 HR hk hk1
                go_wp2_with fail
                clear p1 hPl
                go_loopw [14, 15] (fun v i wr => ∃ (k : Nat) (a : Option Addr) (c : Nat) (xs : List Value), k ≤ 16 ∧ i = .int .i64 k ∧ v = .slice a (s.items.length + k) c ∧ Hid (wr.ownsRow w3.heap.size 45 11 (.slice a (s.items.length + k) c) (s.items.length + k) xs ∧ Keeps (blk s.ia) x1 wr ∧ ∀ j, j < x1.heap.size → blk a j → blk s.ia j)) (fun _ i _ => 16 - (intOf i).toNat)
                case atStart => exact ⟨0, _, _, _, by omega, rfl, rfl, HM⟩
                case round =>
                  clear HM
                  obtain ⟨k, a, c, xs, hk, rfl, rfl, HR⟩ := hrel
                  by_cases hk1 : k < 16
                  · have hk0 : (k : Int) < 16 := by omega
                    have hkd : decide (k < 16) = true := decide_eq_true hk1
                    have kz : New wr (wr.alloc (.cells #[.int .u8 78, .string ⟨#[]⟩, .string ⟨#[]⟩, .slice none 0 0, .string ⟨#[]⟩, I 0, I 0, .string ⟨#[]⟩, I 0, I 0, I 0] 45)) := (New.refl wr).alloc _
                    have hlit : SlAt (wr.alloc (.cells #[.int .u8 78, .string ⟨#[]⟩, .string ⟨#[]⟩, .slice none 0 0, .string ⟨#[]⟩, I 0, I 0, .string ⟨#[]⟩, I 0, I 0, I 0] 45)) (some ⟨wr.heap.size, 0, none⟩) (itCells ⟨78, ⟨#[]⟩, ⟨#[]⟩, none, 0, [], ⟨#[]⟩, 0, 0, ⟨#[]⟩, 0, 0, 0⟩) := SlAt.lit wr _ _
                    have hoz := kz.owns HR.out.1
                    have hbz : w3.heap.size ≤ (wr.alloc (.cells #[.int .u8 78, .string ⟨#[]⟩, .string ⟨#[]⟩, .slice none 0 0, .string ⟨#[]⟩, I 0, I 0, .string ⟨#[]⟩, I 0, I 0, I 0] 45)).heap.size := Nat.le_trans (Nat.le_trans HXN.out.size HR.out.2.1.size) kz.size
                    go_wp2_with (at_builtin; refine wpList_app rfl _ _ 33 rfl w3.heap.size 45 itI _ 11 136 Try.underlying33 hitI hi0 hi1 hi2 rfl (by decide) a (s.items.length + k) c xs rfl hoz (some ⟨wr.heap.size, 0, none⟩) 1 1 (itCells ⟨78, ⟨#[]⟩, ⟨#[]⟩, none, 0, [], ⟨#[]⟩, 0, 0, ⟨#[]⟩, 0, 0, 0⟩) rfl rfl hlit (one_it _) (by unfold maxLen; omega) (by omega) hbz ?_)
                    intro a' c' w4 hown' hk' hm' _
                    have hK4 : Keeps (blk s.ia) x1 w4 := (Keeps.trans HR.out.2.1 kz (fun _ _ h => h.elim)).trans hk' (fun i hi hb => HR.out.2.2 i hi hb)
                    have HN4 := Lib.hid (And.intro hown' (And.intro hK4 (fun j (hj : j < x1.heap.size) (hb : blk a' j) => by
                      rcases moved_blk hm' hb with hx | hx
                      · exact HR.out.2.2 j hj hx
                      · have h1 := HR.out.2.1.size
                        have h2 := kz.size
                        have h3 : wr.heap.size ≤ j := Nat.le_trans h2 hx
                        omega)))
                    clear hown' hk' hm' hoz hlit kz hbz hK4 HR
                    go_wp2_with fail
                    go_roundw
                    case rel => exact ⟨k + 1, a', c', _, by omega, by go_num, rfl, HN4⟩
                    case measure => simp [intOf]; omega
                  · have hkd : decide (k < 16) = false := decide_eq_false hk1
                    have hkI : (16 : Int) ≤ (k : Int) := by omega
                    have hK := HR.out.2.1
                    have hne6 : ¬ blk s.ia P6 := fun hx => by
                      obtain ⟨cur, hc⟩ := tab_tag HXS.out (own_blk hx)
                      rw [HX6.out] at hc; simp at hc
                    have HY6 := Lib.hid (hK.heap HX6.out hne6)
                    have htr := hK.owns HXT.out (fun j hj hb => by
                      have h1 := HSIB.out j hb
                      have h2 := (own_of_blk HXT.out (blk_of_own hj)).1
                      omega)
                    have HSL := Lib.hid (SlAt.of_owns htr)
                    have HNF := Lib.hid (New.keeps HXN.out hK (fun i hi hb => by have := HSIL.out i hb; omega))
                    clear hK hne6 htr HR hk hk1 HX4 HX6 HXS HXT HXN
                    obtain ⟨x5, rfl⟩ : ∃ z, z = wr := ⟨_, rfl⟩
                    obtain ⟨-, p1, -, -, hPl⟩ := sk_cells HY6.out
                    go_wp2_with fail
                    go_loopw [16] (fun i wr => ∃ k : Nat, k ≤ t.items.length ∧ i = .int .i64 k ∧ wr = x5) (fun i _ => t.items.length - (intOf i).toNat)
                    case atStart => exact ⟨0, by omega, rfl, rfl⟩
                    case round =>
                      obtain ⟨k, hk, rfl, hw9⟩ := hrel
                      subst hw9
                      by_cases hk1 : k < t.items.length
                      · obtain ⟨b, off, e1, q0, -, -, -, -, -, -, -, -, -, -⟩ := items_row HSL.out hk1
                        have hbw : b < wr.heap.size := World.block_lt_of_cell? wr _ q0
                        have hkk := ht2 _ (List.getElem_mem hk1)
                        have hk0 : (k : Int) < (t.items.length : Int) := by omega
                        have hkd : decide (k < t.items.length) = true := decide_eq_true hk1
                        generalize t.items[k] = x at q0 hkk
                        have hgd : decide (4 < x.kind) = false := decide_eq_false (by omega)
                        rw [e1] at p1
                        clear e1
                        go_wp2_with fail
                        go_roundw
                        case rel => exact ⟨k + 1, by omega, by go_num, by first | rfl | trivial⟩
                        case measure => simp [intOf]; omega
                      · have hkd : decide (k < t.items.length) = false := decide_eq_false hk1
                        have hkI : (t.items.length : Int) ≤ (k : Int) := by omega
                        go_wp2_with fail
                        refine (awake_any wr).mono ?_
                        rintro e x6 ⟨rfl, k6⟩
                        have hN6 := HNF.out.trans k6
                        obtain ⟨x0, x1', x2, x3, x4, hXl⟩ := gr_cells (Keeps.heap hN6 HB3.out (fun h => h))
                        obtain ⟨y0, y1, y2, y3, y4, hYl⟩ := gr_cells (Keeps.heap hN6 HO3.out (fun h => h))
                        have hKG := keptGraph_any x6 g0 q _ (hg0.new (hN3.trans hN6)) (hq3.new hN6) hf hl0
                        simp only [Gr.v, Gr.cs] at hKG
                        go_wp2_with fail
                        refine hKG.mono ?_
                        rintro e x7 ⟨rfl, k7⟩
                        go_wp2_with fail
                        go_ret
                        exact ⟨rfl, hN3.trans (hN6.trans k7)⟩
set_option maxRecDepth 100000 in
theorem lifted (os : Os) (started : os.Started) (H : Type) (enc : TypeId × Value → H) :
    ReturnsInHanded {} Try.checked os 4 .any (Rows.graphDrawsSpec.pre6 enc Try.prog Try.f4 Rows.graphDrawsRow.domain false) (Rows.graphDrawsSpec.post enc Try.prog Try.f4 false true false false) := by
  refine returnsInHanded_of_change_sized (C := Try.checked) own started (by kernel_rfl) Try.func4
    (ChangeSpec.witness6 (enc := enc) (C := Try.checked) false ⟨#[], #[.agg #[.string ByteArray.empty, .slice none 0 0, .slice none 0 0, .slice none 0 0, .slice none 0 0]], []⟩ 8 (by kernel_rfl) (by kernel_rfl) (by kernel_rfl) (by kernel_rfl)) ?_
  intro W base args ds gs before hval0 hW hcnd hsz0 _
  have hval : ∀ (j : Nat) t v, Try.f4.params[j]? = some t → args[j]? = some v → Value.okWide Try.prog W .any base t v := hval0
  have hsz : (DataW.weightsEach Try.prog (Try.f4.params.toList ++ Rows.graphDrawsSpec.plain.varTypes Try.prog) (ds ++ gs)).all (· ≤ reachBytes) = true := hsz0
  clear hsz0
  have hW' := hW
  obtain ⟨p, q, hA0, hV, rfl, hfz, hnd⟩ := hW
  have hA : DataW.TrodAll enc Try.prog W 0 (fun _ => true) true Try.f4.params.toList args.toList ds p := hA0
  rw [Try.params4] at hA hval hsz
  obtain ⟨v0, vs0, d0, ds0, p0, q0, hargs, rfl, rfl, h0, r0'⟩ := trodAll_cons hA
  obtain ⟨rfl, rfl, rfl⟩ := trodAll_nil r0'
  obtain rfl : args = #[v0] := by cases args; simp_all
  obtain ⟨rfl, rfl⟩ := trodVars_none hV
  have k0 := h0
  have lt0 : ∀ x ∈ p0, x.block < W.heap.size := by obtain ⟨m, hm⟩ := k0; exact DataW.trod_lt m _ _ _ hm
  obtain ⟨g0', rfl, hg0, hl0, hw0, hr0⟩ := read_graph (hval 0 26 v0 rfl rfl) h0
  have hr0' : GRoom g0' := hr0 (fun m hm => of_decide_eq_true (List.all_eq_true.1 hsz m (DataW.weights_mem_each (j := 0) (t := 26) rfl rfl _ hm)))
  clear hA0 hval0
  refine (walk W g0' hg0 hl0 hw0 hr0').mono fun e W' ⟨he, hnew⟩ => ?_
  have bel := hnew.below
  subst he
  exact ⟨_, rfl, _, _, _, [], _, [], hW', trodAll_mk1 (shut_bool Try.underlying4 _), (trodAll_cons_mk (Below.trod laidOut (by kernel_rfl) (of_decide_eq_true (by kernel_rfl)) k0 bel lt0) trodAll_mk0), rfl, bel.frame _, fun h => by cases h⟩

theorem over : Rows.graphDrawsRow.holds Try.pinned (OpenSpec.ofChange Rows.graphDrawsSpec) :=
  OpenClaim.holds_of_wide 4 Try.f4 rfl rfl rfl rfl rfl rfl rfl ⟨rfl, rfl, rfl, rfl, rfl⟩ rfl rfl rfl rfl rfl (by kernel_rfl) Try.func4 (by kernel_rfl)
    (of_decide_eq_true (by kernel_rfl)) (by unfold Func.isWrapper; first | (rw [if_pos (by decide +kernel)]; kernel_rfl) | (rw [if_neg (by decide +kernel)]; exact ⟨rfl, rfl⟩))
    (fun os started H enc _ => lifted os started H enc)

/-- THE STATEMENT. -/
theorem proved : Rows.GraphDrawsSaid := over
end Go.Proofs.Ytpljnapglbmdlaa.graphDraws
