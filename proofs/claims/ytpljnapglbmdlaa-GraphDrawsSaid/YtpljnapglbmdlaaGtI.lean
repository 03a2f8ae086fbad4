/-
  Layer 8: what Draw answers, at any graph; rows written over.
-/
import Derived.Test.YtpljnapglbmdlaaGtC
import Derived.Test.YtpljnapglbmdlaaGtE
import Derived.Test.YtpljnapglbmdlaaGsA
import Derived.Test.YtpljnapglbmdlaaGsH
import Derived.Test.YtpljnapglbmdlaaGrAp
namespace Go.Proofs.Ytpljnapglbmdlaa
open Go Go.RowKit Go.Joins
set_option linter.all false

set_option maxRecDepth 100000 in
set_option maxHeartbeats 4000000 in
theorem sameItem_raw (w : World) (kd : Int) (nm tg : ByteArray) (xa ya : Option Addr) (xc yc : Nat) (xs : List Int) (fn : ByteArray) (fp fa : Int) (tn : ByteArray) (tp ta at_ : Int) (hx : SlAt w xa (Is xs)) (hy : SlAt w ya (Is xs)) (hl : xs.length ≤ 9223372036854775807) :
    Calls Try.prog 33 #[.agg #[.int .u8 kd, .string nm, .string tg, .slice xa xs.length xc, .string fn, I fp, I fa, .string tn, I tp, I ta, I at_], .agg #[.int .u8 kd, .string nm, .string tg, .slice ya xs.length yc, .string fn, I fp, I fa, .string tn, I tp, I ta, I at_]] w fun e w' => e = .returned (.bool true) ∧ New w w' := by
  have hsi : ∀ W (n : New w W), Calls Try.prog 36 #[.slice xa xs.length xc, .slice ya xs.length yc] W fun e w' => e = .returned (.bool true) ∧ ∃ n, w' = W.drewN n := fun W n => sameInts_is W _ _ _ _ _ _ _ _ (hx.new n) (hy.new n) rfl rfl true (decide_eq_true rfl) hl
  clear hx hy
  go_enter Try.func33, Try.ntmps33
  go_wp2_with fail
  refine (hsi _ (((New.refl w).alloc _).alloc _)).mono ?_
  rintro e w2 ⟨rfl, n2, rfl⟩
  go_wp2_with fail
  go_ret
  exact ⟨rfl, (((New.refl w).alloc _).alloc _).drewN _⟩
set_option maxRecDepth 100000 in
set_option maxHeartbeats 16000000 in
theorem same_yes (w : World) (p q : Sk) (hp : SkAt w p) (hq : SkAt w q) (h : p.bare = q.bare) (hl : SLen p) :
    Calls Try.prog 17 #[p.v, q.v] w fun e w' => e = .returned (.bool true) ∧ New w w' := by
  have h1 : p.name = q.name := by have := congrArg Sk.name h; exact this
  have h2 : p.items.map SIt.bare = q.items.map SIt.bare := by have := congrArg Sk.items h; exact this
  have l2 := (map_len h2).symm
  have HP := Lib.hid hp
  have HQ := Lib.hid hq
  have hli := hl.i
  have HL := Lib.hid hl.ix
  clear hp hq hl h
  obtain ⟨pn, pa, pc, pits⟩ := p
  obtain ⟨qn, qa, qc, qits⟩ := q
  simp only at h1 h2 l2 hli HL
  subst h1
  simp only [Sk.v, Sk.cs]
  rw [l2]
  have H2 := Lib.hid h2
  have HL2 := Lib.hid l2
  clear h2 l2
  go_enter Try.func17, Try.ntmps17
  have na : New w (w.alloc (.cells #[.string pn, .slice pa pits.length pc] 35)) := (New.refl w).alloc _
  have ha : (w.alloc (.cells #[.string pn, .slice pa pits.length pc] 35)).heap[w.heap.size]? = some (.cells #[.string pn, .slice pa pits.length pc] 35 (0, 0)) := heap_alloc_new w _
  have sa : (w.alloc (.cells #[.string pn, .slice pa pits.length pc] 35)).heap.size = w.heap.size + 1 := size_alloc _ _
  have nb : New (w.alloc (.cells #[.string pn, .slice pa pits.length pc] 35)) ((w.alloc (.cells #[.string pn, .slice pa pits.length pc] 35)).alloc (.cells #[.string pn, .slice qa pits.length qc] 35)) := (New.refl _).alloc _
  have hb : ((w.alloc (.cells #[.string pn, .slice pa pits.length pc] 35)).alloc (.cells #[.string pn, .slice qa pits.length qc] 35)).heap[w.heap.size + 1]? = some (.cells #[.string pn, .slice qa pits.length qc] 35 (0, 0)) := by
    have := heap_alloc_new (w.alloc (.cells #[.string pn, .slice pa pits.length pc] 35)) (.cells #[.string pn, .slice qa pits.length qc] 35); rwa [sa] at this
  replace ha := Keeps.heap nb ha (fun h => h)
  have kA := na.trans nb
  clear na nb sa
  go_wp2_with fail
  generalize ((w.alloc (.cells #[.string pn, .slice pa pits.length pc] 35)).alloc (.cells #[.string pn, .slice qa pits.length qc] 35)) = W at kA ha hb ⊢
  have HA := Lib.hid ha
  have HB := Lib.hid hb
  clear ha hb
  go_loopw [5] (fun i wr => ∃ k : Nat, k ≤ pits.length ∧ i = .int .i64 k ∧ New W wr) (fun i _ => pits.length - (intOf i).toNat)
  case atStart => exact ⟨0, by omega, rfl, New.refl _⟩
  case round =>
    obtain ⟨k, hk, rfl, hN⟩ := hrel
    obtain ⟨-, c1, -, -, hCl⟩ := sk_cells (Keeps.heap hN HA.out (fun h => h))
    obtain ⟨-, d1, -, -, hDl⟩ := sk_cells (Keeps.heap hN HB.out (fun h => h))
    have hNw := kA.trans hN
    by_cases hk1 : k < pits.length
    · have hk2 : k < qits.length := by have := HL2.out; omega
      have hsx : SlAt wr pa (pits.flatMap itCells) := (HP.out.new hNw).sl
      have hsy : SlAt wr qa (qits.flatMap itCells) := (HQ.out.new hNw).sl
      obtain ⟨b1, o1, e1, q0, q1, q2, q3, q4, q5, q6, q7, q8, q9, q10⟩ := items_row hsx hk1
      obtain ⟨b2, o2, e2, p0, p1, p2, p3, p4, p5, p6, p7, p8, p9, p10⟩ := items_row hsy hk2
      have hx := (HP.out.new hNw).nx _ (List.getElem_mem hk1)
      have hy := (HQ.out.new hNw).nx _ (List.getElem_mem hk2)
      have he := map_at H2.out k hk1 hk2
      have hxl := (HL.out _ (List.getElem_mem hk1)).1
      clear hsx hsy
      subst e1 e2
      have hk0 : (k : Int) < (pits.length : Int) := by omega
      have hkd : decide (k < pits.length) = true := decide_eq_true hk1
      generalize pits[k] = x at q0 q1 q2 q3 q4 q5 q6 q7 q8 q9 q10 hx he hxl
      generalize qits[k] = y at p0 p1 p2 p3 p4 p5 p6 p7 p8 p9 p10 hy he
      obtain ⟨kd, nm, tg, xa, xc, xs, fn, fp, fa, tn, tp, ta, at_⟩ := x
      obtain ⟨kd2, nm2, tg2, ya, yc, ys, fn2, fp2, fa2, tn2, tp2, ta2, at2⟩ := y
      simp only [SIt.bare, SIt.mk.injEq, true_and] at he
      obtain ⟨rfl, rfl, rfl, rfl, rfl, rfl, rfl, rfl, rfl, rfl, rfl⟩ := he
      simp only at q0 q1 q2 q3 q4 q5 q6 q7 q8 q9 q10 p0 p1 p2 p3 p4 p5 p6 p7 p8 p9 p10 hx hy hxl
      have hsm : ∀ W, New wr W → Calls Try.prog 33 #[.agg #[.int .u8 kd, .string nm, .string tg, .slice xa xs.length xc, .string fn, I fp, I fa, .string tn, I tp, I ta, I at_], .agg #[.int .u8 kd, .string nm, .string tg, .slice ya xs.length yc, .string fn, I fp, I fa, .string tn, I tp, I ta, I at_]] W fun e w' => e = .returned (.bool true) ∧ New wr w' := fun W n => (sameItem_raw W kd nm tg xa ya xc yc xs fn fp fa tn tp ta at_ (hx.new n) (hy.new n) hxl).mono (fun e w' h => ⟨h.1, n.trans h.2⟩)
      clear hx hy
      go_wp2_with fail
      go_region_held3 (fun w' : World => w'.cell? ⟨w.heap.size, 1, none⟩ = some (.slice (some ⟨b1, o1, none⟩) pits.length pc) ∧ w'.cell? ⟨w.heap.size + 1, 1, none⟩ = some (.slice (some ⟨b2, o2, none⟩) pits.length qc) ∧ w'.cell? ⟨b1, o1 + k * 11, none⟩ = some (.int .u8 kd) ∧ w'.cell? ⟨b1, o1 + k * 11 + 1, none⟩ = some (.string nm) ∧ w'.cell? ⟨b1, o1 + k * 11 + 2, none⟩ = some (.string tg) ∧ w'.cell? ⟨b1, o1 + k * 11 + 3, none⟩ = some (.slice xa xs.length xc) ∧ w'.cell? ⟨b1, o1 + k * 11 + 4, none⟩ = some (.string fn) ∧ w'.cell? ⟨b1, o1 + k * 11 + 5, none⟩ = some (I fp) ∧ w'.cell? ⟨b1, o1 + k * 11 + 6, none⟩ = some (I fa) ∧ w'.cell? ⟨b1, o1 + k * 11 + 7, none⟩ = some (.string tn) ∧ w'.cell? ⟨b1, o1 + k * 11 + 8, none⟩ = some (I tp) ∧ w'.cell? ⟨b1, o1 + k * 11 + 9, none⟩ = some (I ta) ∧ w'.cell? ⟨b1, o1 + k * 11 + 10, none⟩ = some (I at_) ∧ w'.cell? ⟨b2, o2 + k * 11, none⟩ = some (.int .u8 kd) ∧ w'.cell? ⟨b2, o2 + k * 11 + 1, none⟩ = some (.string nm) ∧ w'.cell? ⟨b2, o2 + k * 11 + 2, none⟩ = some (.string tg) ∧ w'.cell? ⟨b2, o2 + k * 11 + 3, none⟩ = some (.slice ya xs.length yc) ∧ w'.cell? ⟨b2, o2 + k * 11 + 4, none⟩ = some (.string fn) ∧ w'.cell? ⟨b2, o2 + k * 11 + 5, none⟩ = some (I fp) ∧ w'.cell? ⟨b2, o2 + k * 11 + 6, none⟩ = some (I fa) ∧ w'.cell? ⟨b2, o2 + k * 11 + 7, none⟩ = some (.string tn) ∧ w'.cell? ⟨b2, o2 + k * 11 + 8, none⟩ = some (I tp) ∧ w'.cell? ⟨b2, o2 + k * 11 + 9, none⟩ = some (I ta) ∧ w'.cell? ⟨b2, o2 + k * 11 + 10, none⟩ = some (I at_) ∧ New wr w')
        ((refine ⟨New.cell (w := wr) ?_ c1, New.cell (w := wr) ?_ d1, New.cell (w := wr) ?_ q0, New.cell (w := wr) ?_ q1, New.cell (w := wr) ?_ q2, New.cell (w := wr) ?_ q3, New.cell (w := wr) ?_ q4, New.cell (w := wr) ?_ q5, New.cell (w := wr) ?_ q6, New.cell (w := wr) ?_ q7, New.cell (w := wr) ?_ q8, New.cell (w := wr) ?_ q9, New.cell (w := wr) ?_ q10, New.cell (w := wr) ?_ p0, New.cell (w := wr) ?_ p1, New.cell (w := wr) ?_ p2, New.cell (w := wr) ?_ p3, New.cell (w := wr) ?_ p4, New.cell (w := wr) ?_ p5, New.cell (w := wr) ?_ p6, New.cell (w := wr) ?_ p7, New.cell (w := wr) ?_ p8, New.cell (w := wr) ?_ p9, New.cell (w := wr) ?_ p10, ?_⟩ <;> (repeat (first | exact New.refl wr | exact n3 | refine New.drew ?_))))
        ((go_at_call 33; (first | refine (hsm _ (New.refl wr)).mono ?_ | refine (hsm _ ((New.refl wr).drew)).mono ?_); rintro e w3 ⟨rfl, n3⟩))
      have hN3 := hN.trans n3
      simp only [Exit.then]
      clear c1 d1 q0 q1 q2 q3 q4 q5 q6 q7 q8 q9 q10 p0 p1 p2 p3 p4 p5 p6 p7 p8 p9 p10 hsm
      go_wp2_with fail
      go_roundw
      case rel => exact ⟨k + 1, by omega, by go_num, by first | exact hN3 | exact hN3.drew⟩
      case measure => simp [intOf]; omega
    · have hkd : decide (k < pits.length) = false := decide_eq_false hk1
      have hkI : (pits.length : Int) ≤ (k : Int) := by omega
      go_wp2_with fail
      go_ret
      exact ⟨rfl, hNw⟩
def drawD (g : Gr) : Sk := if (findG g).1 ≠ 0 then ⟨⟨#[]⟩, none, 0, []⟩ else drawS g
theorem Drawn.uni {w w' : World} {g : Gr} {e : Ending} (h : Drawn w g e w') : ∃ s : Sk, e = .returned (.tuple #[s.v, I (findG g).1]) ∧ SkOwn w' w.heap.size s ∧ s.bare = drawD g ∧ New w w' := by
  unfold Drawn at h
  by_cases h0 : (findG g).1 = 0
  · rw [if_neg (fun h => h h0)] at h
    obtain ⟨s, h1, h2, h3, h4⟩ := h
    refine ⟨s, by rw [h0]; exact h1, h2, ?_, h4⟩
    unfold drawD; rw [if_neg (fun h => h h0)]; exact h3
  · rw [if_pos h0] at h
    refine ⟨⟨⟨#[]⟩, none, 0, []⟩, h.1, ⟨World.ownsRow_nil _ _ _ _, (fun x hx => by cases hx), List.Pairwise.nil⟩, ?_, h.2⟩
    unfold drawD; rw [if_pos h0]; rfl
theorem nameAt_bare (g : Gr) : nameAt g.bare = nameAt g := by
  funext a
  unfold nameAt Gr.bare
  simp only [List.getD_eq_getElem?_getD, List.getElem?_map]
  cases g.acts[a.toNat]? <;> rfl
theorem drawS_bare (g : Gr) : drawS g.bare = drawS g := by
  unfold drawS drawI
  have h1 : (fun x => edgeIt g.bare (GEdge.bare x)) = edgeIt g := by funext x; unfold edgeIt; rw [nameAt_bare]; rfl
  have h2 : inIt g.bare = inIt g := by funext x; unfold inIt; rw [nameAt_bare]
  have h3 : outIt g.bare = outIt g := by funext x; unfold outIt; rw [nameAt_bare]
  rw [h2, h3]
  simp only [Gr.bare, List.map_map]
  have h1' : edgeIt { name := g.name, aa := none, ac := 0, acts := List.map GAct.bare g.acts, ea := none, ec := 0, edges := List.map GEdge.bare g.edges, ia := none, ic := 0, ins := g.ins, oa := none, oc := 0, outs := g.outs } ∘ GEdge.bare = edgeIt g := h1
  rw [h1']
  rfl
theorem drawD_same {q g : Gr} (h : q.bare = g.bare) : drawD q = drawD g := by
  unfold drawD
  rw [findG_same h, ← drawS_bare q, h, drawS_bare]
theorem drawD_small {s : Sk} {g : Gr} (h : s.bare = drawD g) (hw : GFew g) : SLen s ∧ (∀ x ∈ s.items, x.kind ≤ 4) ∧ s.items.length ≤ 160 ∧ (∀ x ∈ s.items, x.xs.length ≤ 1024) := by
  by_cases h0 : (findG g).1 = 0
  · have hb : s.bare = drawS g := by rw [h]; unfold drawD; rw [if_neg (fun h => h h0)]
    have hf := (find_fair h0).1
    obtain ⟨h1, h2, h3, h4⟩ := draw_small hb hf hw
    refine ⟨h1, fun x hx => (h2 x hx).2, h3, fun x hx => ?_⟩
    have hi : s.items.map SIt.bare = drawI g := by have := congrArg Sk.items hb; exact this
    have hm : x.bare ∈ drawI g := hi ▸ List.mem_map_of_mem hx
    have hl : ∀ y ∈ drawI g, y.xs.length ≤ 1024 := by
      intro y hy
      unfold drawI at hy
      simp only [List.mem_append, List.mem_map] at hy
      rcases hy with ((⟨z, hz, rfl⟩ | ⟨z, hz, rfl⟩) | ⟨z, hz, rfl⟩) | ⟨z, hz, rfl⟩
      · have := (shape_good (hf.shp z hz)).2.2
        show z.xs.length ≤ 1024
        omega
      · have := hf.ln z hz
        show z.xs.length ≤ 1024
        omega
      · simp [inIt]
      · simp [outIt]
    have := hl _ hm; exact this
  · have hb : s.bare = ⟨⟨#[]⟩, none, 0, []⟩ := by rw [h]; unfold drawD; rw [if_pos h0]
    have hi : s.items = [] := by have := congrArg Sk.items hb; exact List.map_eq_nil_iff.1 this
    have hn : s.name = ⟨#[]⟩ := by have := congrArg Sk.name hb; exact this
    refine ⟨⟨by rw [hi]; simp, by rw [hn]; decide, (fun x hx => by rw [hi] at hx; cases hx)⟩, (fun x hx => by rw [hi] at hx; cases hx), by rw [hi]; simp, (fun x hx => by rw [hi] at hx; cases hx)⟩

def sEnt (x : SIt) : Ent := ⟨x.a, x.c, x.xs⟩
/-- Two sketches' lists of numbers, apart. -/
theorem ents_apart {w v : World} {B B2 : Nat} {s t : Sk} (hs : SkOwn v B s) (ht : SkOwn w B2 t) (h2 : v.heap.size ≤ B2) : (s.items.map sEnt ++ t.items.map sEnt).Pairwise disj := by
  rw [List.pairwise_append]
  refine ⟨?_, ?_, ?_⟩
  · rw [List.pairwise_map]
    have := hs.ap
    rw [List.pairwise_map] at this
    exact this
  · rw [List.pairwise_map]
    have := ht.ap
    rw [List.pairwise_map] at this
    exact this
  · intro a ha b hb k hk1 hk2
    obtain ⟨x, hx, rfl⟩ := List.mem_map.1 ha
    obtain ⟨y, hy, rfl⟩ := List.mem_map.1 hb
    have h3 := (own_of_blk (hs.nx x hx) hk1).2
    have h4 := (own_of_blk (ht.nx y hy) hk2).1
    omega
/-- A row whose cells are known to be there alone. -/
theorem row_any {w : World} {B b n cap size : Nat} {T : TypeId} {cur : Array Value} (hb : w.heap[b]? = some (.cells cur T (0, 0))) (hB : B ≤ b) (hs : cur.size = cap * size) (hn : n ≤ cap) (hm : cap ≤ maxLen) : ∃ xs, w.ownsRow B T size (.slice (some ⟨b, 0, none⟩) n cap) n xs :=
  ⟨cur.toList.take (n * size), by rw [List.length_take, Array.length_toList, hs]; exact Nat.min_eq_left (Nat.mul_le_mul_right _ hn), .inr ⟨b, cap, cur, rfl, hB, hb, hn, hm, hs, rfl⟩⟩
abbrev set11 (w : World) (b o : Nat) (v0 v1 v2 v3 v4 v5 v6 v7 v8 v9 v10 : Value) : World :=
  (((((((((((w.setCell ⟨b, o, none⟩ v0).setCell ⟨b, o + 1, none⟩ v1).setCell ⟨b, o + 2, none⟩ v2).setCell ⟨b, o + 3, none⟩ v3).setCell ⟨b, o + 4, none⟩ v4).setCell ⟨b, o + 5, none⟩ v5).setCell ⟨b, o + 6, none⟩ v6).setCell ⟨b, o + 7, none⟩ v7).setCell ⟨b, o + 8, none⟩ v8).setCell ⟨b, o + 9, none⟩ v9).setCell ⟨b, o + 10, none⟩ v10)
theorem set11_block {w : World} {b o : Nat} {cur : Array Value} {T : TypeId} (h : w.heap[b]? = some (.cells cur T (0, 0))) (v0 v1 v2 v3 v4 v5 v6 v7 v8 v9 v10 : Value) :
    (∃ cur', (set11 w b o v0 v1 v2 v3 v4 v5 v6 v7 v8 v9 v10).heap[b]? = some (.cells cur' T (0, 0)) ∧ cur'.size = cur.size) ∧ Keeps (fun k => k = b) w (set11 w b o v0 v1 v2 v3 v4 v5 v6 v7 v8 v9 v10) := by
  have st : ∀ {w : World} {cur : Array Value} (i : Nat) (v : Value), w.heap[b]? = some (.cells cur T (0, 0)) → (∃ cur', (w.setCell ⟨b, i, none⟩ v).heap[b]? = some (.cells cur' T (0, 0)) ∧ cur'.size = cur.size) := fun i v h => ⟨_, block_setCell h v, by simp⟩
  have kp : ∀ (w : World) (i : Nat) (v : Value), Keeps (fun k => k = b) w (w.setCell ⟨b, i, none⟩ v) := fun w i v => Keeps.setCell w _ _ rfl
  have tr : ∀ {a b' c : World}, Keeps (fun k => k = b) a b' → Keeps (fun k => k = b) b' c → Keeps (fun k => k = b) a c := fun h k => h.trans k (fun _ _ h => h)
  refine ⟨?_, tr (tr (tr (tr (tr (tr (tr (tr (tr (tr (kp _ _ _) (kp _ _ _)) (kp _ _ _)) (kp _ _ _)) (kp _ _ _)) (kp _ _ _)) (kp _ _ _)) (kp _ _ _)) (kp _ _ _)) (kp _ _ _)) (kp _ _ _)⟩
  obtain ⟨c0, h0, e0⟩ := st o v0 h
  obtain ⟨c1, h1, e1⟩ := st (o + 1) v1 h0
  obtain ⟨c2, h2, e2⟩ := st (o + 2) v2 h1
  obtain ⟨c3, h3, e3⟩ := st (o + 3) v3 h2
  obtain ⟨c4, h4, e4⟩ := st (o + 4) v4 h3
  obtain ⟨c5, h5, e5⟩ := st (o + 5) v5 h4
  obtain ⟨c6, h6, e6⟩ := st (o + 6) v6 h5
  obtain ⟨c7, h7, e7⟩ := st (o + 7) v7 h6
  obtain ⟨c8, h8, e8⟩ := st (o + 8) v8 h7
  obtain ⟨c9, h9, e9⟩ := st (o + 9) v9 h8
  obtain ⟨c10, h10, e10⟩ := st (o + 10) v10 h9
  exact ⟨c10, h10, by omega⟩
theorem cell_there {w : World} {b i : Nat} {cur : Array Value} {T : TypeId} (h : w.heap[b]? = some (.cells cur T (0, 0))) (hi : i < cur.size) : ∃ v, w.cell? ⟨b, i, none⟩ = some v := by
  rw [cell_of_block h i]
  exact ⟨cur[i], by simp [hi]⟩
end Go.Proofs.Ytpljnapglbmdlaa
