/-
  Layer 5: two sketches that are the same, or the same but for their places.
-/
import Derived.Test.YtohalcbhckahmaaDoorSkK
import Derived.Test.YtohalcbhckahmaaDoorSkQ
import Derived.Test.YtohalcbhckahmaaDoorSkX
namespace Go.Proofs.YtohalcbhckahmaaDoor
open Go Go.RowKit Go.Joins
set_option linter.all false

theorem sameInts_is (w : World) (ao bo : Option Addr) (xs ys : List Int) (n m c d : Nat) (hx : SlAt w ao (Is xs)) (hy : SlAt w bo (Is ys)) (hn : n = xs.length) (hm : m = ys.length) (b : Bool) (hb : decide (xs = ys) = b)
   (lx : xs.length ≤ 9223372036854775807) :
    Calls Tryd.prog 62 #[.slice ao n c, .slice bo m d] w fun e w' => e = .returned (.bool b) ∧ ∃ n, w' = w.drewN n := by
  subst hn hm hb
  exact sameInts_any w ao bo xs ys c d hx hy lx
set_option maxRecDepth 100000 in
set_option maxHeartbeats 4000000 in
theorem sameItem_raw (w : World) (kd : Int) (nm tg : ByteArray) (xa ya : Option Addr) (xc yc : Nat) (xs : List Int) (fn : ByteArray) (fp fa : Int) (tn : ByteArray) (tp ta at_ : Int) (hx : SlAt w xa (Is xs)) (hy : SlAt w ya (Is xs)) (hl : xs.length ≤ 9223372036854775807) :
    Calls Tryd.prog 36 #[.agg #[.int .u8 kd, .string nm, .string tg, .slice xa xs.length xc, .string fn, I fp, I fa, .string tn, I tp, I ta, I at_], .agg #[.int .u8 kd, .string nm, .string tg, .slice ya xs.length yc, .string fn, I fp, I fa, .string tn, I tp, I ta, I at_]] w fun e w' => e = .returned (.bool true) ∧ New w w' := by
  have hsi : ∀ W (n : New w W), Calls Tryd.prog 62 #[.slice xa xs.length xc, .slice ya xs.length yc] W fun e w' => e = .returned (.bool true) ∧ ∃ n, w' = W.drewN n := fun W n => sameInts_is W _ _ _ _ _ _ _ _ (hx.new n) (hy.new n) rfl rfl true (decide_eq_true rfl) hl
  clear hx hy
  go_enter Tryd.func36, Tryd.ntmps36
  go_wp2_with fail
  refine (hsi _ (((New.refl w).alloc _).alloc _)).mono ?_
  rintro e w2 ⟨rfl, n2, rfl⟩
  go_wp2_with fail
  go_ret
  exact ⟨rfl, (((New.refl w).alloc _).alloc _).drewN _⟩
set_option maxRecDepth 100000 in
set_option maxHeartbeats 8000000 in
theorem rbare_raw (w : World) (kd : Int) (nm tg : ByteArray) (xa : Option Addr) (xc : Nat) (xs : List Int) (fn : ByteArray) (fp fa : Int) (tn : ByteArray) (tp ta at_ : Int) :
    Calls Tryd.prog 49 #[.agg #[.int .u8 kd, .string nm, .string tg, .slice xa xs.length xc, .string fn, I fp, I fa, .string tn, I tp, I ta, I at_]] w fun e w' => e = .returned (.agg #[.int .u8 kd, .string nm, .string tg, .slice xa xs.length xc, .string fn, I fp, I 0, .string tn, I tp, I 0, I 0]) ∧ New w w' := by
  have hz : (w.alloc (.cells #[.int .u8 kd, .string nm, .string tg, .slice xa xs.length xc, .string fn, I fp, I fa, .string tn, I tp, I ta, I at_] 42)).heap.size = w.heap.size + 1 := by simp
  have nW : New w ((w.alloc (.cells #[.int .u8 kd, .string nm, .string tg, .slice xa xs.length xc, .string fn, I fp, I fa, .string tn, I tp, I ta, I at_] 42)).alloc (.cells #[.int .u8 0, .string ⟨#[]⟩, .string ⟨#[]⟩, .slice none 0 0, .string ⟨#[]⟩, I 0, I 0, .string ⟨#[]⟩, I 0, I 0, I 0] 42)) := ((New.refl w).alloc _).alloc _
  have hC : ((w.alloc (.cells #[.int .u8 kd, .string nm, .string tg, .slice xa xs.length xc, .string fn, I fp, I fa, .string tn, I tp, I ta, I at_] 42)).alloc (.cells #[.int .u8 0, .string ⟨#[]⟩, .string ⟨#[]⟩, .slice none 0 0, .string ⟨#[]⟩, I 0, I 0, .string ⟨#[]⟩, I 0, I 0, I 0] 42)).heap[w.heap.size]? = some (.cells #[.int .u8 kd, .string nm, .string tg, .slice xa xs.length xc, .string fn, I fp, I fa, .string tn, I tp, I ta, I at_] 42 (0, 0)) := Keeps.heap (Keeps.alloc (S := fun _ => False) _ _) (heap_alloc_new w _) (fun h => h)
  have hR : ((w.alloc (.cells #[.int .u8 kd, .string nm, .string tg, .slice xa xs.length xc, .string fn, I fp, I fa, .string tn, I tp, I ta, I at_] 42)).alloc (.cells #[.int .u8 0, .string ⟨#[]⟩, .string ⟨#[]⟩, .slice none 0 0, .string ⟨#[]⟩, I 0, I 0, .string ⟨#[]⟩, I 0, I 0, I 0] 42)).heap[w.heap.size + 1]? = some (.cells #[.int .u8 0, .string ⟨#[]⟩, .string ⟨#[]⟩, .slice none 0 0, .string ⟨#[]⟩, I 0, I 0, .string ⟨#[]⟩, I 0, I 0, I 0] 42 (0, 0)) := by
    have := heap_alloc_new (w.alloc (.cells #[.int .u8 kd, .string nm, .string tg, .slice xa xs.length xc, .string fn, I fp, I fa, .string tn, I tp, I ta, I at_] 42)) (.cells #[.int .u8 0, .string ⟨#[]⟩, .string ⟨#[]⟩, .slice none 0 0, .string ⟨#[]⟩, I 0, I 0, .string ⟨#[]⟩, I 0, I 0, I 0] 42); rwa [hz] at this
  clear hz
  obtain ⟨⟨x0, x1, x2, x3, x4, x5, x6, x7, x8, x9, x10⟩, zx, hXl⟩ := it_get hC
  have z6 := zx 6
  have z9 := zx 9
  have z10 := zx 10
  have HC := Lib.hid hC
  have HR := Lib.hid hR
  have HN := Lib.hid nW
  clear zx hC hR nW
  go_enter Tryd.func49, Tryd.ntmps49
  go_upto_region 1 with (fail)
  generalize ((w.alloc (.cells #[.int .u8 kd, .string nm, .string tg, .slice xa xs.length xc, .string fn, I fp, I fa, .string tn, I tp, I ta, I at_] 42)).alloc (.cells #[.int .u8 0, .string ⟨#[]⟩, .string ⟨#[]⟩, .slice none 0 0, .string ⟨#[]⟩, I 0, I 0, .string ⟨#[]⟩, I 0, I 0, I 0] 42)) = W at *
  obtain ⟨C, hCe⟩ : ∃ C, C = w.heap.size := ⟨_, rfl⟩
  rw [← hCe] at x0 x1 x2 x3 x4 x5 x6 x7 x8 x9 x10 z6 z9 z10 hXl HC HR ⊢
  have HCE := Lib.hid hCe
  clear hCe
  go_upto_region 4 with (fail)
  have hc1 := block_setCell (i := 10) HC.out (I 0)
  have hc2 := block_setCell (i := 6) hc1 (I 0)
  have hc3 := block_setCell (i := 9) hc2 (I 0)
  have k3 : Keeps (fun k => k = C) W (((W.setCell ⟨C, 10, none⟩ (I 0)).setCell ⟨C, 6, none⟩ (I 0)).setCell ⟨C, 9, none⟩ (I 0)) := ((Keeps.setCell (S := fun k => k = C) W _ _ rfl).trans (Keeps.setCell (S := fun k => k = C) _ _ _ rfl) (fun _ _ h => h)).trans (Keeps.setCell (S := fun k => k = C) _ _ _ rfl) (fun _ _ h => h)
  have hr3 := k3.heap HR.out (by omega)
  have n3 : New w (((W.setCell ⟨C, 10, none⟩ (I 0)).setCell ⟨C, 6, none⟩ (I 0)).setCell ⟨C, 9, none⟩ (I 0)) := New.keeps HN.out k3 (fun i hi h => by have := HCE.out; omega)
  have hc4 : (((W.setCell ⟨C, 10, none⟩ (I 0)).setCell ⟨C, 6, none⟩ (I 0)).setCell ⟨C, 9, none⟩ (I 0)).heap[C]? = some (.cells #[.int .u8 kd, .string nm, .string tg, .slice xa xs.length xc, .string fn, I fp, I 0, .string tn, I tp, I 0, I 0] 42 (0, 0)) := by rw [hc3]; simp
  clear hc1 hc2 hc3 k3 x0 x1 x2 x3 x4 x5 x6 x7 x8 x9 x10 z6 z9 z10 hXl HC HR HN
  generalize (((W.setCell ⟨C, 10, none⟩ (I 0)).setCell ⟨C, 6, none⟩ (I 0)).setCell ⟨C, 9, none⟩ (I 0)) = V at *
  obtain ⟨⟨x0, x1, x2, x3, x4, x5, x6, x7, x8, x9, x10⟩, -, hXl⟩ := it_get hc4
  obtain ⟨⟨r0, r1, r2, r3, r4, r5, r6, r7, r8, r9, r10⟩, zr, hRl⟩ := it_get hr3
  have q0 := zr 0
  have q1 := zr 1
  have q2 := zr 2
  have q3 := zr 3
  have q4 := zr 4
  have q5 := zr 5
  have q6 := zr 6
  have q7 := zr 7
  have q8 := zr 8
  have q9 := zr 9
  have q10 := zr 10
  have hst := it_set11 hr3 (.int .u8 kd) (.string nm) (.string tg) (.slice xa xs.length xc) (.string fn) (I fp) (I 0) (.string tn) (I tp) (I 0) (I 0)
  have HF := Lib.hid hst.1
  have HN2 := Lib.hid (New.keeps n3 hst.2 (fun i hi h => by have := HCE.out; omega))
  clear hst hc4 hr3 n3 zr
  go_wp2_with fail
  have hbf := HF.out
  have hnf := HN2.out
  clear HF HN2 r0 r1 r2 r3 r4 r5 r6 r7 r8 r9 r10 q0 q1 q2 q3 q4 q5 q6 q7 q8 q9 q10
  generalize (((((((((((V.setCell ⟨C + 1, 0, none⟩ (.int .u8 kd)).setCell ⟨C + 1, 1, none⟩ (.string nm)).setCell ⟨C + 1, 2, none⟩ (.string tg)).setCell ⟨C + 1, 3, none⟩ (.slice xa xs.length xc)).setCell ⟨C + 1, 4, none⟩ (.string fn)).setCell ⟨C + 1, 5, none⟩ (I fp)).setCell ⟨C + 1, 6, none⟩ (I 0)).setCell ⟨C + 1, 7, none⟩ (.string tn)).setCell ⟨C + 1, 8, none⟩ (I tp)).setCell ⟨C + 1, 9, none⟩ (I 0)).setCell ⟨C + 1, 10, none⟩ (I 0)) = Wf at hbf hnf ⊢
  obtain ⟨⟨r0, r1, r2, r3, r4, r5, r6, r7, r8, r9, r10⟩, -, -⟩ := it_get hbf
  refine bodyPost_ret (v := .agg #[.int .u8 kd, .string nm, .string tg, .slice xa xs.length xc, .string fn, I fp, I 0, .string tn, I tp, I 0, I 0]) (by simp [results, Tryd.results49, go_sem, r0, r1, r2, r3, r4, r5, r6, r7, r8, r9, r10]) rfl ?_
  exact ⟨rfl, hnf⟩
/-- An item without its places. -/
def SIt.noat (x : SIt) : SIt := { x with a := none, c := 0, fa := 0, ta := 0, at_ := 0 }
set_option maxRecDepth 100000 in
set_option maxHeartbeats 16000000 in
theorem alike_yes (w : World) (p q : Sk) (hp : SkAt w p) (hq : SkAt w q) (h1 : p.name = q.name) (h2 : p.items.map SIt.noat = q.items.map SIt.noat) (hli : p.items.length ≤ 9223372036854775807) (hlx : ∀ x ∈ p.items, x.xs.length ≤ 9223372036854775807) :
    Calls Tryd.prog 21 #[p.v, q.v] w fun e w' => e = .returned (.bool true) ∧ New w w' := by
  skip
  have l2 := (map_len h2).symm
  have HP := Lib.hid hp
  have HQ := Lib.hid hq
  have HL := Lib.hid hlx
  clear hp hq hlx
  obtain ⟨pn, pa, pc, pits⟩ := p
  obtain ⟨qn, qa, qc, qits⟩ := q
  simp only at h1 h2 l2 hli HL
  subst h1
  simp only [Sk.v, Sk.cs]
  rw [l2]
  have H2 := Lib.hid h2
  have HL2 := Lib.hid l2
  clear h2 l2
  go_enter Tryd.func21, Tryd.ntmps21
  have na : New w (w.alloc (.cells #[.string pn, .slice pa pits.length pc] 24)) := (New.refl w).alloc _
  have ha : (w.alloc (.cells #[.string pn, .slice pa pits.length pc] 24)).heap[w.heap.size]? = some (.cells #[.string pn, .slice pa pits.length pc] 24 (0, 0)) := heap_alloc_new w _
  have sa : (w.alloc (.cells #[.string pn, .slice pa pits.length pc] 24)).heap.size = w.heap.size + 1 := by simp
  have nb : New (w.alloc (.cells #[.string pn, .slice pa pits.length pc] 24)) ((w.alloc (.cells #[.string pn, .slice pa pits.length pc] 24)).alloc (.cells #[.string pn, .slice qa pits.length qc] 24)) := (New.refl _).alloc _
  have hb : ((w.alloc (.cells #[.string pn, .slice pa pits.length pc] 24)).alloc (.cells #[.string pn, .slice qa pits.length qc] 24)).heap[w.heap.size + 1]? = some (.cells #[.string pn, .slice qa pits.length qc] 24 (0, 0)) := by
    have := heap_alloc_new (w.alloc (.cells #[.string pn, .slice pa pits.length pc] 24)) (.cells #[.string pn, .slice qa pits.length qc] 24); rwa [sa] at this
  replace ha := Keeps.heap nb ha (fun h => h)
  have kA := na.trans nb
  clear na nb sa
  go_wp2_with fail
  generalize ((w.alloc (.cells #[.string pn, .slice pa pits.length pc] 24)).alloc (.cells #[.string pn, .slice qa pits.length qc] 24)) = W at kA ha hb ⊢
  have HA := Lib.hid ha
  have HB := Lib.hid hb
  clear ha hb
  obtain ⟨PB, hPB⟩ : ∃ b, w.heap.size = b := ⟨_, rfl⟩
  rw [hPB] at HA HB ⊢
  obtain ⟨QB, hQB⟩ : ∃ b, PB + 1 = b := ⟨_, rfl⟩
  rw [hQB] at HB ⊢
  clear hPB hQB
  go_loopw [5] (fun i wr => ∃ k : Nat, k ≤ pits.length ∧ i = .int .i64 k ∧ New W wr) (fun i _ => pits.length - (intOf i).toNat)
  case atStart => exact ⟨0, by omega, rfl, New.refl _⟩
  case round =>
    obtain ⟨k, hk, rfl, hN⟩ := hrel
    obtain ⟨-, c1, -, -, hCl⟩ := sk_get (Keeps.heap hN HA.out (fun h => h))
    obtain ⟨-, d1, -, -, hDl⟩ := sk_get (Keeps.heap hN HB.out (fun h => h))
    have hNw := kA.trans hN
    by_cases hk1 : k < pits.length
    · have hk2 : k < qits.length := by have := HL2.out; omega
      have hsx : SlAt wr pa (pits.flatMap itCells) := (HP.out.new hNw).sl
      have hsy : SlAt wr qa (qits.flatMap itCells) := (HQ.out.new hNw).sl
      obtain ⟨b1, o1, e1, q0, q1, q2, q3, q4, q5, q6, q7, q8, q9, q10⟩ := items_row hsx hk1
      obtain ⟨b2, o2, e2, p0, p1, p2, p3, p4, p5, p6, p7, p8, p9, p10⟩ := items_row hsy hk2
      have hx := (HP.out.new hNw).nx _ (List.getElem_mem hk1)
      have hy := (HQ.out.new hNw).nx _ (List.getElem_mem hk2)
      have he := map_at H2.out k hk1 hk2
      have hxl := HL.out _ (List.getElem_mem hk1)
      clear hsx hsy
      subst e1 e2
      have hk0 : (k : Int) < (pits.length : Int) := by omega
      have hkd : decide (k < pits.length) = true := decide_eq_true hk1
      generalize pits[k] = x at q0 q1 q2 q3 q4 q5 q6 q7 q8 q9 q10 hx he hxl
      generalize qits[k] = y at p0 p1 p2 p3 p4 p5 p6 p7 p8 p9 p10 hy he
      obtain ⟨kd, nm, tg, xa, xc, xs, fn, fp, fax, tn, tp, tax, atx⟩ := x
      obtain ⟨kd2, nm2, tg2, ya, yc, ys, fn2, fp2, fay, tn2, tp2, tay, aty⟩ := y
      simp only [SIt.noat, SIt.mk.injEq, true_and, and_true] at he
      obtain ⟨rfl, rfl, rfl, rfl, rfl, rfl, rfl, rfl⟩ := he
      simp only at q0 q1 q2 q3 q4 q5 q6 q7 q8 q9 q10 p0 p1 p2 p3 p4 p5 p6 p7 p8 p9 p10 hx hy hxl
      have hsm : ∀ W, New wr W → Calls Tryd.prog 36 #[.agg #[.int .u8 kd, .string nm, .string tg, .slice xa xs.length xc, .string fn, I fp, I 0, .string tn, I tp, I 0, I 0], .agg #[.int .u8 kd, .string nm, .string tg, .slice ya xs.length yc, .string fn, I fp, I 0, .string tn, I tp, I 0, I 0]] W fun e w' => e = .returned (.bool true) ∧ New W w' := fun W n => sameItem_raw W kd nm tg xa ya xc yc xs fn fp 0 tn tp 0 0 (hx.new n) (hy.new n) hxl
      have hbx : ∀ W, Calls Tryd.prog 49 #[.agg #[.int .u8 kd, .string nm, .string tg, .slice xa xs.length xc, .string fn, I fp, I fax, .string tn, I tp, I tax, I atx]] W fun e w' => e = .returned (.agg #[.int .u8 kd, .string nm, .string tg, .slice xa xs.length xc, .string fn, I fp, I 0, .string tn, I tp, I 0, I 0]) ∧ New W w' := fun W => rbare_raw W kd nm tg xa xc xs fn fp fax tn tp tax atx
      have hby : ∀ W, Calls Tryd.prog 49 #[.agg #[.int .u8 kd, .string nm, .string tg, .slice ya xs.length yc, .string fn, I fp, I fay, .string tn, I tp, I tay, I aty]] W fun e w' => e = .returned (.agg #[.int .u8 kd, .string nm, .string tg, .slice ya xs.length yc, .string fn, I fp, I 0, .string tn, I tp, I 0, I 0]) ∧ New W w' := fun W => rbare_raw W kd nm tg ya yc xs fn fp fay tn tp tay aty
      clear hx hy
      have hB1 := World.block_lt_of_cell? _ _ q0
      have hB2 := World.block_lt_of_cell? _ _ p0
      go_wp2_with fail
      have hS0 : (fun w' : World => w'.cell? ⟨PB, 1, none⟩ = some (.slice (some ⟨b1, o1, none⟩) pits.length pc) ∧ w'.cell? ⟨QB, 1, none⟩ = some (.slice (some ⟨b2, o2, none⟩) pits.length qc) ∧ w'.cell? ⟨b1, o1 + k * 11, none⟩ = some (.int .u8 kd) ∧ w'.cell? ⟨b1, o1 + k * 11 + 1, none⟩ = some (.string nm) ∧ w'.cell? ⟨b1, o1 + k * 11 + 2, none⟩ = some (.string tg) ∧ w'.cell? ⟨b1, o1 + k * 11 + 3, none⟩ = some (.slice xa xs.length xc) ∧ w'.cell? ⟨b1, o1 + k * 11 + 4, none⟩ = some (.string fn) ∧ w'.cell? ⟨b1, o1 + k * 11 + 5, none⟩ = some (I fp) ∧ w'.cell? ⟨b1, o1 + k * 11 + 6, none⟩ = some (I fax) ∧ w'.cell? ⟨b1, o1 + k * 11 + 7, none⟩ = some (.string tn) ∧ w'.cell? ⟨b1, o1 + k * 11 + 8, none⟩ = some (I tp) ∧ w'.cell? ⟨b1, o1 + k * 11 + 9, none⟩ = some (I tax) ∧ w'.cell? ⟨b1, o1 + k * 11 + 10, none⟩ = some (I atx) ∧ w'.cell? ⟨b2, o2 + k * 11, none⟩ = some (.int .u8 kd) ∧ w'.cell? ⟨b2, o2 + k * 11 + 1, none⟩ = some (.string nm) ∧ w'.cell? ⟨b2, o2 + k * 11 + 2, none⟩ = some (.string tg) ∧ w'.cell? ⟨b2, o2 + k * 11 + 3, none⟩ = some (.slice ya xs.length yc) ∧ w'.cell? ⟨b2, o2 + k * 11 + 4, none⟩ = some (.string fn) ∧ w'.cell? ⟨b2, o2 + k * 11 + 5, none⟩ = some (I fp) ∧ w'.cell? ⟨b2, o2 + k * 11 + 6, none⟩ = some (I fay) ∧ w'.cell? ⟨b2, o2 + k * 11 + 7, none⟩ = some (.string tn) ∧ w'.cell? ⟨b2, o2 + k * 11 + 8, none⟩ = some (I tp) ∧ w'.cell? ⟨b2, o2 + k * 11 + 9, none⟩ = some (I tay) ∧ w'.cell? ⟨b2, o2 + k * 11 + 10, none⟩ = some (I aty)) wr.drew := ⟨New.cell (New.refl wr).drew c1, New.cell (New.refl wr).drew d1, New.cell (New.refl wr).drew q0, New.cell (New.refl wr).drew q1, New.cell (New.refl wr).drew q2, New.cell (New.refl wr).drew q3, New.cell (New.refl wr).drew q4, New.cell (New.refl wr).drew q5, New.cell (New.refl wr).drew q6, New.cell (New.refl wr).drew q7, New.cell (New.refl wr).drew q8, New.cell (New.refl wr).drew q9, New.cell (New.refl wr).drew q10, New.cell (New.refl wr).drew p0, New.cell (New.refl wr).drew p1, New.cell (New.refl wr).drew p2, New.cell (New.refl wr).drew p3, New.cell (New.refl wr).drew p4, New.cell (New.refl wr).drew p5, New.cell (New.refl wr).drew p6, New.cell (New.refl wr).drew p7, New.cell (New.refl wr).drew p8, New.cell (New.refl wr).drew p9, New.cell (New.refl wr).drew p10⟩
      refine wp_region_X (fun w' : World => w'.cell? ⟨PB, 1, none⟩ = some (.slice (some ⟨b1, o1, none⟩) pits.length pc) ∧ w'.cell? ⟨QB, 1, none⟩ = some (.slice (some ⟨b2, o2, none⟩) pits.length qc) ∧ w'.cell? ⟨b1, o1 + k * 11, none⟩ = some (.int .u8 kd) ∧ w'.cell? ⟨b1, o1 + k * 11 + 1, none⟩ = some (.string nm) ∧ w'.cell? ⟨b1, o1 + k * 11 + 2, none⟩ = some (.string tg) ∧ w'.cell? ⟨b1, o1 + k * 11 + 3, none⟩ = some (.slice xa xs.length xc) ∧ w'.cell? ⟨b1, o1 + k * 11 + 4, none⟩ = some (.string fn) ∧ w'.cell? ⟨b1, o1 + k * 11 + 5, none⟩ = some (I fp) ∧ w'.cell? ⟨b1, o1 + k * 11 + 6, none⟩ = some (I fax) ∧ w'.cell? ⟨b1, o1 + k * 11 + 7, none⟩ = some (.string tn) ∧ w'.cell? ⟨b1, o1 + k * 11 + 8, none⟩ = some (I tp) ∧ w'.cell? ⟨b1, o1 + k * 11 + 9, none⟩ = some (I tax) ∧ w'.cell? ⟨b1, o1 + k * 11 + 10, none⟩ = some (I atx) ∧ w'.cell? ⟨b2, o2 + k * 11, none⟩ = some (.int .u8 kd) ∧ w'.cell? ⟨b2, o2 + k * 11 + 1, none⟩ = some (.string nm) ∧ w'.cell? ⟨b2, o2 + k * 11 + 2, none⟩ = some (.string tg) ∧ w'.cell? ⟨b2, o2 + k * 11 + 3, none⟩ = some (.slice ya xs.length yc) ∧ w'.cell? ⟨b2, o2 + k * 11 + 4, none⟩ = some (.string fn) ∧ w'.cell? ⟨b2, o2 + k * 11 + 5, none⟩ = some (I fp) ∧ w'.cell? ⟨b2, o2 + k * 11 + 6, none⟩ = some (I fay) ∧ w'.cell? ⟨b2, o2 + k * 11 + 7, none⟩ = some (.string tn) ∧ w'.cell? ⟨b2, o2 + k * 11 + 8, none⟩ = some (I tp) ∧ w'.cell? ⟨b2, o2 + k * 11 + 9, none⟩ = some (I tay) ∧ w'.cell? ⟨b2, o2 + k * 11 + 10, none⟩ = some (I aty)) [] (by kernel_rfl) hS0 ?_
      refine anyX_take 0 (by kernel_rfl) (by kernel_rfl) (by kernel_rfl) (by kernel_rfl) (by kernel_rfl) hS0 ?_
      intro oi ho; simp only [List.getElem?_toArray, List.getElem?_cons_succ, List.getElem?_cons_zero, Option.some.injEq] at ho; subst ho
      refine ⟨?_, fun _ _ _ h => h, Or.inl ⟨by rfl, ?_⟩, ?_⟩; rotate_left 1
      · (intro wS hSw; (try dsimp only at hSw); go_simp; try with_reducible rfl)
      simp only [Act.put, List.setIfInBounds_toArray, List.set_cons_zero, List.set_cons_succ]
      refine anyX_take 1 (by kernel_rfl) (by kernel_rfl) (by kernel_rfl) (by kernel_rfl) (by kernel_rfl) hS0 ?_
      intro oi ho; simp only [List.getElem?_toArray, List.getElem?_cons_succ, List.getElem?_cons_zero, Option.some.injEq] at ho; subst ho
      refine ⟨?_, fun _ _ _ h => h, Or.inl ⟨by rfl, ?_⟩, ?_⟩; rotate_left 1
      · (intro wS hSw; (try dsimp only at hSw); go_simp; try with_reducible rfl)
      simp only [Act.put, List.setIfInBounds_toArray, List.set_cons_zero, List.set_cons_succ]
      refine anyX_take 2 (by kernel_rfl) (by kernel_rfl) (by kernel_rfl) (by kernel_rfl) (by kernel_rfl) hS0 ?_
      intro oi ho; simp only [List.getElem?_toArray, List.getElem?_cons_succ, List.getElem?_cons_zero, Option.some.injEq] at ho; subst ho
      refine ⟨?_, fun _ _ _ h => h, Or.inl ⟨by rfl, ?_⟩, ?_⟩; rotate_left 1
      · (intro wS hSw; (try dsimp only at hSw); go_simp; try with_reducible rfl)
      simp only [Act.put, List.setIfInBounds_toArray, List.set_cons_zero, List.set_cons_succ]
      refine anyX_take 3 (by kernel_rfl) (by kernel_rfl) (by kernel_rfl) (by kernel_rfl) (by kernel_rfl) hS0 ?_
      intro oi ho; simp only [List.getElem?_toArray, List.getElem?_cons_succ, List.getElem?_cons_zero, Option.some.injEq] at ho; subst ho
      refine ⟨?_, fun _ _ _ h => h, Or.inl ⟨by rfl, ?_⟩, ?_⟩; rotate_left 1
      · (intro wS hSw; (try dsimp only at hSw); go_simp; try with_reducible rfl)
      simp only [Act.put, List.setIfInBounds_toArray, List.set_cons_zero, List.set_cons_succ]
      refine anyX_take 4 (by kernel_rfl) (by kernel_rfl) (by kernel_rfl) (by kernel_rfl) (by kernel_rfl) hS0 ?_
      intro oi ho; simp only [List.getElem?_toArray, List.getElem?_cons_succ, List.getElem?_cons_zero, Option.some.injEq] at ho; subst ho
      refine ⟨?_, fun _ _ _ h => h, Or.inl ⟨by rfl, ?_⟩, ?_⟩; rotate_left 1
      · (intro wS hSw; (try dsimp only at hSw); go_simp; try with_reducible rfl)
      simp only [Act.put, List.setIfInBounds_toArray, List.set_cons_zero, List.set_cons_succ]
      refine anyX_take 6 (by kernel_rfl) (by kernel_rfl) (by kernel_rfl) (by kernel_rfl) (by kernel_rfl) hS0 ?_
      intro oi ho; simp only [List.getElem?_toArray, List.getElem?_cons_succ, List.getElem?_cons_zero, Option.some.injEq] at ho; subst ho
      refine ⟨?_, fun _ _ _ h => h, Or.inl ⟨by rfl, ?_⟩, ?_⟩; rotate_left 1
      · (intro wS hSw; (try dsimp only at hSw); go_simp; try with_reducible rfl)
      simp only [Act.put, List.setIfInBounds_toArray, List.set_cons_zero, List.set_cons_succ]
      refine anyX_take 7 (by kernel_rfl) (by kernel_rfl) (by kernel_rfl) (by kernel_rfl) (by kernel_rfl) hS0 ?_
      intro oi ho; simp only [List.getElem?_toArray, List.getElem?_cons_succ, List.getElem?_cons_zero, Option.some.injEq] at ho; subst ho
      refine ⟨?_, fun _ _ _ h => h, Or.inl ⟨by rfl, ?_⟩, ?_⟩; rotate_left 1
      · (intro wS hSw; (try dsimp only at hSw); go_simp; try with_reducible rfl)
      simp only [Act.put, List.setIfInBounds_toArray, List.set_cons_zero, List.set_cons_succ]
      refine anyX_take 8 (by kernel_rfl) (by kernel_rfl) (by kernel_rfl) (by kernel_rfl) (by kernel_rfl) hS0 ?_
      intro oi ho; simp only [List.getElem?_toArray, List.getElem?_cons_succ, List.getElem?_cons_zero, Option.some.injEq] at ho; subst ho
      refine ⟨?_, fun _ _ _ h => h, Or.inl ⟨by rfl, ?_⟩, ?_⟩; rotate_left 1
      · (intro wS hSw; (try dsimp only at hSw); go_simp; try with_reducible rfl)
      simp only [Act.put, List.setIfInBounds_toArray, List.set_cons_zero, List.set_cons_succ]
      refine anyX_take 9 (by kernel_rfl) (by kernel_rfl) (by kernel_rfl) (by kernel_rfl) (by kernel_rfl) hS0 ?_
      intro oi ho; simp only [List.getElem?_toArray, List.getElem?_cons_succ, List.getElem?_cons_zero, Option.some.injEq] at ho; subst ho
      refine ⟨?_, fun _ _ _ h => h, Or.inl ⟨by rfl, ?_⟩, ?_⟩; rotate_left 1
      · (intro wS hSw; (try dsimp only at hSw); go_simp; try with_reducible rfl)
      simp only [Act.put, List.setIfInBounds_toArray, List.set_cons_zero, List.set_cons_succ]
      refine anyX_take 10 (by kernel_rfl) (by kernel_rfl) (by kernel_rfl) (by kernel_rfl) (by kernel_rfl) hS0 ?_
      intro oi ho; simp only [List.getElem?_toArray, List.getElem?_cons_succ, List.getElem?_cons_zero, Option.some.injEq] at ho; subst ho
      refine ⟨?_, fun _ _ _ h => h, Or.inl ⟨by rfl, ?_⟩, ?_⟩; rotate_left 1
      · (intro wS hSw; (try dsimp only at hSw); go_simp; try with_reducible rfl)
      simp only [Act.put, List.setIfInBounds_toArray, List.set_cons_zero, List.set_cons_succ]
      refine anyX_one 5 (by kernel_rfl) ?_
      intro oi ho; simp only [List.getElem?_toArray, List.getElem?_cons_succ, List.getElem?_cons_zero, Option.some.injEq] at ho; subst ho; intro K hK
      (try simp only [Act.put, List.setIfInBounds_toArray, List.set_cons_zero, List.set_cons_succ])
      go_simp
      refine (hbx _).mono ?_
      rintro e w3 ⟨rfl, n3'⟩
      have n3 : New wr w3 := (New.refl wr).drew.trans n3'
      clear n3'
      have hw3 : (fun w' : World => w'.cell? ⟨PB, 1, none⟩ = some (.slice (some ⟨b1, o1, none⟩) pits.length pc) ∧ w'.cell? ⟨QB, 1, none⟩ = some (.slice (some ⟨b2, o2, none⟩) pits.length qc) ∧ w'.cell? ⟨b1, o1 + k * 11, none⟩ = some (.int .u8 kd) ∧ w'.cell? ⟨b1, o1 + k * 11 + 1, none⟩ = some (.string nm) ∧ w'.cell? ⟨b1, o1 + k * 11 + 2, none⟩ = some (.string tg) ∧ w'.cell? ⟨b1, o1 + k * 11 + 3, none⟩ = some (.slice xa xs.length xc) ∧ w'.cell? ⟨b1, o1 + k * 11 + 4, none⟩ = some (.string fn) ∧ w'.cell? ⟨b1, o1 + k * 11 + 5, none⟩ = some (I fp) ∧ w'.cell? ⟨b1, o1 + k * 11 + 6, none⟩ = some (I fax) ∧ w'.cell? ⟨b1, o1 + k * 11 + 7, none⟩ = some (.string tn) ∧ w'.cell? ⟨b1, o1 + k * 11 + 8, none⟩ = some (I tp) ∧ w'.cell? ⟨b1, o1 + k * 11 + 9, none⟩ = some (I tax) ∧ w'.cell? ⟨b1, o1 + k * 11 + 10, none⟩ = some (I atx) ∧ w'.cell? ⟨b2, o2 + k * 11, none⟩ = some (.int .u8 kd) ∧ w'.cell? ⟨b2, o2 + k * 11 + 1, none⟩ = some (.string nm) ∧ w'.cell? ⟨b2, o2 + k * 11 + 2, none⟩ = some (.string tg) ∧ w'.cell? ⟨b2, o2 + k * 11 + 3, none⟩ = some (.slice ya xs.length yc) ∧ w'.cell? ⟨b2, o2 + k * 11 + 4, none⟩ = some (.string fn) ∧ w'.cell? ⟨b2, o2 + k * 11 + 5, none⟩ = some (I fp) ∧ w'.cell? ⟨b2, o2 + k * 11 + 6, none⟩ = some (I fay) ∧ w'.cell? ⟨b2, o2 + k * 11 + 7, none⟩ = some (.string tn) ∧ w'.cell? ⟨b2, o2 + k * 11 + 8, none⟩ = some (I tp) ∧ w'.cell? ⟨b2, o2 + k * 11 + 9, none⟩ = some (I tay) ∧ w'.cell? ⟨b2, o2 + k * 11 + 10, none⟩ = some (I aty)) w3 := ⟨New.cell n3 c1, New.cell n3 d1, New.cell n3 q0, New.cell n3 q1, New.cell n3 q2, New.cell n3 q3, New.cell n3 q4, New.cell n3 q5, New.cell n3 q6, New.cell n3 q7, New.cell n3 q8, New.cell n3 q9, New.cell n3 q10, New.cell n3 p0, New.cell n3 p1, New.cell n3 p2, New.cell n3 p3, New.cell n3 p4, New.cell n3 p5, New.cell n3 p6, New.cell n3 p7, New.cell n3 p8, New.cell n3 p9, New.cell n3 p10⟩
      refine hK _ _ (fun _ => hw3) ?_
      clear hK K
      refine anyX_one 11 (by kernel_rfl) ?_
      intro oi ho; simp only [List.getElem?_toArray, List.getElem?_cons_succ, List.getElem?_cons_zero, Option.some.injEq] at ho; subst ho; intro K hK
      (try simp only [Act.put, List.setIfInBounds_toArray, List.set_cons_zero, List.set_cons_succ])
      go_simp
      refine (hby _).mono ?_
      rintro e w4 ⟨rfl, n4'⟩
      have n4 : New wr w4 := n3.trans n4'
      clear n4'
      have hw4 : (fun w' : World => w'.cell? ⟨PB, 1, none⟩ = some (.slice (some ⟨b1, o1, none⟩) pits.length pc) ∧ w'.cell? ⟨QB, 1, none⟩ = some (.slice (some ⟨b2, o2, none⟩) pits.length qc) ∧ w'.cell? ⟨b1, o1 + k * 11, none⟩ = some (.int .u8 kd) ∧ w'.cell? ⟨b1, o1 + k * 11 + 1, none⟩ = some (.string nm) ∧ w'.cell? ⟨b1, o1 + k * 11 + 2, none⟩ = some (.string tg) ∧ w'.cell? ⟨b1, o1 + k * 11 + 3, none⟩ = some (.slice xa xs.length xc) ∧ w'.cell? ⟨b1, o1 + k * 11 + 4, none⟩ = some (.string fn) ∧ w'.cell? ⟨b1, o1 + k * 11 + 5, none⟩ = some (I fp) ∧ w'.cell? ⟨b1, o1 + k * 11 + 6, none⟩ = some (I fax) ∧ w'.cell? ⟨b1, o1 + k * 11 + 7, none⟩ = some (.string tn) ∧ w'.cell? ⟨b1, o1 + k * 11 + 8, none⟩ = some (I tp) ∧ w'.cell? ⟨b1, o1 + k * 11 + 9, none⟩ = some (I tax) ∧ w'.cell? ⟨b1, o1 + k * 11 + 10, none⟩ = some (I atx) ∧ w'.cell? ⟨b2, o2 + k * 11, none⟩ = some (.int .u8 kd) ∧ w'.cell? ⟨b2, o2 + k * 11 + 1, none⟩ = some (.string nm) ∧ w'.cell? ⟨b2, o2 + k * 11 + 2, none⟩ = some (.string tg) ∧ w'.cell? ⟨b2, o2 + k * 11 + 3, none⟩ = some (.slice ya xs.length yc) ∧ w'.cell? ⟨b2, o2 + k * 11 + 4, none⟩ = some (.string fn) ∧ w'.cell? ⟨b2, o2 + k * 11 + 5, none⟩ = some (I fp) ∧ w'.cell? ⟨b2, o2 + k * 11 + 6, none⟩ = some (I fay) ∧ w'.cell? ⟨b2, o2 + k * 11 + 7, none⟩ = some (.string tn) ∧ w'.cell? ⟨b2, o2 + k * 11 + 8, none⟩ = some (I tp) ∧ w'.cell? ⟨b2, o2 + k * 11 + 9, none⟩ = some (I tay) ∧ w'.cell? ⟨b2, o2 + k * 11 + 10, none⟩ = some (I aty)) w4 := ⟨New.cell n4 c1, New.cell n4 d1, New.cell n4 q0, New.cell n4 q1, New.cell n4 q2, New.cell n4 q3, New.cell n4 q4, New.cell n4 q5, New.cell n4 q6, New.cell n4 q7, New.cell n4 q8, New.cell n4 q9, New.cell n4 q10, New.cell n4 p0, New.cell n4 p1, New.cell n4 p2, New.cell n4 p3, New.cell n4 p4, New.cell n4 p5, New.cell n4 p6, New.cell n4 p7, New.cell n4 p8, New.cell n4 p9, New.cell n4 p10⟩
      refine hK _ _ (fun _ => hw4) ?_
      clear hK K
      refine anyX_one 12 (by kernel_rfl) ?_
      intro oi ho; simp only [List.getElem?_toArray, List.getElem?_cons_succ, List.getElem?_cons_zero, Option.some.injEq] at ho; subst ho; intro K hK
      (try simp only [Act.put, List.setIfInBounds_toArray, List.set_cons_zero, List.set_cons_succ])
      go_simp
      refine (hsm _ n4).mono ?_
      rintro e w5 ⟨rfl, n5'⟩
      have n5 : New wr w5 := n4.trans n5'
      clear n5'
      have hw5 : (fun w' : World => w'.cell? ⟨PB, 1, none⟩ = some (.slice (some ⟨b1, o1, none⟩) pits.length pc) ∧ w'.cell? ⟨QB, 1, none⟩ = some (.slice (some ⟨b2, o2, none⟩) pits.length qc) ∧ w'.cell? ⟨b1, o1 + k * 11, none⟩ = some (.int .u8 kd) ∧ w'.cell? ⟨b1, o1 + k * 11 + 1, none⟩ = some (.string nm) ∧ w'.cell? ⟨b1, o1 + k * 11 + 2, none⟩ = some (.string tg) ∧ w'.cell? ⟨b1, o1 + k * 11 + 3, none⟩ = some (.slice xa xs.length xc) ∧ w'.cell? ⟨b1, o1 + k * 11 + 4, none⟩ = some (.string fn) ∧ w'.cell? ⟨b1, o1 + k * 11 + 5, none⟩ = some (I fp) ∧ w'.cell? ⟨b1, o1 + k * 11 + 6, none⟩ = some (I fax) ∧ w'.cell? ⟨b1, o1 + k * 11 + 7, none⟩ = some (.string tn) ∧ w'.cell? ⟨b1, o1 + k * 11 + 8, none⟩ = some (I tp) ∧ w'.cell? ⟨b1, o1 + k * 11 + 9, none⟩ = some (I tax) ∧ w'.cell? ⟨b1, o1 + k * 11 + 10, none⟩ = some (I atx) ∧ w'.cell? ⟨b2, o2 + k * 11, none⟩ = some (.int .u8 kd) ∧ w'.cell? ⟨b2, o2 + k * 11 + 1, none⟩ = some (.string nm) ∧ w'.cell? ⟨b2, o2 + k * 11 + 2, none⟩ = some (.string tg) ∧ w'.cell? ⟨b2, o2 + k * 11 + 3, none⟩ = some (.slice ya xs.length yc) ∧ w'.cell? ⟨b2, o2 + k * 11 + 4, none⟩ = some (.string fn) ∧ w'.cell? ⟨b2, o2 + k * 11 + 5, none⟩ = some (I fp) ∧ w'.cell? ⟨b2, o2 + k * 11 + 6, none⟩ = some (I fay) ∧ w'.cell? ⟨b2, o2 + k * 11 + 7, none⟩ = some (.string tn) ∧ w'.cell? ⟨b2, o2 + k * 11 + 8, none⟩ = some (I tp) ∧ w'.cell? ⟨b2, o2 + k * 11 + 9, none⟩ = some (I tay) ∧ w'.cell? ⟨b2, o2 + k * 11 + 10, none⟩ = some (I aty)) w5 := ⟨New.cell n5 c1, New.cell n5 d1, New.cell n5 q0, New.cell n5 q1, New.cell n5 q2, New.cell n5 q3, New.cell n5 q4, New.cell n5 q5, New.cell n5 q6, New.cell n5 q7, New.cell n5 q8, New.cell n5 q9, New.cell n5 q10, New.cell n5 p0, New.cell n5 p1, New.cell n5 p2, New.cell n5 p3, New.cell n5 p4, New.cell n5 p5, New.cell n5 p6, New.cell n5 p7, New.cell n5 p8, New.cell n5 p9, New.cell n5 p10⟩
      refine hK _ _ (fun _ => hw5) ?_
      clear hK K
      refine anyX_take 13 (by kernel_rfl) (by kernel_rfl) (by kernel_rfl) (by kernel_rfl) (by kernel_rfl) hw5 ?_
      intro oi ho; simp only [List.getElem?_toArray, List.getElem?_cons_succ, List.getElem?_cons_zero, Option.some.injEq] at ho; subst ho
      refine ⟨?_, fun _ _ _ h => h, Or.inl ⟨by rfl, ?_⟩, ?_⟩; rotate_left 1
      · (intro wS hSw; (try dsimp only at hSw); go_simp; try with_reducible rfl)
      simp only [Act.put, List.setIfInBounds_toArray, List.set_cons_zero, List.set_cons_succ]
      refine anyX_done (by kernel_rfl) ?_
      (try simp only [Act.put, List.setIfInBounds_toArray, List.set_cons_zero, List.set_cons_succ])
      have hN3 := hN.trans n5
      clear c1 d1 q0 q1 q2 q3 q4 q5 q6 q7 q8 q9 q10 p0 p1 p2 p3 p4 p5 p6 p7 p8 p9 p10 hsm hbx hby hS0 hw3 hw4 hw5 n3 n4 n5
      simp only [Exit.then]
      go_wp2_with fail
      go_roundw
      case rel => exact ⟨k + 1, by omega, by go_num, by first | exact hN3 | exact hN3.drew⟩
      case measure => simp [intOf]; omega
    · have hkd : decide (k < pits.length) = false := decide_eq_false hk1
      have hkI : (pits.length : Int) ≤ (k : Int) := by omega
      go_wp2_with fail
      go_ret
      exact ⟨rfl, hNw⟩
/-- What is read alike is alike in memory. -/
theorem alike_of {p q : Sk} {x y : LSk} (hp : p.bare = x.mem) (hq : q.bare = y.mem) (h : x.bare = y.bare) : p.name = q.name ∧ p.items.map SIt.noat = q.items.map SIt.noat := by
  have h1 : x.name = y.name := by have := congrArg LSk.name h; exact this
  have h2 : x.items.map LIt.bare = y.items.map LIt.bare := by have := congrArg LSk.items h; exact this
  have hn : ∀ (s : Sk) (z : LSk), s.bare = z.mem → s.items.map SIt.noat = (z.items.map LIt.bare).map fun i => (i.mem none 0).noat := by
    intro s z e
    have e1 : s.items.map SIt.bare = z.items.map fun i => i.mem none 0 := congrArg Sk.items e
    have e2 : s.items.map SIt.noat = (s.items.map SIt.bare).map SIt.noat := by rw [List.map_map]; rfl
    rw [e2, e1, List.map_map, List.map_map]
    rfl
  refine ⟨?_, by rw [hn p x hp, hn q y hq, h2]⟩
  rw [(bare_len' hp).1, (bare_len' hq).1, h1]
theorem skL_mem (s : Sk) : s.name = (skL s).mem.name ∧ s.items.map SIt.noat = (skL s).mem.items.map SIt.noat := by
  refine ⟨rfl, ?_⟩
  unfold skL LSk.mem
  simp only [List.map_map]
  rfl
end Go.Proofs.YtohalcbhckahmaaDoor
