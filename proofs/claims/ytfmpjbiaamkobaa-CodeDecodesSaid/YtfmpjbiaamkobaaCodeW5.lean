/-
  Layer 20: the document's Decode.
-/
import Derived.Test.YtfmpjbiaamkobaaCodeW4
namespace Go.Proofs.Ytfmpjbiaamkobaa
open Go Go.RowKit Go.Joins
set_option linter.all false

/-- A program in memory of the call's own (its lists may share). -/
structure PgHas (w : World) (B : Nat) (p : Pg) : Prop where
  oo : OpsOwn w B p.oa p.oc p.ops
  po : PartsOwn w B p.pa p.pc p.parts
  lo : LinesOwn w B p.la p.lc p.lines
theorem PgHas.at {w : World} {B : Nat} {p : Pg} (h : PgHas w B p) : PgAt w p := ⟨SlAt.of_owns h.oo.row, SlAt.of_owns h.po.row, SlAt.of_owns h.lo.row, fun x hx => (h.po.inn x hx).sl, fun x hx => (h.lo.inn x hx).sl⟩
theorem PgHas.keeps {S : Nat → Prop} {w w' : World} {B : Nat} {p : Pg} (h : PgHas w B p) (k : Keeps S w w') (hS : ∀ i, B ≤ i → ¬ S i) : PgHas w' B p := ⟨h.oo.keeps k hS, h.po.keeps k hS, h.lo.keeps k hS⟩
theorem PgHas.lens {w : World} {B : Nat} {p : Pg} (h : PgHas w B p) : Lens p :=
  ⟨own_len h.po.row, own_len h.lo.row, own_len h.oo.row, fun x hx => own_len (h.po.inn x hx), fun x hx => own_len (h.lo.inn x hx)⟩
theorem PgHas.rebase {w : World} {B B' : Nat} {p : Pg} (h : PgHas w B p) (hb : B' ≤ B) : PgHas w B' p := ⟨h.oo.rebase hb, h.po.rebase hb, h.lo.rebase hb⟩

/-- What the document's Decode hands out. -/
def RDecoded (w : World) (res : Except (Int × Int) Pg) (e : Ending) (w' : World) : Prop := match res with
  | .error (c, a) => e = .returned (.tuple #[.agg #[I 0, I 0, I 0, I 0, .slice none 0 0, .slice none 0 0, .slice none 0 0], .agg #[I c, I a]]) ∧ New w w'
  | .ok p => ∃ q : Pg, q.bare = p ∧ e = .returned (.tuple #[q.v, .agg #[I 0, I 0]]) ∧ PgHas w' w.heap.size q ∧ New w w'

/-- The whole is read when its pieces are. -/
theorem prog_of {r : List Int} {m c i o : Nat} {ps : List PartD} {ls : List LineD} {os : List OpD} {q1 q2 q3 q4 : Rd Nat} {q5 : Rd (List PartD)} {q6 : Rd (List LineD)} {q7 : Rd (List OpD)}
    (e1 : (Rd.ok () r : Rd Unit).bind (fun _ r => countR r) = q1) (e2 : q1.bind (fun _ r => countR r) = q2) (e3 : q2.bind (fun _ r => countR r) = q3) (e4 : q3.bind (fun _ r => countR r) = q4)
    (e5 : q4.bind (fun _ r => listR partR 32 r) = q5) (e6 : q5.bind (fun _ r => listR lineR 96 r) = q6) (e7 : q6.bind (fun _ r => listR opR 131072 r) = q7)
    (g1 : Got q1 m) (g2 : Got q2 c) (g3 : Got q3 i) (g4 : Got q4 o) (g5 : Got q5 ps) (g6 : Got q6 ls) (g7 : Got q7 os) :
    progR r = q7.bind fun _ r => .ok ⟨m, c, i, o, none, 0, ps, none, 0, ls, none, 0, os⟩ r := by
  subst e1
  simp only [Rd.bind_ok] at e2 g1
  unfold progR
  cases h1 : countR r with
  | bad e k => rw [h1] at e2; subst e2 e3 e4 e5 e6 e7; rfl
  | ok x1 r1 =>
    obtain rfl := g1 _ _ h1
    rw [h1] at e2
    simp only [Rd.bind_ok] at e2 ⊢
    subst e2
    cases h2 : countR r1 with
    | bad e k => rw [h2] at e3; subst e3 e4 e5 e6 e7; rfl
    | ok x2 r2 =>
      obtain rfl := g2 _ _ h2
      rw [h2] at e3
      simp only [Rd.bind_ok] at e3 ⊢
      subst e3
      cases h3 : countR r2 with
      | bad e k => rw [h3] at e4; subst e4 e5 e6 e7; rfl
      | ok x3 r3 =>
        obtain rfl := g3 _ _ h3
        rw [h3] at e4
        simp only [Rd.bind_ok] at e4 ⊢
        subst e4
        cases h4 : countR r3 with
        | bad e k => rw [h4] at e5; subst e5 e6 e7; rfl
        | ok x4 r4 =>
          obtain rfl := g4 _ _ h4
          rw [h4] at e5
          simp only [Rd.bind_ok] at e5 ⊢
          subst e5
          cases h5 : listR partR 32 r4 with
          | bad e k => rw [h5] at e6; subst e6 e7; rfl
          | ok x5 r5 =>
            obtain rfl := g5 _ _ h5
            rw [h5] at e6
            simp only [Rd.bind_ok] at e6 ⊢
            subst e6
            cases h6 : listR lineR 96 r5 with
            | bad e k => rw [h6] at e7; subst e7; rfl
            | ok x6 r6 =>
              obtain rfl := g6 _ _ h6
              rw [h6] at e7
              simp only [Rd.bind_ok] at e7 ⊢
              subst e7
              cases h7 : listR opR 131072 r6 with
              | bad e k => rfl
              | ok x7 r7 =>
                obtain rfl := g7 _ _ h7
                rfl

set_option maxRecDepth 100000 in
set_option maxHeartbeats 16000000 in
theorem rdecode_any (w : World) (s : ByteArray) (hs : s.size ≤ 9223372036854775807) :
    Calls Try.prog 21 #[.string s] w (RDecoded w (decodeR (bytesOf s))) := by
  by_cases h4 : s.size < 4
  · have hd := decode_magic (bytesOf s) (by rw [bytesOf_len]; exact h4)
    rw [hd]
    clear hd
    go_enter Try.func21, Try.ntmps21
    go_wp2_with fail
    exact bodyPost_ret (v := .tuple #[.agg #[I 0, I 0, I 0, I 0, .slice none 0 0, .slice none 0 0, .slice none 0 0], .agg #[I 202, I 0]]) (by simp [results, Try.results21, go_sem]) rfl ⟨rfl, ((New.refl w).alloc _).alloc _⟩
  · by_cases hm : (bytesOf s).take 4 = [80, 78, 76, 49]
    · have hm2 : ((s.extract 0 4).toList == [80, 78, 76, 49]) = true := by simpa using (magic_iff s).2 hm
      obtain ⟨res, hre⟩ : ∃ x, decodeR (bytesOf s) = x := ⟨_, rfl⟩
      rw [hre]
      unfold decodeR at hre
      rw [if_neg (by simp [hm])] at hre
      have h4' : 4 ≤ s.size := by omega
      have d4 : decide ((s.size : Int) < 4) = false := decide_eq_false (by omega)
      have hq0 : SpotOf s 4 0 0 (Rd.ok () ((bytesOf s).drop 4) : Rd Unit) := ⟨rfl, rfl, h4', rfl⟩
      have HQ0 := Lib.hid hq0
      have HRES := Lib.hid hre
      clear hre hm h4 hq0
      go_enter Try.func21, Try.ntmps21
      go_wp2_with fail
      have hR0 : ((((w.alloc (.cells #[I 0, I 0, I 0, I 0, .slice none 0 0, .slice none 0 0, .slice none 0 0] 26)).alloc (.cells #[I 0, I 0] 38)).alloc (.cells (SpC s 4 0 0) 74)).alloc (.cells #[I 0, I 0, I 0, I 0, .slice none 0 0, .slice none 0 0, .slice none 0 0] 26)).heap[w.heap.size]? = some (.cells #[I 0, I 0, I 0, I 0, .slice none 0 0, .slice none 0 0, .slice none 0 0] 26 (0, 0)) := Keeps.heap (((New.refl (w.alloc (.cells #[I 0, I 0, I 0, I 0, .slice none 0 0, .slice none 0 0, .slice none 0 0] 26))).alloc _).alloc _ |>.alloc _) (heap_alloc_new w _) (fun h => h)
      have hR1 : ((((w.alloc (.cells #[I 0, I 0, I 0, I 0, .slice none 0 0, .slice none 0 0, .slice none 0 0] 26)).alloc (.cells #[I 0, I 0] 38)).alloc (.cells (SpC s 4 0 0) 74)).alloc (.cells #[I 0, I 0, I 0, I 0, .slice none 0 0, .slice none 0 0, .slice none 0 0] 26)).heap[w.heap.size + 1]? = some (.cells #[I 0, I 0] 38 (0, 0)) := by
        have := heap_alloc_new (w.alloc (.cells #[I 0, I 0, I 0, I 0, .slice none 0 0, .slice none 0 0, .slice none 0 0] 26)) (.cells #[I 0, I 0] 38)
        rw [show (w.alloc (.cells #[I 0, I 0, I 0, I 0, .slice none 0 0, .slice none 0 0, .slice none 0 0] 26)).heap.size = w.heap.size + 1 by simp] at this
        exact Keeps.heap (((New.refl ((w.alloc (.cells #[I 0, I 0, I 0, I 0, .slice none 0 0, .slice none 0 0, .slice none 0 0] 26)).alloc (.cells #[I 0, I 0] 38))).alloc _).alloc _) this (fun h => h)
      have hS : ((((w.alloc (.cells #[I 0, I 0, I 0, I 0, .slice none 0 0, .slice none 0 0, .slice none 0 0] 26)).alloc (.cells #[I 0, I 0] 38)).alloc (.cells (SpC s 4 0 0) 74)).alloc (.cells #[I 0, I 0, I 0, I 0, .slice none 0 0, .slice none 0 0, .slice none 0 0] 26)).heap[w.heap.size + 1 + 1]? = some (.cells (SpC s 4 0 0) 74 (0, 0)) := by
        have := heap_alloc_new ((w.alloc (.cells #[I 0, I 0, I 0, I 0, .slice none 0 0, .slice none 0 0, .slice none 0 0] 26)).alloc (.cells #[I 0, I 0] 38)) (.cells (SpC s 4 0 0) 74)
        rw [show ((w.alloc (.cells #[I 0, I 0, I 0, I 0, .slice none 0 0, .slice none 0 0, .slice none 0 0] 26)).alloc (.cells #[I 0, I 0] 38)).heap.size = w.heap.size + 1 + 1 by simp] at this
        exact Keeps.heap ((New.refl (((w.alloc (.cells #[I 0, I 0, I 0, I 0, .slice none 0 0, .slice none 0 0, .slice none 0 0] 26)).alloc (.cells #[I 0, I 0] 38)).alloc (.cells (SpC s 4 0 0) 74))).alloc _) this (fun h => h)
      have hP : ((((w.alloc (.cells #[I 0, I 0, I 0, I 0, .slice none 0 0, .slice none 0 0, .slice none 0 0] 26)).alloc (.cells #[I 0, I 0] 38)).alloc (.cells (SpC s 4 0 0) 74)).alloc (.cells #[I 0, I 0, I 0, I 0, .slice none 0 0, .slice none 0 0, .slice none 0 0] 26)).heap[w.heap.size + 1 + 1 + 1]? = some (.cells #[I 0, I 0, I 0, I 0, .slice none 0 0, .slice none 0 0, .slice none 0 0] 26 (0, 0)) := by
        have := heap_alloc_new (((w.alloc (.cells #[I 0, I 0, I 0, I 0, .slice none 0 0, .slice none 0 0, .slice none 0 0] 26)).alloc (.cells #[I 0, I 0] 38)).alloc (.cells (SpC s 4 0 0) 74)) (.cells #[I 0, I 0, I 0, I 0, .slice none 0 0, .slice none 0 0, .slice none 0 0] 26)
        rw [show (((w.alloc (.cells #[I 0, I 0, I 0, I 0, .slice none 0 0, .slice none 0 0, .slice none 0 0] 26)).alloc (.cells #[I 0, I 0] 38)).alloc (.cells (SpC s 4 0 0) 74)).heap.size = w.heap.size + 1 + 1 + 1 by simp] at this
        exact this
      have hN : New w ((((w.alloc (.cells #[I 0, I 0, I 0, I 0, .slice none 0 0, .slice none 0 0, .slice none 0 0] 26)).alloc (.cells #[I 0, I 0] 38)).alloc (.cells (SpC s 4 0 0) 74)).alloc (.cells #[I 0, I 0, I 0, I 0, .slice none 0 0, .slice none 0 0, .slice none 0 0] 26)) := ((((New.refl w).alloc _).alloc _).alloc _).alloc _
      generalize ((((w.alloc (.cells #[I 0, I 0, I 0, I 0, .slice none 0 0, .slice none 0 0, .slice none 0 0] 26)).alloc (.cells #[I 0, I 0] 38)).alloc (.cells (SpC s 4 0 0) 74)).alloc (.cells #[I 0, I 0, I 0, I 0, .slice none 0 0, .slice none 0 0, .slice none 0 0] 26)) = v0 at hR0 hR1 hS hP hN ⊢
      obtain ⟨P, hPe⟩ : ∃ P, P = w.heap.size + 1 + 1 + 1 := ⟨_, rfl⟩
      obtain ⟨S, hSe⟩ : ∃ S, S = w.heap.size + 1 + 1 := ⟨_, rfl⟩
      obtain ⟨R1, hR1e⟩ : ∃ R1, R1 = w.heap.size + 1 := ⟨_, rfl⟩
      obtain ⟨R0, hR0e⟩ : ∃ R0, R0 = w.heap.size := ⟨_, rfl⟩
      have hw0 : w.heap.size ≤ R0 := by omega
      have hR01 : R0 ≠ R1 := by omega
      have hR0S : R0 < S := by omega
      have hR1S : R1 < S := by omega
      have hw1 : w.heap.size ≤ R1 := by omega
      have hSP : S ≠ P := by omega
      have hPS : P ≠ S := by omega
      have hSPl : S < P := by omega
      rw [← hPe] at hP ⊢
      rw [← hSe] at hS ⊢
      rw [← hR1e] at hR1 ⊢
      rw [← hR0e] at hR0 ⊢
      clear hPe hSe hR1e hR0e
      have HR0 := Lib.hid hR0
      have HR1 := Lib.hid hR1
      have HN := Lib.hid hN
      clear hR0 hR1 hN
      refine (rnumber_uni v0 s 4 0 0 (Rd.ok () ((bytesOf s).drop 4) : Rd Unit) HQ0.out hs).mono ?_
      rintro e w1 ⟨at1, cd1, aa1, m, rfl, HX1, hr1, k1⟩
      replace hS := Keeps.heap k1 hS (fun h => h)
      replace hP := Keeps.heap k1 hP (fun h => h)
      replace HR0 := Lib.hid (Keeps.heap k1 HR0.out (fun h => h))
      replace HR1 := Lib.hid (Keeps.heap k1 HR1.out (fun h => h))
      replace HN := Lib.hid (HN.out.trans k1)
      obtain ⟨b0, b1, b2, b3, z0, z1, z2, z3⟩ := sp_cells hS
      have p0 : w1.cell? ⟨P, 0, none⟩ = some (I 0) := by rw [cell_of_block hP 0]; simp
      have zp0 := unfrozen_of_block hP 0
      skip
      have hzP : P < w1.heap.size := World.block_lt_of_cell? w1 _ p0
      have hzS : S < w1.heap.size := World.block_lt_of_cell? w1 _ b0
      have HFT := Lib.hid ((((((Two.mk hS hP (Keeps.refl _ w1)).set0 hSP 0 (.string s)).set0 hSP 1 (I (at1 : Int))).set0 hSP 2 (I cd1)).set0 hSP 3 (I aa1)).set1 hSP 0 (I (m : Int)))
      clear hS hP k1
      go_wp2_with fail
      clear b0 b1 b2 b3 z0 z1 z2 z3 p0 zp0 hzP hzS
      generalize (((((w1.setCell ⟨S, 0, none⟩ (.string s)).setCell ⟨S, 1, none⟩ (I (at1 : Int))).setCell ⟨S, 2, none⟩ (I cd1)).setCell ⟨S, 3, none⟩ (I aa1)).setCell ⟨P, 0, none⟩ (I (m : Int))) = v1 at HFT ⊢
      obtain ⟨hS1, hP1, kk⟩ := HFT.out
      have hS : v1.heap[S]? = some (.cells (SpC s at1 cd1 aa1) 74 (0, 0)) := by rw [hS1]; simp
      have hP : v1.heap[P]? = some (.cells #[I (m : Int), I 0, I 0, I 0, .slice none 0 0, .slice none 0 0, .slice none 0 0] 26 (0, 0)) := by rw [hP1]; simp
      replace HR0 := Lib.hid (kk.heap HR0.out (by omega))
      replace HR1 := Lib.hid (kk.heap HR1.out (by omega))
      replace HN := Lib.hid (HN.out.keeps kk (fun i hi e => by omega))
      clear hS1 hP1 kk HFT
      obtain ⟨q1, he1⟩ : ∃ q, ((Rd.ok () ((bytesOf s).drop 4) : Rd Unit).bind fun _ r => countR r) = q := ⟨_, rfl⟩
      rw [he1] at HX1
      have HE1 := Lib.hid he1
      clear he1
      refine (rnumber_uni v1 s at1 cd1 aa1 q1 HX1.out.1 hs).mono ?_
      rintro e w2 ⟨at2, cd2, aa2, c, rfl, HX2, hr2, k2⟩
      replace hS := Keeps.heap k2 hS (fun h => h)
      replace hP := Keeps.heap k2 hP (fun h => h)
      replace HR0 := Lib.hid (Keeps.heap k2 HR0.out (fun h => h))
      replace HR1 := Lib.hid (Keeps.heap k2 HR1.out (fun h => h))
      replace HN := Lib.hid (HN.out.trans k2)
      obtain ⟨b0, b1, b2, b3, z0, z1, z2, z3⟩ := sp_cells hS
      have p1 : w2.cell? ⟨P, 1, none⟩ = some (I 0) := by rw [cell_of_block hP 1]; simp
      have zp1 := unfrozen_of_block hP 1
      skip
      have hzP : P < w2.heap.size := World.block_lt_of_cell? w2 _ p1
      have hzS : S < w2.heap.size := World.block_lt_of_cell? w2 _ b0
      have HFT := Lib.hid ((((((Two.mk hS hP (Keeps.refl _ w2)).set0 hSP 0 (.string s)).set0 hSP 1 (I (at2 : Int))).set0 hSP 2 (I cd2)).set0 hSP 3 (I aa2)).set1 hSP 1 (I (c : Int)))
      clear hS hP k2
      go_wp2_with fail
      clear b0 b1 b2 b3 z0 z1 z2 z3 p1 zp1 hzP hzS
      generalize (((((w2.setCell ⟨S, 0, none⟩ (.string s)).setCell ⟨S, 1, none⟩ (I (at2 : Int))).setCell ⟨S, 2, none⟩ (I cd2)).setCell ⟨S, 3, none⟩ (I aa2)).setCell ⟨P, 1, none⟩ (I (c : Int))) = v2 at HFT ⊢
      obtain ⟨hS1, hP1, kk⟩ := HFT.out
      have hS : v2.heap[S]? = some (.cells (SpC s at2 cd2 aa2) 74 (0, 0)) := by rw [hS1]; simp
      have hP : v2.heap[P]? = some (.cells #[I (m : Int), I (c : Int), I 0, I 0, .slice none 0 0, .slice none 0 0, .slice none 0 0] 26 (0, 0)) := by rw [hP1]; simp
      replace HR0 := Lib.hid (kk.heap HR0.out (by omega))
      replace HR1 := Lib.hid (kk.heap HR1.out (by omega))
      replace HN := Lib.hid (HN.out.keeps kk (fun i hi e => by omega))
      clear hS1 hP1 kk HFT
      obtain ⟨q2, he2⟩ : ∃ q, (q1.bind fun _ r => countR r) = q := ⟨_, rfl⟩
      rw [he2] at HX2
      have HE2 := Lib.hid he2
      clear he2
      refine (rnumber_uni v2 s at2 cd2 aa2 q2 HX2.out.1 hs).mono ?_
      rintro e w3 ⟨at3, cd3, aa3, i, rfl, HX3, hr3, k3⟩
      replace hS := Keeps.heap k3 hS (fun h => h)
      replace hP := Keeps.heap k3 hP (fun h => h)
      replace HR0 := Lib.hid (Keeps.heap k3 HR0.out (fun h => h))
      replace HR1 := Lib.hid (Keeps.heap k3 HR1.out (fun h => h))
      replace HN := Lib.hid (HN.out.trans k3)
      obtain ⟨b0, b1, b2, b3, z0, z1, z2, z3⟩ := sp_cells hS
      have p2 : w3.cell? ⟨P, 2, none⟩ = some (I 0) := by rw [cell_of_block hP 2]; simp
      have zp2 := unfrozen_of_block hP 2
      skip
      have hzP : P < w3.heap.size := World.block_lt_of_cell? w3 _ p2
      have hzS : S < w3.heap.size := World.block_lt_of_cell? w3 _ b0
      have HFT := Lib.hid ((((((Two.mk hS hP (Keeps.refl _ w3)).set0 hSP 0 (.string s)).set0 hSP 1 (I (at3 : Int))).set0 hSP 2 (I cd3)).set0 hSP 3 (I aa3)).set1 hSP 2 (I (i : Int)))
      clear hS hP k3
      go_wp2_with fail
      clear b0 b1 b2 b3 z0 z1 z2 z3 p2 zp2 hzP hzS
      generalize (((((w3.setCell ⟨S, 0, none⟩ (.string s)).setCell ⟨S, 1, none⟩ (I (at3 : Int))).setCell ⟨S, 2, none⟩ (I cd3)).setCell ⟨S, 3, none⟩ (I aa3)).setCell ⟨P, 2, none⟩ (I (i : Int))) = v3 at HFT ⊢
      obtain ⟨hS1, hP1, kk⟩ := HFT.out
      have hS : v3.heap[S]? = some (.cells (SpC s at3 cd3 aa3) 74 (0, 0)) := by rw [hS1]; simp
      have hP : v3.heap[P]? = some (.cells #[I (m : Int), I (c : Int), I (i : Int), I 0, .slice none 0 0, .slice none 0 0, .slice none 0 0] 26 (0, 0)) := by rw [hP1]; simp
      replace HR0 := Lib.hid (kk.heap HR0.out (by omega))
      replace HR1 := Lib.hid (kk.heap HR1.out (by omega))
      replace HN := Lib.hid (HN.out.keeps kk (fun i hi e => by omega))
      clear hS1 hP1 kk HFT
      obtain ⟨q3, he3⟩ : ∃ q, (q2.bind fun _ r => countR r) = q := ⟨_, rfl⟩
      rw [he3] at HX3
      have HE3 := Lib.hid he3
      clear he3
      refine (rnumber_uni v3 s at3 cd3 aa3 q3 HX3.out.1 hs).mono ?_
      rintro e w4 ⟨at4, cd4, aa4, o, rfl, HX4, hr4, k4⟩
      replace hS := Keeps.heap k4 hS (fun h => h)
      replace hP := Keeps.heap k4 hP (fun h => h)
      replace HR0 := Lib.hid (Keeps.heap k4 HR0.out (fun h => h))
      replace HR1 := Lib.hid (Keeps.heap k4 HR1.out (fun h => h))
      replace HN := Lib.hid (HN.out.trans k4)
      obtain ⟨b0, b1, b2, b3, z0, z1, z2, z3⟩ := sp_cells hS
      have p3 : w4.cell? ⟨P, 3, none⟩ = some (I 0) := by rw [cell_of_block hP 3]; simp
      have zp3 := unfrozen_of_block hP 3
      skip
      have hzP : P < w4.heap.size := World.block_lt_of_cell? w4 _ p3
      have hzS : S < w4.heap.size := World.block_lt_of_cell? w4 _ b0
      have HFT := Lib.hid ((((((Two.mk hS hP (Keeps.refl _ w4)).set0 hSP 0 (.string s)).set0 hSP 1 (I (at4 : Int))).set0 hSP 2 (I cd4)).set0 hSP 3 (I aa4)).set1 hSP 3 (I (o : Int)))
      clear hS hP k4
      go_wp2_with fail
      clear b0 b1 b2 b3 z0 z1 z2 z3 p3 zp3 hzP hzS
      generalize (((((w4.setCell ⟨S, 0, none⟩ (.string s)).setCell ⟨S, 1, none⟩ (I (at4 : Int))).setCell ⟨S, 2, none⟩ (I cd4)).setCell ⟨S, 3, none⟩ (I aa4)).setCell ⟨P, 3, none⟩ (I (o : Int))) = v4 at HFT ⊢
      obtain ⟨hS1, hP1, kk⟩ := HFT.out
      have hS : v4.heap[S]? = some (.cells (SpC s at4 cd4 aa4) 74 (0, 0)) := by rw [hS1]; simp
      have hP : v4.heap[P]? = some (.cells #[I (m : Int), I (c : Int), I (i : Int), I (o : Int), .slice none 0 0, .slice none 0 0, .slice none 0 0] 26 (0, 0)) := by rw [hP1]; simp
      replace HR0 := Lib.hid (kk.heap HR0.out (by omega))
      replace HR1 := Lib.hid (kk.heap HR1.out (by omega))
      replace HN := Lib.hid (HN.out.keeps kk (fun i hi e => by omega))
      clear hS1 hP1 kk HFT
      obtain ⟨q4, he4⟩ : ∃ q, (q3.bind fun _ r => countR r) = q := ⟨_, rfl⟩
      rw [he4] at HX4
      have HE4 := Lib.hid he4
      clear he4
      refine (rparts_uni v4 s at4 cd4 aa4 q4 HX4.out.1 hs).mono ?_
      rintro e w5 ⟨at5, cd5, aa5, aP, cP, ps, rfl, HX5, hr5, hinP, hown, k5⟩
      clear hinP
      have hPv : P + 1 ≤ v4.heap.size := by have := World.block_lt_of_cell? v4 ⟨P, 0, none⟩ (by rw [cell_of_block hP 0]; simp; rfl); exact this
      have HOP := Lib.hid (hown.rebase hPv)
      clear hown hPv
      replace hS := Keeps.heap k5 hS (fun h => h)
      replace hP := Keeps.heap k5 hP (fun h => h)
      replace HR0 := Lib.hid (Keeps.heap k5 HR0.out (fun h => h))
      replace HR1 := Lib.hid (Keeps.heap k5 HR1.out (fun h => h))
      replace HN := Lib.hid (HN.out.trans k5)
      obtain ⟨b0, b1, b2, b3, z0, z1, z2, z3⟩ := sp_cells hS
      have p4 : w5.cell? ⟨P, 4, none⟩ = some (.slice none 0 0) := by rw [cell_of_block hP 4]; simp
      have zp4 := unfrozen_of_block hP 4
      skip
      have hzP : P < w5.heap.size := World.block_lt_of_cell? w5 _ p4
      have hzS : S < w5.heap.size := World.block_lt_of_cell? w5 _ b0
      have HFT := Lib.hid ((((((Two.mk hS hP (Keeps.refl _ w5)).set0 hSP 0 (.string s)).set0 hSP 1 (I (at5 : Int))).set0 hSP 2 (I cd5)).set0 hSP 3 (I aa5)).set1 hSP 4 (.slice aP ps.length cP))
      clear hS hP k5
      go_wp2_with fail
      clear b0 b1 b2 b3 z0 z1 z2 z3 p4 zp4 hzP hzS
      generalize (((((w5.setCell ⟨S, 0, none⟩ (.string s)).setCell ⟨S, 1, none⟩ (I (at5 : Int))).setCell ⟨S, 2, none⟩ (I cd5)).setCell ⟨S, 3, none⟩ (I aa5)).setCell ⟨P, 4, none⟩ (.slice aP ps.length cP)) = v5 at HFT ⊢
      obtain ⟨hS1, hP1, kk⟩ := HFT.out
      have hS : v5.heap[S]? = some (.cells (SpC s at5 cd5 aa5) 74 (0, 0)) := by rw [hS1]; simp
      have hP : v5.heap[P]? = some (.cells #[I (m : Int), I (c : Int), I (i : Int), I (o : Int), .slice aP ps.length cP, .slice none 0 0, .slice none 0 0] 26 (0, 0)) := by rw [hP1]; simp
      replace HR0 := Lib.hid (kk.heap HR0.out (by omega))
      replace HR1 := Lib.hid (kk.heap HR1.out (by omega))
      replace HN := Lib.hid (HN.out.keeps kk (fun i hi e => by omega))
      replace HOP := Lib.hid (HOP.out.keeps kk (fun i hi e => by omega))
      clear hS1 hP1 kk HFT
      obtain ⟨q5, he5⟩ : ∃ q, (q4.bind fun _ r => listR partR 32 r) = q := ⟨_, rfl⟩
      rw [he5] at HX5
      have HE5 := Lib.hid he5
      clear he5
      refine (rlines_uni v5 s at5 cd5 aa5 q5 HX5.out.1 hs).mono ?_
      rintro e w6 ⟨at6, cd6, aa6, aL, cL, ls, rfl, HX6, hr6, hinL, hown, k6⟩
      clear hinL
      have hPv : P + 1 ≤ v5.heap.size := by have := World.block_lt_of_cell? v5 ⟨P, 0, none⟩ (by rw [cell_of_block hP 0]; simp; rfl); exact this
      have HOL := Lib.hid (hown.rebase hPv)
      clear hown hPv
      replace hS := Keeps.heap k6 hS (fun h => h)
      replace hP := Keeps.heap k6 hP (fun h => h)
      replace HR0 := Lib.hid (Keeps.heap k6 HR0.out (fun h => h))
      replace HR1 := Lib.hid (Keeps.heap k6 HR1.out (fun h => h))
      replace HN := Lib.hid (HN.out.trans k6)
      replace HOP := Lib.hid (HOP.out.keeps k6 (fun _ _ h => h))
      obtain ⟨b0, b1, b2, b3, z0, z1, z2, z3⟩ := sp_cells hS
      have p5 : w6.cell? ⟨P, 5, none⟩ = some (.slice none 0 0) := by rw [cell_of_block hP 5]; simp
      have zp5 := unfrozen_of_block hP 5
      skip
      have hzP : P < w6.heap.size := World.block_lt_of_cell? w6 _ p5
      have hzS : S < w6.heap.size := World.block_lt_of_cell? w6 _ b0
      have HFT := Lib.hid ((((((Two.mk hS hP (Keeps.refl _ w6)).set0 hSP 0 (.string s)).set0 hSP 1 (I (at6 : Int))).set0 hSP 2 (I cd6)).set0 hSP 3 (I aa6)).set1 hSP 5 (.slice aL ls.length cL))
      clear hS hP k6
      go_wp2_with fail
      clear b0 b1 b2 b3 z0 z1 z2 z3 p5 zp5 hzP hzS
      generalize (((((w6.setCell ⟨S, 0, none⟩ (.string s)).setCell ⟨S, 1, none⟩ (I (at6 : Int))).setCell ⟨S, 2, none⟩ (I cd6)).setCell ⟨S, 3, none⟩ (I aa6)).setCell ⟨P, 5, none⟩ (.slice aL ls.length cL)) = v6 at HFT ⊢
      obtain ⟨hS1, hP1, kk⟩ := HFT.out
      have hS : v6.heap[S]? = some (.cells (SpC s at6 cd6 aa6) 74 (0, 0)) := by rw [hS1]; simp
      have hP : v6.heap[P]? = some (.cells #[I (m : Int), I (c : Int), I (i : Int), I (o : Int), .slice aP ps.length cP, .slice aL ls.length cL, .slice none 0 0] 26 (0, 0)) := by rw [hP1]; simp
      replace HR0 := Lib.hid (kk.heap HR0.out (by omega))
      replace HR1 := Lib.hid (kk.heap HR1.out (by omega))
      replace HN := Lib.hid (HN.out.keeps kk (fun i hi e => by omega))
      replace HOP := Lib.hid (HOP.out.keeps kk (fun i hi e => by omega))
      replace HOL := Lib.hid (HOL.out.keeps kk (fun i hi e => by omega))
      clear hS1 hP1 kk HFT
      obtain ⟨q6, he6⟩ : ∃ q, (q5.bind fun _ r => listR lineR 96 r) = q := ⟨_, rfl⟩
      rw [he6] at HX6
      have HE6 := Lib.hid he6
      clear he6
      refine (rops_uni v6 s at6 cd6 aa6 q6 HX6.out.1 hs).mono ?_
      rintro e w7 ⟨at7, cd7, aa7, aO, cO, os, rfl, HX7, hr7, hown, k7⟩
      have hPv : P + 1 ≤ v6.heap.size := by have := World.block_lt_of_cell? v6 ⟨P, 0, none⟩ (by rw [cell_of_block hP 0]; simp; rfl); exact this
      have HOO := Lib.hid (hown.rebase hPv)
      clear hown hPv
      replace hS := Keeps.heap k7 hS (fun h => h)
      replace hP := Keeps.heap k7 hP (fun h => h)
      replace HR0 := Lib.hid (Keeps.heap k7 HR0.out (fun h => h))
      replace HR1 := Lib.hid (Keeps.heap k7 HR1.out (fun h => h))
      replace HN := Lib.hid (HN.out.trans k7)
      replace HOP := Lib.hid (HOP.out.keeps k7 (fun _ _ h => h))
      replace HOL := Lib.hid (HOL.out.keeps k7 (fun _ _ h => h))
      obtain ⟨b0, b1, b2, b3, z0, z1, z2, z3⟩ := sp_cells hS
      have p6 : w7.cell? ⟨P, 6, none⟩ = some (.slice none 0 0) := by rw [cell_of_block hP 6]; simp
      have zp6 := unfrozen_of_block hP 6
      have p0 : w7.cell? ⟨P, 0, none⟩ = some (I (m : Int)) := by rw [cell_of_block hP 0]; simp
      have p1 : w7.cell? ⟨P, 1, none⟩ = some (I (c : Int)) := by rw [cell_of_block hP 1]; simp
      have p2 : w7.cell? ⟨P, 2, none⟩ = some (I (i : Int)) := by rw [cell_of_block hP 2]; simp
      have p3 : w7.cell? ⟨P, 3, none⟩ = some (I (o : Int)) := by rw [cell_of_block hP 3]; simp
      have p4 : w7.cell? ⟨P, 4, none⟩ = some (.slice aP ps.length cP) := by rw [cell_of_block hP 4]; simp
      have p5 : w7.cell? ⟨P, 5, none⟩ = some (.slice aL ls.length cL) := by rw [cell_of_block hP 5]; simp
      have hzP : P < w7.heap.size := World.block_lt_of_cell? w7 _ p6
      have hzS : S < w7.heap.size := World.block_lt_of_cell? w7 _ b0
      have HFT := Lib.hid ((((((Two.mk hS hP (Keeps.refl _ w7)).set0 hSP 0 (.string s)).set0 hSP 1 (I (at7 : Int))).set0 hSP 2 (I cd7)).set0 hSP 3 (I aa7)).set1 hSP 6 (.slice aO os.length cO))
      clear hS hP k7
      obtain ⟨q7, he7⟩ : ∃ q, (q6.bind fun _ r => listR opR 131072 r) = q := ⟨_, rfl⟩
      rw [he7] at HX7
      have hprog := prog_of HE1.out HE2.out HE3.out HE4.out HE5.out HE6.out he7 HX1.out.2 HX2.out.2 HX3.out.2 HX4.out.2 HX5.out.2 HX6.out.2 HX7.out.2
      have hfin := HRES.out
      rw [hprog, bytesOf_len] at hfin
      have hq7 := HX7.out.1
      clear HE1 HE2 HE3 HE4 HE5 HE6 HX1 HX2 HX3 HX4 HX5 HX6 HX7 he7 hprog HRES HQ0
      cases q7 with
      | bad c7 k7 =>
        obtain ⟨rfl, hc7, haa7, hat7⟩ := hq7
        simp only [Rd.bind_bad] at hfin
        rw [← haa7] at hfin
        subst hfin
        clear haa7
        have e70 : (cd7 == 0) = false := by simpa using hc7
        have e71 : (cd7 != 0) = true := by simpa using hc7
        clear hc7
        go_wp2_with fail
        clear b0 b1 b2 b3 z0 z1 z2 z3 p6 zp6 hzP hzS p0 p1 p2 p3 p4 p5
        generalize (((((w7.setCell ⟨S, 0, none⟩ (.string s)).setCell ⟨S, 1, none⟩ (I (at7 : Int))).setCell ⟨S, 2, none⟩ (I cd7)).setCell ⟨S, 3, none⟩ (I aa7)).setCell ⟨P, 6, none⟩ (.slice aO os.length cO)) = v7 at HFT ⊢
        obtain ⟨hS1, hP1, kk⟩ := HFT.out
        have hS : v7.heap[S]? = some (.cells (SpC s at7 cd7 aa7) 74 (0, 0)) := by rw [hS1]; simp
        have hP : v7.heap[P]? = some (.cells #[I (m : Int), I (c : Int), I (i : Int), I (o : Int), .slice aP ps.length cP, .slice aL ls.length cL, .slice aO os.length cO] 26 (0, 0)) := by rw [hP1]; simp
        replace HR0 := Lib.hid (kk.heap HR0.out (by omega))
        replace HR1 := Lib.hid (kk.heap HR1.out (by omega))
        replace HN := Lib.hid (HN.out.keeps kk (fun i hi e => by omega))
        replace HOP := Lib.hid (HOP.out.keeps kk (fun i hi e => by omega))
        replace HOL := Lib.hid (HOL.out.keeps kk (fun i hi e => by omega))
        replace HOO := Lib.hid (HOO.out.keeps kk (fun i hi e => by omega))
        clear hS1 hP1 kk HFT
        have hR0 := HR0.out
        have hR1 := HR1.out
        have hN := HN.out
        clear HR0 HR1 HN hP
        have s0 : v7.cell? ⟨S, 0, none⟩ = some (.string s) := by rw [cell_of_block hS 0]; simp
        have zs0 := unfrozen_of_block hS 0
        have s1 : v7.cell? ⟨S, 1, none⟩ = some (I (at7 : Int)) := by rw [cell_of_block hS 1]; simp
        have zs1 := unfrozen_of_block hS 1
        have s2 : v7.cell? ⟨S, 2, none⟩ = some (I cd7) := by rw [cell_of_block hS 2]; simp
        have zs2 := unfrozen_of_block hS 2
        have s3 : v7.cell? ⟨S, 3, none⟩ = some (I aa7) := by rw [cell_of_block hS 3]; simp
        have zs3 := unfrozen_of_block hS 3
        have r0 : v7.cell? ⟨R0, 0, none⟩ = some (I 0) := by rw [cell_of_block hR0 0]; simp
        have zr0 := unfrozen_of_block hR0 0
        have r1 : v7.cell? ⟨R0, 1, none⟩ = some (I 0) := by rw [cell_of_block hR0 1]; simp
        have zr1 := unfrozen_of_block hR0 1
        have r2 : v7.cell? ⟨R0, 2, none⟩ = some (I 0) := by rw [cell_of_block hR0 2]; simp
        have zr2 := unfrozen_of_block hR0 2
        have r3 : v7.cell? ⟨R0, 3, none⟩ = some (I 0) := by rw [cell_of_block hR0 3]; simp
        have zr3 := unfrozen_of_block hR0 3
        have r4 : v7.cell? ⟨R0, 4, none⟩ = some (.slice none 0 0) := by rw [cell_of_block hR0 4]; simp
        have zr4 := unfrozen_of_block hR0 4
        have r5 : v7.cell? ⟨R0, 5, none⟩ = some (.slice none 0 0) := by rw [cell_of_block hR0 5]; simp
        have zr5 := unfrozen_of_block hR0 5
        have r6 : v7.cell? ⟨R0, 6, none⟩ = some (.slice none 0 0) := by rw [cell_of_block hR0 6]; simp
        have zr6 := unfrozen_of_block hR0 6
        have f0 : v7.cell? ⟨R1, 0, none⟩ = some (I 0) := by rw [cell_of_block hR1 0]; simp
        have zf0 := unfrozen_of_block hR1 0
        have f1 : v7.cell? ⟨R1, 1, none⟩ = some (I 0) := by rw [cell_of_block hR1 1]; simp
        have zf1 := unfrozen_of_block hR1 1
        have HFD := Lib.hid ((((((((((Two.mk hR0 hR1 (Keeps.refl _ v7)).set0 hR01 0 (I 0)).set0 hR01 1 (I 0)).set0 hR01 2 (I 0)).set0 hR01 3 (I 0)).set0 hR01 4 (.slice none 0 0)).set0 hR01 5 (.slice none 0 0)).set0 hR01 6 (.slice none 0 0)).set1 hR01 0 (I cd7)).set1 hR01 1 (I aa7))
        have HNX := Lib.hid hN
        clear hS hR0 hR1 hN
        have hzR0 : R0 < v7.heap.size := World.block_lt_of_cell? v7 _ r0
        have hzR1 : R1 < v7.heap.size := World.block_lt_of_cell? v7 _ f0
        have hzS : S < v7.heap.size := World.block_lt_of_cell? v7 _ s0
        go_region
        go_wp2
        clear s0 s1 s2 s3 zs0 zs1 zs2 zs3 r0 r1 r2 r3 r4 r5 r6 zr0 zr1 zr2 zr3 zr4 zr5 zr6 f0 f1 zf0 zf1
        generalize (((((((((v7.setCell ⟨R0, 0, none⟩ (I 0)).setCell ⟨R0, 1, none⟩ (I 0)).setCell ⟨R0, 2, none⟩ (I 0)).setCell ⟨R0, 3, none⟩ (I 0)).setCell ⟨R0, 4, none⟩ (.slice none 0 0)).setCell ⟨R0, 5, none⟩ (.slice none 0 0)).setCell ⟨R0, 6, none⟩ (.slice none 0 0)).setCell ⟨R1, 0, none⟩ (I cd7)).setCell ⟨R1, 1, none⟩ (I aa7)) = wz at HFD ⊢
        obtain ⟨pd, qd, kd⟩ := HFD.out
        have pd2 : wz.heap[R0]? = some (.cells #[I 0, I 0, I 0, I 0, .slice none 0 0, .slice none 0 0, .slice none 0 0] 26 (0, 0)) := by rw [pd]; simp
        have qd2 : wz.heap[R1]? = some (.cells #[I cd7, I aa7] 38 (0, 0)) := by rw [qd]; simp
        have HNZ := Lib.hid (HNX.out.keeps kd (fun i hi e => by omega))
        have r0 : wz.cell? ⟨R0, 0, none⟩ = some (I 0) := by rw [cell_of_block pd2 0]; simp
        have zr0 := unfrozen_of_block pd2 0
        have r1 : wz.cell? ⟨R0, 1, none⟩ = some (I 0) := by rw [cell_of_block pd2 1]; simp
        have zr1 := unfrozen_of_block pd2 1
        have r2 : wz.cell? ⟨R0, 2, none⟩ = some (I 0) := by rw [cell_of_block pd2 2]; simp
        have zr2 := unfrozen_of_block pd2 2
        have r3 : wz.cell? ⟨R0, 3, none⟩ = some (I 0) := by rw [cell_of_block pd2 3]; simp
        have zr3 := unfrozen_of_block pd2 3
        have r4 : wz.cell? ⟨R0, 4, none⟩ = some (.slice none 0 0) := by rw [cell_of_block pd2 4]; simp
        have zr4 := unfrozen_of_block pd2 4
        have r5 : wz.cell? ⟨R0, 5, none⟩ = some (.slice none 0 0) := by rw [cell_of_block pd2 5]; simp
        have zr5 := unfrozen_of_block pd2 5
        have r6 : wz.cell? ⟨R0, 6, none⟩ = some (.slice none 0 0) := by rw [cell_of_block pd2 6]; simp
        have zr6 := unfrozen_of_block pd2 6
        have f0 : wz.cell? ⟨R1, 0, none⟩ = some (I cd7) := by rw [cell_of_block qd2 0]; simp
        have zf0 := unfrozen_of_block qd2 0
        have f1 : wz.cell? ⟨R1, 1, none⟩ = some (I aa7) := by rw [cell_of_block qd2 1]; simp
        have zf1 := unfrozen_of_block qd2 1
        clear pd qd pd2 qd2 kd HFD HNX
        exact bodyPost_ret (v := .tuple #[.agg #[I 0, I 0, I 0, I 0, .slice none 0 0, .slice none 0 0, .slice none 0 0], .agg #[I cd7, I aa7]]) (by simp [results, Try.results21, go_sem, r0, r1, r2, r3, r4, r5, r6, f0, f1]) rfl ⟨rfl, by first | exact HNZ.out.drew | exact HNZ.out⟩
      | ok os7 r =>
        obtain ⟨rfl, rfl, hat7, hdr⟩ := hq7
        simp only [Rd.bind_ok] at hfin
        have hlen : (r.length : Int) = (s.size : Int) - (at7 : Int) := by
          have := congrArg List.length hdr
          rw [List.length_drop, bytesOf_len] at this
          omega
        by_cases hre : r = []
        · subst hre
          rw [if_neg (by simp)] at hfin
          have hat9 : at7 = s.size := by simp at hlen; omega
          have dlt : decide (at7 < s.size) = false := decide_eq_false (by omega)
          have HFIN := Lib.hid hfin
          clear hfin hlen hdr hat7 hat9
          go_wp2_with fail
          clear b0 b1 b2 b3 z0 z1 z2 z3 p6 zp6 hzP hzS p0 p1 p2 p3 p4 p5
          generalize (((((w7.setCell ⟨S, 0, none⟩ (.string s)).setCell ⟨S, 1, none⟩ (I (at7 : Int))).setCell ⟨S, 2, none⟩ (I 0)).setCell ⟨S, 3, none⟩ (I 0)).setCell ⟨P, 6, none⟩ (.slice aO os.length cO)) = v7 at HFT ⊢
          obtain ⟨hS1, hP1, kk⟩ := HFT.out
          have hS : v7.heap[S]? = some (.cells (SpC s at7 0 0) 74 (0, 0)) := by rw [hS1]; simp
          have hP : v7.heap[P]? = some (.cells #[I (m : Int), I (c : Int), I (i : Int), I (o : Int), .slice aP ps.length cP, .slice aL ls.length cL, .slice aO os.length cO] 26 (0, 0)) := by rw [hP1]; simp
          replace HR0 := Lib.hid (kk.heap HR0.out (by omega))
          replace HR1 := Lib.hid (kk.heap HR1.out (by omega))
          replace HN := Lib.hid (HN.out.keeps kk (fun i hi e => by omega))
          replace HOP := Lib.hid (HOP.out.keeps kk (fun i hi e => by omega))
          replace HOL := Lib.hid (HOL.out.keeps kk (fun i hi e => by omega))
          replace HOO := Lib.hid (HOO.out.keeps kk (fun i hi e => by omega))
          clear hS1 hP1 kk HFT
          have hhas : PgHas v7 (P + 1) (⟨(m : Int), (c : Int), (i : Int), (o : Int), aP, cP, ps, aL, cL, ls, aO, cO, os⟩ : Pg) := ⟨HOO.out, HOP.out, HOL.out⟩
          have hst : stepsR (⟨(m : Int), (c : Int), (i : Int), (o : Int), aP, cP, ps, aL, cL, ls, aO, cO, os⟩ : Pg) = stepsR (⟨(m : Int), (c : Int), (i : Int), (o : Int), none, 0, ps.map PartD.bare, none, 0, ls.map LineD.bare, none, 0, os⟩ : Pg) := by rw [← stepsR_bare]; rfl
          have hck := rcheck_any v7 (⟨(m : Int), (c : Int), (i : Int), (o : Int), aP, cP, ps, aL, cL, ls, aO, cO, os⟩ : Pg) hhas.at hhas.lens
          have hf2 := HFIN.out
          rw [← hst] at hf2
          obtain ⟨er, her⟩ : ∃ x, (stepsR (⟨(m : Int), (c : Int), (i : Int), (o : Int), aP, cP, ps, aL, cL, ls, aO, cO, os⟩ : Pg)).2 = x := ⟨_, rfl⟩
          rw [her] at hck hf2
          replace HFIN := Lib.hid hf2
          have HHAS := Lib.hid hhas
          clear hf2 her hst hhas HOO HOP HOL
          refine hck.mono ?_
          clear hck
          rintro e w8 ⟨rfl, k8⟩
          replace hS := Keeps.heap k8 hS (fun h => h)
          replace hP := Keeps.heap k8 hP (fun h => h)
          replace HR0 := Lib.hid (Keeps.heap k8 HR0.out (fun h => h))
          replace HR1 := Lib.hid (Keeps.heap k8 HR1.out (fun h => h))
          replace HN := Lib.hid (HN.out.trans k8)
          replace HHAS := Lib.hid (HHAS.out.keeps k8 (fun _ _ h => h))
          clear k8
          by_cases hs0 : er = 0
          · have hr := HFIN.out
            subst hs0
            rw [if_neg (by simp)] at hr
            subst hr
            have hR0 := HR0.out
            have hR1 := HR1.out
            have s0 : w8.cell? ⟨S, 0, none⟩ = some (.string s) := by rw [cell_of_block hS 0]; simp
            have zs0 := unfrozen_of_block hS 0
            have s1 : w8.cell? ⟨S, 1, none⟩ = some (I (at7 : Int)) := by rw [cell_of_block hS 1]; simp
            have zs1 := unfrozen_of_block hS 1
            have s2 : w8.cell? ⟨S, 2, none⟩ = some (I 0) := by rw [cell_of_block hS 2]; simp
            have zs2 := unfrozen_of_block hS 2
            have s3 : w8.cell? ⟨S, 3, none⟩ = some (I 0) := by rw [cell_of_block hS 3]; simp
            have zs3 := unfrozen_of_block hS 3
            have p0 : w8.cell? ⟨P, 0, none⟩ = some (I (m : Int)) := by rw [cell_of_block hP 0]; simp
            have zp0 := unfrozen_of_block hP 0
            have p1 : w8.cell? ⟨P, 1, none⟩ = some (I (c : Int)) := by rw [cell_of_block hP 1]; simp
            have zp1 := unfrozen_of_block hP 1
            have p2 : w8.cell? ⟨P, 2, none⟩ = some (I (i : Int)) := by rw [cell_of_block hP 2]; simp
            have zp2 := unfrozen_of_block hP 2
            have p3 : w8.cell? ⟨P, 3, none⟩ = some (I (o : Int)) := by rw [cell_of_block hP 3]; simp
            have zp3 := unfrozen_of_block hP 3
            have p4 : w8.cell? ⟨P, 4, none⟩ = some (.slice aP ps.length cP) := by rw [cell_of_block hP 4]; simp
            have zp4 := unfrozen_of_block hP 4
            have p5 : w8.cell? ⟨P, 5, none⟩ = some (.slice aL ls.length cL) := by rw [cell_of_block hP 5]; simp
            have zp5 := unfrozen_of_block hP 5
            have p6 : w8.cell? ⟨P, 6, none⟩ = some (.slice aO os.length cO) := by rw [cell_of_block hP 6]; simp
            have zp6 := unfrozen_of_block hP 6
            have r0 : w8.cell? ⟨R0, 0, none⟩ = some (I 0) := by rw [cell_of_block hR0 0]; simp
            have zr0 := unfrozen_of_block hR0 0
            have r1 : w8.cell? ⟨R0, 1, none⟩ = some (I 0) := by rw [cell_of_block hR0 1]; simp
            have zr1 := unfrozen_of_block hR0 1
            have r2 : w8.cell? ⟨R0, 2, none⟩ = some (I 0) := by rw [cell_of_block hR0 2]; simp
            have zr2 := unfrozen_of_block hR0 2
            have r3 : w8.cell? ⟨R0, 3, none⟩ = some (I 0) := by rw [cell_of_block hR0 3]; simp
            have zr3 := unfrozen_of_block hR0 3
            have r4 : w8.cell? ⟨R0, 4, none⟩ = some (.slice none 0 0) := by rw [cell_of_block hR0 4]; simp
            have zr4 := unfrozen_of_block hR0 4
            have r5 : w8.cell? ⟨R0, 5, none⟩ = some (.slice none 0 0) := by rw [cell_of_block hR0 5]; simp
            have zr5 := unfrozen_of_block hR0 5
            have r6 : w8.cell? ⟨R0, 6, none⟩ = some (.slice none 0 0) := by rw [cell_of_block hR0 6]; simp
            have zr6 := unfrozen_of_block hR0 6
            have f0 : w8.cell? ⟨R1, 0, none⟩ = some (I 0) := by rw [cell_of_block hR1 0]; simp
            have zf0 := unfrozen_of_block hR1 0
            have f1 : w8.cell? ⟨R1, 1, none⟩ = some (I 0) := by rw [cell_of_block hR1 1]; simp
            have zf1 := unfrozen_of_block hR1 1
            have HFD := Lib.hid ((((((((((Two.mk hR0 hR1 (Keeps.refl _ w8)).set0 hR01 0 (I (m : Int))).set0 hR01 1 (I (c : Int))).set0 hR01 2 (I (i : Int))).set0 hR01 3 (I (o : Int))).set0 hR01 4 (.slice aP ps.length cP)).set0 hR01 5 (.slice aL ls.length cL)).set0 hR01 6 (.slice aO os.length cO)).set1 hR01 0 (I 0)).set1 hR01 1 (I 0))
            have hzR0 : R0 < w8.heap.size := World.block_lt_of_cell? w8 _ r0
            have hzR1 : R1 < w8.heap.size := World.block_lt_of_cell? w8 _ f0
            have hzP : P < w8.heap.size := World.block_lt_of_cell? w8 _ p0
            clear hS hP hR0 hR1 HR0 HR1 HFIN
            go_wp2_with fail
            clear s0 s1 s2 s3 zs0 zs1 zs2 zs3 r0 r1 r2 r3 r4 r5 r6 zr0 zr1 zr2 zr3 zr4 zr5 zr6 f0 f1 zf0 zf1 p0 p1 p2 p3 p4 p5 p6 zp0 zp1 zp2 zp3 zp4 zp5 zp6
            generalize (((((((((w8.setCell ⟨R0, 0, none⟩ (I (m : Int))).setCell ⟨R0, 1, none⟩ (I (c : Int))).setCell ⟨R0, 2, none⟩ (I (i : Int))).setCell ⟨R0, 3, none⟩ (I (o : Int))).setCell ⟨R0, 4, none⟩ (.slice aP ps.length cP)).setCell ⟨R0, 5, none⟩ (.slice aL ls.length cL)).setCell ⟨R0, 6, none⟩ (.slice aO os.length cO)).setCell ⟨R1, 0, none⟩ (I 0)).setCell ⟨R1, 1, none⟩ (I 0)) = wz at HFD ⊢
            obtain ⟨pd, qd, kd⟩ := HFD.out
            have pd2 : wz.heap[R0]? = some (.cells #[I (m : Int), I (c : Int), I (i : Int), I (o : Int), .slice aP ps.length cP, .slice aL ls.length cL, .slice aO os.length cO] 26 (0, 0)) := by rw [pd]; simp
            have qd2 : wz.heap[R1]? = some (.cells #[I 0, I 0] 38 (0, 0)) := by rw [qd]; simp
            have HNZ := Lib.hid (HN.out.keeps kd (fun i hi e => by omega))
            replace HHAS := Lib.hid ((HHAS.out.keeps kd (fun i hi e => by omega)).rebase (B' := w.heap.size) (by omega))
            have r0 : wz.cell? ⟨R0, 0, none⟩ = some (I (m : Int)) := by rw [cell_of_block pd2 0]; simp
            have zr0 := unfrozen_of_block pd2 0
            have r1 : wz.cell? ⟨R0, 1, none⟩ = some (I (c : Int)) := by rw [cell_of_block pd2 1]; simp
            have zr1 := unfrozen_of_block pd2 1
            have r2 : wz.cell? ⟨R0, 2, none⟩ = some (I (i : Int)) := by rw [cell_of_block pd2 2]; simp
            have zr2 := unfrozen_of_block pd2 2
            have r3 : wz.cell? ⟨R0, 3, none⟩ = some (I (o : Int)) := by rw [cell_of_block pd2 3]; simp
            have zr3 := unfrozen_of_block pd2 3
            have r4 : wz.cell? ⟨R0, 4, none⟩ = some (.slice aP ps.length cP) := by rw [cell_of_block pd2 4]; simp
            have zr4 := unfrozen_of_block pd2 4
            have r5 : wz.cell? ⟨R0, 5, none⟩ = some (.slice aL ls.length cL) := by rw [cell_of_block pd2 5]; simp
            have zr5 := unfrozen_of_block pd2 5
            have r6 : wz.cell? ⟨R0, 6, none⟩ = some (.slice aO os.length cO) := by rw [cell_of_block pd2 6]; simp
            have zr6 := unfrozen_of_block pd2 6
            have f0 : wz.cell? ⟨R1, 0, none⟩ = some (I 0) := by rw [cell_of_block qd2 0]; simp
            have zf0 := unfrozen_of_block qd2 0
            have f1 : wz.cell? ⟨R1, 1, none⟩ = some (I 0) := by rw [cell_of_block qd2 1]; simp
            have zf1 := unfrozen_of_block qd2 1
            clear pd qd pd2 qd2 kd HFD
            exact bodyPost_ret (v := .tuple #[(⟨(m : Int), (c : Int), (i : Int), (o : Int), aP, cP, ps, aL, cL, ls, aO, cO, os⟩ : Pg).v, .agg #[I 0, I 0]]) (by simp [results, Try.results21, go_sem, r0, r1, r2, r3, r4, r5, r6, f0, f1]) rfl ⟨(⟨(m : Int), (c : Int), (i : Int), (o : Int), aP, cP, ps, aL, cL, ls, aO, cO, os⟩ : Pg), rfl, rfl, HHAS.out, HNZ.out⟩
          · have hr := HFIN.out
            rw [if_pos hs0] at hr
            subst hr
            have e90 : (er != 0) = true := by simpa using hs0
            have e91 : (er == 0) = false := by simpa using hs0
            clear hs0 HFIN HHAS
            have s0 : w8.cell? ⟨S, 0, none⟩ = some (.string s) := by rw [cell_of_block hS 0]; simp
            have zs0 := unfrozen_of_block hS 0
            have s1 : w8.cell? ⟨S, 1, none⟩ = some (I (at7 : Int)) := by rw [cell_of_block hS 1]; simp
            have zs1 := unfrozen_of_block hS 1
            have s2 : w8.cell? ⟨S, 2, none⟩ = some (I 0) := by rw [cell_of_block hS 2]; simp
            have zs2 := unfrozen_of_block hS 2
            have s3 : w8.cell? ⟨S, 3, none⟩ = some (I 0) := by rw [cell_of_block hS 3]; simp
            have zs3 := unfrozen_of_block hS 3
            go_wp2_with fail
            clear s0 s1 s2 s3 zs0 zs1 zs2 zs3
            refine (fail_any w8 s (at7 : Int) er (s.size : Int)).mono ?_
            rintro e w9 ⟨rfl, k9⟩
            replace hS := Keeps.heap k9 hS (fun h => h)
            skip
            replace HR0 := Lib.hid (Keeps.heap k9 HR0.out (fun h => h))
            replace HR1 := Lib.hid (Keeps.heap k9 HR1.out (fun h => h))
            replace HN := Lib.hid (HN.out.trans k9)
            clear k9 hP
            obtain ⟨b0, b1, b2, b3, z0, z1, z2, z3⟩ := sp_cells hS
            have hzS : S < w9.heap.size := World.block_lt_of_cell? w9 _ b0
            have hset := sp_set hS s (at7 : Int) er (s.size : Int)
            have HSET := Lib.hid hset
            clear hset hS
            go_wp2_with fail
            clear b0 b1 b2 b3 z0 z1 z2 z3 hzS
            generalize ((((w9.setCell ⟨S, 0, none⟩ (.string s)).setCell ⟨S, 1, none⟩ (I (at7 : Int))).setCell ⟨S, 2, none⟩ (I er)).setCell ⟨S, 3, none⟩ (I (s.size : Int))) = v9 at HSET ⊢
            obtain ⟨hS, kk⟩ := HSET.out
            have hR0 := kk.heap HR0.out (by omega)
            have hR1 := kk.heap HR1.out (by omega)
            have hN := HN.out.keeps kk (fun i hi e => by omega)
            clear HSET kk HR0 HR1 HN
            have s0 : v9.cell? ⟨S, 0, none⟩ = some (.string s) := by rw [cell_of_block hS 0]; simp
            have zs0 := unfrozen_of_block hS 0
            have s1 : v9.cell? ⟨S, 1, none⟩ = some (I (at7 : Int)) := by rw [cell_of_block hS 1]; simp
            have zs1 := unfrozen_of_block hS 1
            have s2 : v9.cell? ⟨S, 2, none⟩ = some (I er) := by rw [cell_of_block hS 2]; simp
            have zs2 := unfrozen_of_block hS 2
            have s3 : v9.cell? ⟨S, 3, none⟩ = some (I (s.size : Int)) := by rw [cell_of_block hS 3]; simp
            have zs3 := unfrozen_of_block hS 3
            have r0 : v9.cell? ⟨R0, 0, none⟩ = some (I 0) := by rw [cell_of_block hR0 0]; simp
            have zr0 := unfrozen_of_block hR0 0
            have r1 : v9.cell? ⟨R0, 1, none⟩ = some (I 0) := by rw [cell_of_block hR0 1]; simp
            have zr1 := unfrozen_of_block hR0 1
            have r2 : v9.cell? ⟨R0, 2, none⟩ = some (I 0) := by rw [cell_of_block hR0 2]; simp
            have zr2 := unfrozen_of_block hR0 2
            have r3 : v9.cell? ⟨R0, 3, none⟩ = some (I 0) := by rw [cell_of_block hR0 3]; simp
            have zr3 := unfrozen_of_block hR0 3
            have r4 : v9.cell? ⟨R0, 4, none⟩ = some (.slice none 0 0) := by rw [cell_of_block hR0 4]; simp
            have zr4 := unfrozen_of_block hR0 4
            have r5 : v9.cell? ⟨R0, 5, none⟩ = some (.slice none 0 0) := by rw [cell_of_block hR0 5]; simp
            have zr5 := unfrozen_of_block hR0 5
            have r6 : v9.cell? ⟨R0, 6, none⟩ = some (.slice none 0 0) := by rw [cell_of_block hR0 6]; simp
            have zr6 := unfrozen_of_block hR0 6
            have f0 : v9.cell? ⟨R1, 0, none⟩ = some (I 0) := by rw [cell_of_block hR1 0]; simp
            have zf0 := unfrozen_of_block hR1 0
            have f1 : v9.cell? ⟨R1, 1, none⟩ = some (I 0) := by rw [cell_of_block hR1 1]; simp
            have zf1 := unfrozen_of_block hR1 1
            have HFD := Lib.hid ((((((((((Two.mk hR0 hR1 (Keeps.refl _ v9)).set0 hR01 0 (I 0)).set0 hR01 1 (I 0)).set0 hR01 2 (I 0)).set0 hR01 3 (I 0)).set0 hR01 4 (.slice none 0 0)).set0 hR01 5 (.slice none 0 0)).set0 hR01 6 (.slice none 0 0)).set1 hR01 0 (I er)).set1 hR01 1 (I (s.size : Int)))
            have HNX := Lib.hid hN
            clear hS hR0 hR1 hN
            have hzR0 : R0 < v9.heap.size := World.block_lt_of_cell? v9 _ r0
            have hzR1 : R1 < v9.heap.size := World.block_lt_of_cell? v9 _ f0
            have hzS : S < v9.heap.size := World.block_lt_of_cell? v9 _ s0
            go_region
            go_wp2
            clear s0 s1 s2 s3 zs0 zs1 zs2 zs3 r0 r1 r2 r3 r4 r5 r6 zr0 zr1 zr2 zr3 zr4 zr5 zr6 f0 f1 zf0 zf1
            generalize (((((((((v9.setCell ⟨R0, 0, none⟩ (I 0)).setCell ⟨R0, 1, none⟩ (I 0)).setCell ⟨R0, 2, none⟩ (I 0)).setCell ⟨R0, 3, none⟩ (I 0)).setCell ⟨R0, 4, none⟩ (.slice none 0 0)).setCell ⟨R0, 5, none⟩ (.slice none 0 0)).setCell ⟨R0, 6, none⟩ (.slice none 0 0)).setCell ⟨R1, 0, none⟩ (I er)).setCell ⟨R1, 1, none⟩ (I (s.size : Int))) = wz at HFD ⊢
            obtain ⟨pd, qd, kd⟩ := HFD.out
            have pd2 : wz.heap[R0]? = some (.cells #[I 0, I 0, I 0, I 0, .slice none 0 0, .slice none 0 0, .slice none 0 0] 26 (0, 0)) := by rw [pd]; simp
            have qd2 : wz.heap[R1]? = some (.cells #[I er, I (s.size : Int)] 38 (0, 0)) := by rw [qd]; simp
            have HNZ := Lib.hid (HNX.out.keeps kd (fun i hi e => by omega))
            have r0 : wz.cell? ⟨R0, 0, none⟩ = some (I 0) := by rw [cell_of_block pd2 0]; simp
            have zr0 := unfrozen_of_block pd2 0
            have r1 : wz.cell? ⟨R0, 1, none⟩ = some (I 0) := by rw [cell_of_block pd2 1]; simp
            have zr1 := unfrozen_of_block pd2 1
            have r2 : wz.cell? ⟨R0, 2, none⟩ = some (I 0) := by rw [cell_of_block pd2 2]; simp
            have zr2 := unfrozen_of_block pd2 2
            have r3 : wz.cell? ⟨R0, 3, none⟩ = some (I 0) := by rw [cell_of_block pd2 3]; simp
            have zr3 := unfrozen_of_block pd2 3
            have r4 : wz.cell? ⟨R0, 4, none⟩ = some (.slice none 0 0) := by rw [cell_of_block pd2 4]; simp
            have zr4 := unfrozen_of_block pd2 4
            have r5 : wz.cell? ⟨R0, 5, none⟩ = some (.slice none 0 0) := by rw [cell_of_block pd2 5]; simp
            have zr5 := unfrozen_of_block pd2 5
            have r6 : wz.cell? ⟨R0, 6, none⟩ = some (.slice none 0 0) := by rw [cell_of_block pd2 6]; simp
            have zr6 := unfrozen_of_block pd2 6
            have f0 : wz.cell? ⟨R1, 0, none⟩ = some (I er) := by rw [cell_of_block qd2 0]; simp
            have zf0 := unfrozen_of_block qd2 0
            have f1 : wz.cell? ⟨R1, 1, none⟩ = some (I (s.size : Int)) := by rw [cell_of_block qd2 1]; simp
            have zf1 := unfrozen_of_block qd2 1
            clear pd qd pd2 qd2 kd HFD HNX
            exact bodyPost_ret (v := .tuple #[.agg #[I 0, I 0, I 0, I 0, .slice none 0 0, .slice none 0 0, .slice none 0 0], .agg #[I er, I (s.size : Int)]]) (by simp [results, Try.results21, go_sem, r0, r1, r2, r3, r4, r5, r6, f0, f1]) rfl ⟨rfl, by first | exact HNZ.out.drew | exact HNZ.out⟩
        · have hlt : at7 < s.size := by
            have h1 : 0 < r.length := List.length_pos_iff.2 hre
            omega
          rw [if_pos hre, hlen] at hfin
          have e9 : (s.size : Int) - ((s.size : Int) - (at7 : Int)) = (at7 : Int) := by omega
          rw [e9] at hfin
          subst hfin
          have dlt : decide (at7 < s.size) = true := decide_eq_true (by omega)
          clear hre hlen hdr hat7 hlt e9
          go_wp2_with fail
          clear b0 b1 b2 b3 z0 z1 z2 z3 p6 zp6 hzP hzS p0 p1 p2 p3 p4 p5
          generalize (((((w7.setCell ⟨S, 0, none⟩ (.string s)).setCell ⟨S, 1, none⟩ (I (at7 : Int))).setCell ⟨S, 2, none⟩ (I 0)).setCell ⟨S, 3, none⟩ (I 0)).setCell ⟨P, 6, none⟩ (.slice aO os.length cO)) = v7 at HFT ⊢
          obtain ⟨hS1, hP1, kk⟩ := HFT.out
          have hS : v7.heap[S]? = some (.cells (SpC s at7 0 0) 74 (0, 0)) := by rw [hS1]; simp
          have hP : v7.heap[P]? = some (.cells #[I (m : Int), I (c : Int), I (i : Int), I (o : Int), .slice aP ps.length cP, .slice aL ls.length cL, .slice aO os.length cO] 26 (0, 0)) := by rw [hP1]; simp
          replace HR0 := Lib.hid (kk.heap HR0.out (by omega))
          replace HR1 := Lib.hid (kk.heap HR1.out (by omega))
          replace HN := Lib.hid (HN.out.keeps kk (fun i hi e => by omega))
          replace HOP := Lib.hid (HOP.out.keeps kk (fun i hi e => by omega))
          replace HOL := Lib.hid (HOL.out.keeps kk (fun i hi e => by omega))
          replace HOO := Lib.hid (HOO.out.keeps kk (fun i hi e => by omega))
          clear hS1 hP1 kk HFT
          refine (fail_any v7 s (at7 : Int) 204 (at7 : Int)).mono ?_
          rintro e w8 ⟨rfl, k8⟩
          replace hS := Keeps.heap k8 hS (fun h => h)
          skip
          replace HR0 := Lib.hid (Keeps.heap k8 HR0.out (fun h => h))
          replace HR1 := Lib.hid (Keeps.heap k8 HR1.out (fun h => h))
          replace HN := Lib.hid (HN.out.trans k8)
          clear k8 hP HOO HOP HOL
          obtain ⟨b0, b1, b2, b3, z0, z1, z2, z3⟩ := sp_cells hS
          have hzS : S < w8.heap.size := World.block_lt_of_cell? w8 _ b0
          have hset := sp_set hS s (at7 : Int) 204 (at7 : Int)
          have HSET := Lib.hid hset
          clear hset hS
          go_wp2_with fail
          clear b0 b1 b2 b3 z0 z1 z2 z3 hzS
          generalize ((((w8.setCell ⟨S, 0, none⟩ (.string s)).setCell ⟨S, 1, none⟩ (I (at7 : Int))).setCell ⟨S, 2, none⟩ (I 204)).setCell ⟨S, 3, none⟩ (I (at7 : Int))) = v8 at HSET ⊢
          obtain ⟨hS, kk⟩ := HSET.out
          have hR0 := kk.heap HR0.out (by omega)
          have hR1 := kk.heap HR1.out (by omega)
          have hN := HN.out.keeps kk (fun i hi e => by omega)
          clear HSET kk HR0 HR1 HN
          have s0 : v8.cell? ⟨S, 0, none⟩ = some (.string s) := by rw [cell_of_block hS 0]; simp
          have zs0 := unfrozen_of_block hS 0
          have s1 : v8.cell? ⟨S, 1, none⟩ = some (I (at7 : Int)) := by rw [cell_of_block hS 1]; simp
          have zs1 := unfrozen_of_block hS 1
          have s2 : v8.cell? ⟨S, 2, none⟩ = some (I 204) := by rw [cell_of_block hS 2]; simp
          have zs2 := unfrozen_of_block hS 2
          have s3 : v8.cell? ⟨S, 3, none⟩ = some (I (at7 : Int)) := by rw [cell_of_block hS 3]; simp
          have zs3 := unfrozen_of_block hS 3
          have r0 : v8.cell? ⟨R0, 0, none⟩ = some (I 0) := by rw [cell_of_block hR0 0]; simp
          have zr0 := unfrozen_of_block hR0 0
          have r1 : v8.cell? ⟨R0, 1, none⟩ = some (I 0) := by rw [cell_of_block hR0 1]; simp
          have zr1 := unfrozen_of_block hR0 1
          have r2 : v8.cell? ⟨R0, 2, none⟩ = some (I 0) := by rw [cell_of_block hR0 2]; simp
          have zr2 := unfrozen_of_block hR0 2
          have r3 : v8.cell? ⟨R0, 3, none⟩ = some (I 0) := by rw [cell_of_block hR0 3]; simp
          have zr3 := unfrozen_of_block hR0 3
          have r4 : v8.cell? ⟨R0, 4, none⟩ = some (.slice none 0 0) := by rw [cell_of_block hR0 4]; simp
          have zr4 := unfrozen_of_block hR0 4
          have r5 : v8.cell? ⟨R0, 5, none⟩ = some (.slice none 0 0) := by rw [cell_of_block hR0 5]; simp
          have zr5 := unfrozen_of_block hR0 5
          have r6 : v8.cell? ⟨R0, 6, none⟩ = some (.slice none 0 0) := by rw [cell_of_block hR0 6]; simp
          have zr6 := unfrozen_of_block hR0 6
          have f0 : v8.cell? ⟨R1, 0, none⟩ = some (I 0) := by rw [cell_of_block hR1 0]; simp
          have zf0 := unfrozen_of_block hR1 0
          have f1 : v8.cell? ⟨R1, 1, none⟩ = some (I 0) := by rw [cell_of_block hR1 1]; simp
          have zf1 := unfrozen_of_block hR1 1
          have HFD := Lib.hid ((((((((((Two.mk hR0 hR1 (Keeps.refl _ v8)).set0 hR01 0 (I 0)).set0 hR01 1 (I 0)).set0 hR01 2 (I 0)).set0 hR01 3 (I 0)).set0 hR01 4 (.slice none 0 0)).set0 hR01 5 (.slice none 0 0)).set0 hR01 6 (.slice none 0 0)).set1 hR01 0 (I 204)).set1 hR01 1 (I (at7 : Int)))
          have HNX := Lib.hid hN
          clear hS hR0 hR1 hN
          have hzR0 : R0 < v8.heap.size := World.block_lt_of_cell? v8 _ r0
          have hzR1 : R1 < v8.heap.size := World.block_lt_of_cell? v8 _ f0
          have hzS : S < v8.heap.size := World.block_lt_of_cell? v8 _ s0
          go_region
          go_wp2
          clear s0 s1 s2 s3 zs0 zs1 zs2 zs3 r0 r1 r2 r3 r4 r5 r6 zr0 zr1 zr2 zr3 zr4 zr5 zr6 f0 f1 zf0 zf1
          generalize (((((((((v8.setCell ⟨R0, 0, none⟩ (I 0)).setCell ⟨R0, 1, none⟩ (I 0)).setCell ⟨R0, 2, none⟩ (I 0)).setCell ⟨R0, 3, none⟩ (I 0)).setCell ⟨R0, 4, none⟩ (.slice none 0 0)).setCell ⟨R0, 5, none⟩ (.slice none 0 0)).setCell ⟨R0, 6, none⟩ (.slice none 0 0)).setCell ⟨R1, 0, none⟩ (I 204)).setCell ⟨R1, 1, none⟩ (I (at7 : Int))) = wz at HFD ⊢
          obtain ⟨pd, qd, kd⟩ := HFD.out
          have pd2 : wz.heap[R0]? = some (.cells #[I 0, I 0, I 0, I 0, .slice none 0 0, .slice none 0 0, .slice none 0 0] 26 (0, 0)) := by rw [pd]; simp
          have qd2 : wz.heap[R1]? = some (.cells #[I 204, I (at7 : Int)] 38 (0, 0)) := by rw [qd]; simp
          have HNZ := Lib.hid (HNX.out.keeps kd (fun i hi e => by omega))
          have r0 : wz.cell? ⟨R0, 0, none⟩ = some (I 0) := by rw [cell_of_block pd2 0]; simp
          have zr0 := unfrozen_of_block pd2 0
          have r1 : wz.cell? ⟨R0, 1, none⟩ = some (I 0) := by rw [cell_of_block pd2 1]; simp
          have zr1 := unfrozen_of_block pd2 1
          have r2 : wz.cell? ⟨R0, 2, none⟩ = some (I 0) := by rw [cell_of_block pd2 2]; simp
          have zr2 := unfrozen_of_block pd2 2
          have r3 : wz.cell? ⟨R0, 3, none⟩ = some (I 0) := by rw [cell_of_block pd2 3]; simp
          have zr3 := unfrozen_of_block pd2 3
          have r4 : wz.cell? ⟨R0, 4, none⟩ = some (.slice none 0 0) := by rw [cell_of_block pd2 4]; simp
          have zr4 := unfrozen_of_block pd2 4
          have r5 : wz.cell? ⟨R0, 5, none⟩ = some (.slice none 0 0) := by rw [cell_of_block pd2 5]; simp
          have zr5 := unfrozen_of_block pd2 5
          have r6 : wz.cell? ⟨R0, 6, none⟩ = some (.slice none 0 0) := by rw [cell_of_block pd2 6]; simp
          have zr6 := unfrozen_of_block pd2 6
          have f0 : wz.cell? ⟨R1, 0, none⟩ = some (I 204) := by rw [cell_of_block qd2 0]; simp
          have zf0 := unfrozen_of_block qd2 0
          have f1 : wz.cell? ⟨R1, 1, none⟩ = some (I (at7 : Int)) := by rw [cell_of_block qd2 1]; simp
          have zf1 := unfrozen_of_block qd2 1
          clear pd qd pd2 qd2 kd HFD HNX
          exact bodyPost_ret (v := .tuple #[.agg #[I 0, I 0, I 0, I 0, .slice none 0 0, .slice none 0 0, .slice none 0 0], .agg #[I 204, I (at7 : Int)]]) (by simp [results, Try.results21, go_sem, r0, r1, r2, r3, r4, r5, r6, f0, f1]) rfl ⟨rfl, by first | exact HNZ.out.drew | exact HNZ.out⟩
    · have hm2 : ((s.extract 0 4).toList == [80, 78, 76, 49]) = false := by
        rcases hx : ((s.extract 0 4).toList == [80, 78, 76, 49]) with _ | _
        · rfl
        · exact absurd ((magic_iff s).1 (by simpa using hx)) hm
      have hd : decodeR (bytesOf s) = .error (202, 0) := by unfold decodeR; rw [if_pos hm]
      rw [hd]
      have d4 : decide ((s.size : Int) < 4) = false := decide_eq_false (by omega)
      clear hd hm
      go_enter Try.func21, Try.ntmps21
      go_wp2_with fail
      exact bodyPost_ret (v := .tuple #[.agg #[I 0, I 0, I 0, I 0, .slice none 0 0, .slice none 0 0, .slice none 0 0], .agg #[I 202, I 0]]) (by simp [results, Try.results21, go_sem]) rfl ⟨rfl, ((New.refl w).alloc _).alloc _⟩
end Go.Proofs.Ytfmpjbiaamkobaa
