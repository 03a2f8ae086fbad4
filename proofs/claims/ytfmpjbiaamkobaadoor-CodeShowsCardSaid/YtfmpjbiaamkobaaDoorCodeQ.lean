/-
  Layer 20: the program's Encode at any program.
-/
import Derived.Test.YtfmpjbiaamkobaaDoorCodeO
import Derived.Lib.SlBytesConst
namespace Go.Proofs.YtfmpjbiaamkobaaDoor
open Go Go.RowKit Go.Joins
set_option linter.all false

/-- What a method of the writer does, told by what is left to write. -/
def WrP (W w : World) (G : Nat) (ao : Option Addr) (tot rest : List Int) (e : Ending) (w' : World) : Prop :=
  e = .returned (.tuple #[]) ∧ ∃ ao' xs', WAt w' G W.heap.size ao' xs' ∧ Part tot xs' rest ∧ WStep G ao ao' w w' ∧ New W w'
theorem WrP.of {W w : World} {G : Nat} {ao : Option Addr} {xs bs tot rest : List Int} (hN : New W w) (hG : W.heap.size ≤ G) (hw : WAt w G W.heap.size ao xs) (hP : Part tot xs (bs ++ rest)) {e : Ending} {w' : World} (h : Wrote w G W.heap.size ao xs bs e w') : WrP W w G ao tot rest e w' := by
  obtain ⟨rfl, a', h1, h2⟩ := h
  exact ⟨rfl, a', _, h1, hP.step, h2, h2.new hw hN hG (Nat.le_refl _)⟩
section
variable {W w : World} {G : Nat} {ao : Option Addr} {xs tot rest : List Int} (hT : tot.length ≤ 10000000) (hN : New W w) (hG : W.heap.size ≤ G) (hw : WAt w G W.heap.size ao xs)
include hT hN hG hw
theorem wcountP (n : Int) (hP : Part tot xs (unsB n.toNat ++ rest)) (h0 : 0 ≤ n) (h1 : n ≤ 9223372036854775807) :
    Calls Tryd.prog 19 #[.pointer (some ⟨G, 0, none⟩), I n] w (WrP W w G ao tot rest) :=
  (wcount_any w G _ ao xs n h0 h1 hw (by have := hP.le; omega)).mono fun _ _ h => WrP.of hN hG hw hP h
theorem wcountNP (n : Nat) (hP : Part tot xs (unsB n ++ rest)) (h1 : n ≤ 9223372036854775807) :
    Calls Tryd.prog 19 #[.pointer (some ⟨G, 0, none⟩), I (n : Int)] w (WrP W w G ao tot rest) :=
  (wcountN_any w G _ ao xs n h1 hw (by have := hP.le; omega)).mono fun _ _ h => WrP.of hN hG hw hP h
theorem wbyteP (b : Int) (hP : Part tot xs ([b] ++ rest)) :
    Calls Tryd.prog 20 #[.pointer (some ⟨G, 0, none⟩), .int .u8 b] w (WrP W w G ao tot rest) :=
  (wbyte_any w G _ ao xs b hw (by have := hP.le; omega)).mono fun _ _ h => WrP.of hN hG hw hP h
theorem wintsP (lo : Option Addr) (lc : Nat) (l : List Int) (hx : SlAt W lo (Is l)) (hr : ∀ y ∈ l, i64B y) (hll : l.length ≤ 1024) (hP : Part tot xs (intsB l ++ rest)) :
    Calls Tryd.prog 21 #[.pointer (some ⟨G, 0, none⟩), .slice lo l.length lc] w (WrP W w G ao tot rest) :=
  (wints_any W w G ao xs lo lc l hN hG hw hx hr hll (by have := hP.le; omega)).mono fun _ _ h => WrP.of hN hG hw hP h
end
theorem WAt.lt {w : World} {G B : Nat} {ao : Option Addr} {xs : List Int} (h : WAt w G B ao xs) : G < w.heap.size ∧ ∀ k, blk ao k → k < w.heap.size := by
  obtain ⟨n, c, h1, h2, _⟩ := h
  exact ⟨(Array.getElem?_eq_some_iff.1 h1).1, fun k hk => (h2.blk hk).2⟩
/-- A cell of a box that was made after the writer and its row. -/
theorem WStep.box {G : Nat} {ao ao' : Option Addr} {w w' : World} {k o : Nat} {v : Value} (h : WStep G ao ao' w w') (hv : w.cell? ⟨k, o, none⟩ = some v) (hG : k ≠ G) (hb : ¬ blk ao k) : w'.cell? ⟨k, o, none⟩ = some v :=
  h.keeps.cell hv (fun h => h.elim hG hb)
theorem WStep.off {G : Nat} {ao ao' : Option Addr} {w w' : World} {k : Nat} (h : WStep G ao ao' w w') (hk : k < w.heap.size) (hb : ¬ blk ao k) : ¬ blk ao' k := by
  rcases h.moved with rfl | ⟨g, rfl, hg⟩
  · exact hb
  · rintro ⟨x, hx, rfl⟩
    cases hx
    have : g < w.heap.size := hk
    omega
theorem part_drop' {l : List PartD} {k : Nat} (hk : k < l.length) (tl : List Int) : (l.drop k).flatMap partB ++ tl = [l[k].tag] ++ (intsB l[k].xs ++ ((l.drop (k + 1)).flatMap partB ++ tl)) := by
  rw [List.drop_eq_getElem_cons hk, List.flatMap_cons]
  simp only [partB, List.append_assoc, List.cons_append, List.nil_append]
theorem line_drop' {l : List LineD} {k : Nat} (hk : k < l.length) (tl : List Int) : (l.drop k).flatMap lineB ++ tl = unsB l[k].base.toNat ++ (unsB l[k].size.toNat ++ (intsB l[k].xs ++ ((l.drop (k + 1)).flatMap lineB ++ tl))) := by
  rw [List.drop_eq_getElem_cons hk, List.flatMap_cons]
  simp only [lineB, List.append_assoc]
theorem run_stringG {w : World} {B : Nat} {ao : Option Addr} {n c : Nat} {xs : List Int} (h : RowG w B ao n c xs) : (convert 47 9 (.slice ao n c)).run Tryd.prog w = .ok (.string (strOfNums xs)) w := by
  rcases h with h | ⟨_, hn, h0, hs, _⟩
  · exact run_string h
  · obtain ⟨b, off, rfl, _⟩ := hs.at (i := 0) (by simp; omega)
    refine run_convert_bytes_arg w _ _ Tryd.underlying47 Tryd.underlying5 b off n c xs hn (fun i hi => ?_) _ Tryd.underlying9
    obtain ⟨b', off', e', c'⟩ := hs.at (i := i) (by simp; omega)
    simp only [Option.some.injEq, Addr.mk.injEq, and_true] at e'
    obtain ⟨rfl, rfl⟩ := e'
    rw [c']; simp [List.getD, show i < xs.length by omega]

set_option maxRecDepth 100000 in
set_option maxHeartbeats 16000000 in
theorem cencode_good (w : World) (p : Pg) (hp : PgAt w p) (hl : Lens p) (hw : PgWf p) (h0 : (stepsR p).2 = 0) :
    Calls Tryd.prog 11 #[p.v] w fun e w' => e = .returned (.tuple #[.string (strOfNums (progB p)), I 0]) ∧ New w w' := by
  have ka : New w (w.alloc (.cells p.cs 39)) := Keeps.alloc _ _
  have hc := ccheck_any (w.alloc (.cells p.cs 39)) p (hp.new ka) hl
  rw [h0] at hc
  have hf := fits_of h0 hw
  have hT := progB_len hf
  obtain ⟨tz, htz⟩ : ∃ tz : List Int, tz = [] := ⟨_, rfl⟩
  have hpart : Part (progB p) [80, 78, 76, 49] (restB p ++ tz) := ⟨by rw [progB_rest, htz]; simp⟩
  have HZ := Lib.hid htz
  clear htz
  unfold restB at hpart
  simp only [List.append_assoc] at hpart
  generalize progB p = tot at hpart hT ⊢
  obtain ⟨⟨m0, m1⟩, ⟨c0, c1⟩, ⟨i0, i1⟩, ⟨o0, o1⟩, np, nl, no, fp, fl, fo⟩ := hf
  clear h0 hw
  have hpo := hp.po
  have hpp := hp.pp
  have hpl := hp.pl
  have hpx := hp.px
  have hlx := hp.lx
  clear hp hl
  obtain ⟨pmem, pctr, pins, pouts, ppa, ppc, pparts, pla, plc, plines, poa, poc, pops⟩ := p
  simp only at *
  simp only [Pg.v, Pg.cs] at hc ka ⊢
  have HP := Lib.hid fp
  have HL := Lib.hid fl
  have HO := Lib.hid fo
  clear fp fl fo
  have kc := fun (w : World) (C : Array Value) (n c : Nat) => Lib.run_convert_bytes_const (P := Tryd.prog) w 47 5 C n c Tryd.underlying47 Tryd.underlying5
  go_enter Tryd.func11, Tryd.ntmps11
  go_wp2_with fail
  refine hc.mono ?_
  rintro e W ⟨rfl, n2⟩
  have b0 := n2.cell (p := ⟨w.heap.size, 0, none⟩) (v := I pmem) (by simp)
  have b1 := n2.cell (p := ⟨w.heap.size, 1, none⟩) (v := I pctr) (by simp)
  have b2 := n2.cell (p := ⟨w.heap.size, 2, none⟩) (v := I pins) (by simp)
  have b3 := n2.cell (p := ⟨w.heap.size, 3, none⟩) (v := I pouts) (by simp)
  have b4 := n2.cell (p := ⟨w.heap.size, 4, none⟩) (v := .slice ppa pparts.length ppc) (by simp)
  have b5 := n2.cell (p := ⟨w.heap.size, 5, none⟩) (v := .slice pla plines.length plc) (by simp)
  have b6 := n2.cell (p := ⟨w.heap.size, 6, none⟩) (v := .slice poa pops.length poc) (by simp)
  have hN := ka.trans n2
  replace hpo := hpo.new hN
  replace hpp := hpp.new hN
  replace hpl := hpl.new hN
  replace hpx : ∀ x ∈ pparts, SlAt W x.a (Is x.xs) := fun x hx => (hpx x hx).new hN
  replace hlx : ∀ x ∈ plines, SlAt W x.a (Is x.xs) := fun x hx => (hlx x hx).new hN
  have HPX := Lib.hid hpx
  have HLX := Lib.hid hlx
  have hbs : w.heap.size < W.heap.size := World.block_lt_of_cell? W _ b0
  clear ka n2 hc hpx hlx
  go_wp2_with fail
  obtain ⟨G, hGe⟩ : ∃ G, G = W.heap.size + 1 := ⟨_, rfl⟩
  have hN0 : New W ((W.alloc (.cells #[.int .u8 80, .int .u8 78, .int .u8 76, .int .u8 49] 5 (4, 5))).alloc (.cells #[.slice (some ⟨W.heap.size, 0, none⟩) 4 4] 62)) := ((New.refl W).alloc _).alloc _
  have hw0 : WAt ((W.alloc (.cells #[.int .u8 80, .int .u8 78, .int .u8 76, .int .u8 49] 5 (4, 5))).alloc (.cells #[.slice (some ⟨W.heap.size, 0, none⟩) 4 4] 62)) G W.heap.size (some ⟨W.heap.size, 0, none⟩) [80, 78, 76, 49] := by
    subst hGe
    have h1 : ((W.alloc (.cells #[.int .u8 80, .int .u8 78, .int .u8 76, .int .u8 49] 5 (4, 5))).alloc (.cells #[.slice (some ⟨W.heap.size, 0, none⟩) 4 4] 62)).heap[W.heap.size + 1]? = some (.cells #[.slice (some ⟨W.heap.size, 0, none⟩) 4 4] 62 (0, 0)) := by
      have := heap_alloc_new (W.alloc (.cells #[.int .u8 80, .int .u8 78, .int .u8 76, .int .u8 49] 5 (4, 5))) (.cells #[.slice (some ⟨W.heap.size, 0, none⟩) 4 4] 62)
      simpa using this
    have h2 : ((W.alloc (.cells #[.int .u8 80, .int .u8 78, .int .u8 76, .int .u8 49] 5 (4, 5))).alloc (.cells #[.slice (some ⟨W.heap.size, 0, none⟩) 4 4] 62)).heap[W.heap.size]? = some (.cells (Bs [80, 78, 76, 49]).toArray 5 (4, 5)) :=
      Keeps.heap (S := fun _ => False) (Keeps.alloc _ _) (heap_alloc_new W _) (fun h => h)
    refine ⟨4, 4, h1, .inr ⟨rfl, rfl, by decide, SlAt.block h2, ?_⟩, ?_, by simp; omega⟩
    · rintro k ⟨x, hx, rfl⟩; cases hx; simp; omega
    · rintro ⟨x, hx, hk⟩; cases hx; simp at hk
  rw [← hGe]
  have hG : W.heap.size ≤ G := by omega
  clear hGe kc
  generalize (W.alloc (.cells #[.int .u8 80, .int .u8 78, .int .u8 76, .int .u8 49] 5 (4, 5))).alloc (.cells #[.slice (some ⟨W.heap.size, 0, none⟩) 4 4] 62) = w0 at hN0 hw0 ⊢
  refine (wcountP hT hN0 hG hw0 pmem hpart (by omega) (by omega)).mono ?_
  rintro e w1 ⟨rfl, ra, racc, hw1, hpart2, hst, hN1⟩
  clear hpart
  have hpart := hpart2
  clear hpart2
  clear hst hw0 hN0 
  have b1k := hN1.cell b1
  go_wp2_with fail
  refine (wcountP hT hN1 hG hw1 pctr hpart (by omega) (by omega)).mono ?_
  rintro e w2 ⟨rfl, ra, racc, hw2, hpart2, hst, hN2⟩
  clear hpart
  have hpart := hpart2
  clear hpart2
  clear hst hw1 hN1 b1k
  have b2k := hN2.cell b2
  go_wp2_with fail
  refine (wcountP hT hN2 hG hw2 pins hpart (by omega) (by omega)).mono ?_
  rintro e w3 ⟨rfl, ra, racc, hw3, hpart2, hst, hN3⟩
  clear hpart
  have hpart := hpart2
  clear hpart2
  clear hst hw2 hN2 b2k
  have b3k := hN3.cell b3
  go_wp2_with fail
  refine (wcountP hT hN3 hG hw3 pouts hpart (by omega) (by omega)).mono ?_
  rintro e w4 ⟨rfl, ra, racc, hw4, hpart2, hst, hN4⟩
  clear hpart
  have hpart := hpart2
  clear hpart2
  clear hst hw3 hN3 b3k
  have b4k := hN4.cell b4
  go_wp2_with fail
  refine (wcountNP hT hN4 hG hw4 pparts.length hpart (by omega)).mono ?_
  rintro e w5 ⟨rfl, ra, racc, hw5, hpart2, hst, hN5⟩
  clear hpart
  have hpart := hpart2
  clear hpart2
  clear hst hw4 hN4 b4k
  have b4k := hN5.cell b4
  replace hpart : Part tot racc ((pparts.drop 0).flatMap partB ++ (unsB plines.length ++ (plines.flatMap lineB ++ (unsB pops.length ++ (pops.flatMap opB ++ tz))))) := hpart
  go_wp2_with fail
  
  go_loopw [7, 45] (fun _ i wr => ∃ (k : Nat) (ra : Option Addr) (racc : List Int), k ≤ pparts.length ∧ i = .int .i64 k ∧ WAt wr G W.heap.size ra racc ∧ Part tot racc ((pparts.drop k).flatMap partB ++ (unsB plines.length ++ (plines.flatMap lineB ++ (unsB pops.length ++ (pops.flatMap opB ++ tz))))) ∧ New W wr) (fun _ i _ => pparts.length - (intOf i).toNat)
  case atStart => exact ⟨0, ra, racc, by omega, rfl, hw5, hpart, hN5⟩
  case round =>
    clear hw5 hpart hN5
    obtain ⟨k, ra, racc, hk, rfl, hw, hpart, hNk⟩ := hrel
    by_cases hk1 : k < pparts.length
    · rw [part_drop' hk1] at hpart
      have hxn := (HP.out _ (List.getElem_mem hk1)).1
      have HXB := Lib.hid (HP.out _ (List.getElem_mem hk1)).2
      have hxx := HPX.out _ (List.getElem_mem hk1)
      obtain ⟨b, off, rfl, q0, q1⟩ := parts_at hpp hk1
      clear hpp
      generalize pparts[k] = x at hpart q0 q1 hxn HXB hxx
      have q0k := hNk.cell q0
      have q1k := hNk.cell q1
      have hlt := hw.lt
      have hGx : wr.heap.size ≠ G := by omega
      have hbx : ¬ blk ra wr.heap.size := fun h => absurd (hlt.2 _ h) (Nat.lt_irrefl _)
      have ka : New wr (wr.alloc (.cells #[.int .u8 x.tag, .slice x.a x.xs.length x.c] 52)) := Keeps.alloc _ _
      have hN0 := hNk.trans ka
      have hw0 := hw.new ka
      have x0 : (wr.alloc (.cells #[.int .u8 x.tag, .slice x.a x.xs.length x.c] 52)).cell? ⟨wr.heap.size, 0, none⟩ = some (.int .u8 x.tag) := by simp
      have x1 : (wr.alloc (.cells #[.int .u8 x.tag, .slice x.a x.xs.length x.c] 52)).cell? ⟨wr.heap.size, 1, none⟩ = some (.slice x.a x.xs.length x.c) := by simp
      have hzx : wr.heap.size < (wr.alloc (.cells #[.int .u8 x.tag, .slice x.a x.xs.length x.c] 52)).heap.size := by simp
      go_wp2_with fail
      generalize wr.alloc (.cells #[.int .u8 x.tag, .slice x.a x.xs.length x.c] 52) = wb at hN0 hw0 x0 x1 hzx ⊢
      clear q0k q1k ka hw hlt
      refine (wbyteP hT hN0 hG hw0 x.tag hpart).mono ?_
      rintro e w1 ⟨rfl, ra, racc, hw1, hpart2, hst, hN1⟩
      clear hpart
      have hpart := hpart2
      clear hpart2
      replace x0 := hst.box x0 hGx hbx
      replace x1 := hst.box x1 hGx hbx
      replace hbx := hst.off hzx hbx
      replace hzx := Nat.lt_of_lt_of_le hzx hst.keeps.size
      clear hst hw0 hN0 
      go_wp2_with fail
      refine (wintsP hT hN1 hG hw1 x.a x.c x.xs hxx HXB.out (by omega) hpart).mono ?_
      rintro e w2 ⟨rfl, ra, racc, hw2, hpart2, hst, hN2⟩
      clear hpart
      have hpart := hpart2
      clear hpart2
      clear hst hw1 hN1 x0 x1
      go_wp2
      go_roundw
      case rel => exact ⟨k + 1, ra, racc, by omega, by go_num, hw2, hpart, hN2⟩
      case measure => simp [intOf]; omega
    · replace hpart : Part tot racc ((unsB plines.length ++ (plines.flatMap lineB ++ (unsB pops.length ++ (pops.flatMap opB ++ tz))))) := by
        rw [List.drop_of_length_le (by omega)] at hpart; exact hpart
      have hk9 : pparts.length ≤ k := by omega
      clear hk hk1
      obtain ⟨wo, rfl⟩ : ∃ wo : World, wo = wr := ⟨_, rfl⟩
      have hN0 := hNk
      have hw0 := hw
      have b5k := hN0.cell b5
      clear hw hNk b4k
      go_wp2_with fail
      refine (wcountNP hT hN0 hG hw0 plines.length hpart (by omega)).mono ?_
      rintro e w1 ⟨rfl, ra, racc, hw1, hpart2, hst, hN1⟩
      clear hpart
      have hpart := hpart2
      clear hpart2
      clear hk9 hst hw0 hN0 b5k
      have b5k := hN1.cell b5
      replace hpart : Part tot racc ((plines.drop 0).flatMap lineB ++ (unsB pops.length ++ (pops.flatMap opB ++ tz))) := hpart
      go_wp2_with fail
      
      go_loopw [9, 66] (fun _ i wr => ∃ (k : Nat) (ra : Option Addr) (racc : List Int), k ≤ plines.length ∧ i = .int .i64 k ∧ WAt wr G W.heap.size ra racc ∧ Part tot racc ((plines.drop k).flatMap lineB ++ (unsB pops.length ++ (pops.flatMap opB ++ tz))) ∧ New W wr) (fun _ i _ => plines.length - (intOf i).toNat)
      case atStart => exact ⟨0, ra, racc, by omega, rfl, hw1, hpart, hN1⟩
      case round =>
        clear hw1 hpart hN1
        obtain ⟨k, ra, racc, hk, rfl, hw, hpart, hNk⟩ := hrel
        by_cases hk1 : k < plines.length
        · rw [line_drop' hk1] at hpart
          obtain ⟨z0, z1, z2, z3, hxn, hxb⟩ := HL.out _ (List.getElem_mem hk1)
          have HXB := Lib.hid hxb
          clear hxb
          have hxx := HLX.out _ (List.getElem_mem hk1)
          obtain ⟨b, off, rfl, q0, q1, q2⟩ := lines_at hpl hk1
          clear hpl
          generalize plines[k] = x at hpart q0 q1 q2 hxn HXB hxx z0 z1 z2 z3
          have q0k := hNk.cell q0
          have q1k := hNk.cell q1
          have q2k := hNk.cell q2
          have hlt := hw.lt
          have hGx : wr.heap.size ≠ G := by omega
          have hbx : ¬ blk ra wr.heap.size := fun h => absurd (hlt.2 _ h) (Nat.lt_irrefl _)
          have ka : New wr (wr.alloc (.cells #[I x.base, I x.size, .slice x.a x.xs.length x.c] 58)) := Keeps.alloc _ _
          have hN0 := hNk.trans ka
          have hw0 := hw.new ka
          have x0 : (wr.alloc (.cells #[I x.base, I x.size, .slice x.a x.xs.length x.c] 58)).cell? ⟨wr.heap.size, 0, none⟩ = some (I x.base) := by simp
          have x1 : (wr.alloc (.cells #[I x.base, I x.size, .slice x.a x.xs.length x.c] 58)).cell? ⟨wr.heap.size, 1, none⟩ = some (I x.size) := by simp
          have x2 : (wr.alloc (.cells #[I x.base, I x.size, .slice x.a x.xs.length x.c] 58)).cell? ⟨wr.heap.size, 2, none⟩ = some (.slice x.a x.xs.length x.c) := by simp
          have hzx : wr.heap.size < (wr.alloc (.cells #[I x.base, I x.size, .slice x.a x.xs.length x.c] 58)).heap.size := by simp
          go_wp2_with fail
          generalize wr.alloc (.cells #[I x.base, I x.size, .slice x.a x.xs.length x.c] 58) = wb at hN0 hw0 x0 x1 x2 hzx ⊢
          clear q0k q1k q2k ka hw hlt
          refine (wcountP hT hN0 hG hw0 x.base hpart (by omega) (by omega)).mono ?_
          rintro e w1 ⟨rfl, ra, racc, hw1, hpart2, hst, hN1⟩
          clear hpart
          have hpart := hpart2
          clear hpart2
          replace x0 := hst.box x0 hGx hbx
          replace x1 := hst.box x1 hGx hbx
          replace x2 := hst.box x2 hGx hbx
          replace hbx := hst.off hzx hbx
          replace hzx := Nat.lt_of_lt_of_le hzx hst.keeps.size
          clear hst hw0 hN0 
          go_wp2_with fail
          refine (wcountP hT hN1 hG hw1 x.size hpart (by omega) (by omega)).mono ?_
          rintro e w2 ⟨rfl, ra, racc, hw2, hpart2, hst, hN2⟩
          clear hpart
          have hpart := hpart2
          clear hpart2
          replace x0 := hst.box x0 hGx hbx
          replace x1 := hst.box x1 hGx hbx
          replace x2 := hst.box x2 hGx hbx
          replace hbx := hst.off hzx hbx
          replace hzx := Nat.lt_of_lt_of_le hzx hst.keeps.size
          clear hst hw1 hN1 
          go_wp2_with fail
          refine (wintsP hT hN2 hG hw2 x.a x.c x.xs hxx HXB.out (by omega) hpart).mono ?_
          rintro e w3 ⟨rfl, ra, racc, hw3, hpart2, hst, hN3⟩
          clear hpart
          have hpart := hpart2
          clear hpart2
          clear hst hw2 hN2 x0 x1 x2
          go_wp2
          go_roundw
          case rel => exact ⟨k + 1, ra, racc, by omega, by go_num, hw3, hpart, hN3⟩
          case measure => simp [intOf]; omega
        · replace hpart : Part tot racc ((unsB pops.length ++ (pops.flatMap opB ++ tz))) := by
            rw [List.drop_of_length_le (by omega)] at hpart; exact hpart
          have hk9 : plines.length ≤ k := by omega
          clear hk hk1
          obtain ⟨wp, rfl⟩ : ∃ wp : World, wp = wr := ⟨_, rfl⟩
          have hN0 := hNk
          have hw0 := hw
          have b6k := hN0.cell b6
          clear hw hNk
          go_wp2_with fail
          refine (wcountNP hT hN0 hG hw0 pops.length hpart (by omega)).mono ?_
          rintro e w1 ⟨rfl, ra, racc, hw1, hpart2, hst, hN1⟩
          clear hpart
          have hpart := hpart2
          clear hpart2
          clear hk9 hst hw0 hN0 b6k
          have b6k := hN1.cell b6
          replace hpart : Part tot racc ((pops.drop 0).flatMap opB ++ tz) := hpart
          go_wp2_with fail
          
          go_loopw [11, 93] (fun _ i wr => ∃ (k : Nat) (ra : Option Addr) (racc : List Int), k ≤ pops.length ∧ i = .int .i64 k ∧ WAt wr G W.heap.size ra racc ∧ Part tot racc ((pops.drop k).flatMap opB ++ tz) ∧ New W wr) (fun _ i _ => pops.length - (intOf i).toNat)
          case atStart => exact ⟨0, ra, racc, by omega, rfl, hw1, hpart, hN1⟩
          case round =>
            clear hw1 hpart hN1
            obtain ⟨k, ra, racc, hk, rfl, hw, hpart, hNk⟩ := hrel
            by_cases hk1 : k < pops.length
            · rw [op_drop hk1] at hpart
              obtain ⟨z0, z1, z2, z3⟩ := HO.out _ (List.getElem_mem hk1)
              obtain ⟨b, off, rfl, q0, q1, q2⟩ := ops_at hpo hk1
              clear hpo
              generalize pops[k] = x at hpart q0 q1 q2 z0 z1 z2 z3
              have q0k := hNk.cell q0
              have q1k := hNk.cell q1
              have q2k := hNk.cell q2
              have hlt := hw.lt
              have hGx : wr.heap.size ≠ G := by omega
              have hbx : ¬ blk ra wr.heap.size := fun h => absurd (hlt.2 _ h) (Nat.lt_irrefl _)
              have ka : New wr (wr.alloc (.cells #[.int .u8 x.kind, I x.a, I x.b] 24)) := Keeps.alloc _ _
              have hN0 := hNk.trans ka
              have hw0 := hw.new ka
              have x0 : (wr.alloc (.cells #[.int .u8 x.kind, I x.a, I x.b] 24)).cell? ⟨wr.heap.size, 0, none⟩ = some (.int .u8 x.kind) := by simp
              have x1 : (wr.alloc (.cells #[.int .u8 x.kind, I x.a, I x.b] 24)).cell? ⟨wr.heap.size, 1, none⟩ = some (I x.a) := by simp
              have x2 : (wr.alloc (.cells #[.int .u8 x.kind, I x.a, I x.b] 24)).cell? ⟨wr.heap.size, 2, none⟩ = some (I x.b) := by simp
              have hzx : wr.heap.size < (wr.alloc (.cells #[.int .u8 x.kind, I x.a, I x.b] 24)).heap.size := by simp
              go_wp2_with fail
              generalize wr.alloc (.cells #[.int .u8 x.kind, I x.a, I x.b] 24) = wb at hN0 hw0 x0 x1 x2 hzx ⊢
              clear q0k q1k q2k ka hw hlt
              refine (wbyteP hT hN0 hG hw0 x.kind hpart).mono ?_
              rintro e w1 ⟨rfl, ra, racc, hw1, hpart2, hst, hN1⟩
              clear hpart
              have hpart := hpart2
              clear hpart2
              replace x0 := hst.box x0 hGx hbx
              replace x1 := hst.box x1 hGx hbx
              replace x2 := hst.box x2 hGx hbx
              replace hbx := hst.off hzx hbx
              replace hzx := Nat.lt_of_lt_of_le hzx hst.keeps.size
              clear hst hw0 hN0 
              go_wp2_with fail
              refine (wcountP hT hN1 hG hw1 x.a hpart (by omega) (by omega)).mono ?_
              rintro e w2 ⟨rfl, ra, racc, hw2, hpart2, hst, hN2⟩
              clear hpart
              have hpart := hpart2
              clear hpart2
              replace x0 := hst.box x0 hGx hbx
              replace x1 := hst.box x1 hGx hbx
              replace x2 := hst.box x2 hGx hbx
              replace hbx := hst.off hzx hbx
              replace hzx := Nat.lt_of_lt_of_le hzx hst.keeps.size
              clear hst hw1 hN1 
              go_wp2_with fail
              refine (wcountP hT hN2 hG hw2 x.b hpart (by omega) (by omega)).mono ?_
              rintro e w3 ⟨rfl, ra, racc, hw3, hpart2, hst, hN3⟩
              clear hpart
              have hpart := hpart2
              clear hpart2
              clear hst hw2 hN2 x0 x1 x2
              go_wp2
              go_roundw
              case rel => exact ⟨k + 1, ra, racc, by omega, by go_num, hw3, hpart, hN3⟩
              case measure => simp [intOf]; omega
            · replace hpart : Part tot racc (tz) := by
                rw [List.drop_of_length_le (by omega)] at hpart; exact hpart
              have hk9 : pops.length ≤ k := by omega
              clear hk hk1
              have htot : racc = tot := by
                have := hpart.eq; rw [HZ.out] at this; simpa using this
              rw [htot] at hw
              obtain ⟨rn, rc, hgb, hrow, _, _⟩ := hw
              have hcv := run_stringG hrow
              have hcg := cell_of_block hgb 0
              simp only [List.getElem?_toArray, List.getElem?_cons_zero] at hcg
              have HT := Lib.hid htot
              clear htot hpart hrow hgb
              go_wp2
              go_ret2
              exact ⟨rfl, hN.trans hNk⟩
set_option maxRecDepth 100000 in
set_option maxHeartbeats 2000000 in
theorem cencode_bad (w : World) (p : Pg) (hp : PgAt w p) (hl : Lens p) (h0 : (stepsR p).2 ≠ 0) :
    Calls Tryd.prog 11 #[p.v] w fun e w' => e = .returned (.tuple #[.string ⟨#[]⟩, I (stepsR p).2]) ∧ New w w' := by
  have ka : New w (w.alloc (.cells p.cs 39)) := Keeps.alloc _ _
  have hc := ccheck_any (w.alloc (.cells p.cs 39)) p (hp.new ka) hl
  generalize (stepsR p).2 = r at hc h0 ⊢
  have e0 : (r != 0) = true := by simpa using h0
  clear hp hl h0
  simp only [Pg.v, Pg.cs] at hc ka ⊢
  go_enter Tryd.func11, Tryd.ntmps11
  go_wp2_with fail
  refine hc.mono ?_
  rintro e w2 ⟨rfl, n2⟩
  go_wp2
  go_ret2
  exact ⟨rfl, ka.trans n2⟩
end Go.Proofs.YtfmpjbiaamkobaaDoor
