/-
  Layer 20: the document's Encode at any program.
-/
import Derived.Test.YtfmpjbiaamkobaaCodeL
import Derived.Test.YtfmpjbiaamkobaaCodeN
import Derived.Lib.AppendStr
import Derived.Laws.BytesArg
namespace Go.Proofs.Ytfmpjbiaamkobaa
open Go Go.RowKit
set_option linter.all false

abbrev OwnN (w : World) (B : Nat) (ao : Option Addr) (n c : Nat) (xs : List Int) : Prop := w.ownsRow B 5 1 (.slice ao n c) n (Bs xs)

theorem own_slice {w : World} {B : Nat} {e : TypeId} {size n : Nat} {v : Value} {xs : List Value} (h : w.ownsRow B e size v n xs) : ∃ a c, v = .slice a n c := by
  rcases h.2 with ⟨h0, h1⟩ | ⟨g, cap, cur, h0, _⟩
  · subst h1; exact ⟨none, 0, h0⟩
  · exact ⟨_, _, h0⟩

/-- What a part of a whole is, told by what is left. -/
structure Part (tot acc rest : List Int) : Prop where
  eq : acc ++ rest = tot
theorem Part.step {tot acc bs rest : List Int} (h : Part tot acc (bs ++ rest)) : Part tot (acc ++ bs) rest := ⟨by rw [List.append_assoc]; exact h.eq⟩
theorem Part.le {tot acc rest : List Int} (h : Part tot acc rest) : acc.length + rest.length = tot.length := by rw [← h.eq]; simp

/-- Bytes appended to a row of the call's own. -/
theorem wpList_appB {W w : World} {ops : Array Oper} {rest : List Oper} {o : Oper} {a : Act} {Q : Exit → Act → World → Prop} {tot left : List Int} (hgd : o.guard = none) (s x : Operand)
    (ho : o.op = .call { callee := .builtin .append, args := #[s, x], argTypes := #[65, 65] }) (het : o.type = 65)
    (hN : New W w) (ao : Option Addr) (n c : Nat) (xs : List Int) (hs : a.eval s = .slice ao n c) (hown : OwnN w W.heap.size ao n c xs)
    (ad : Option Addr) (m cc : Nat) (bs : List Int) (hx : a.eval x = .slice ad m cc) (hl : bs.length = m) (hat : SlAt w ad (Bs bs)) (hP : Part tot xs (bs ++ left)) (hT : tot.length ≤ 100000000)
    (h : ∀ ao' n' c' xs' w', OwnN w' W.heap.size ao' n' c' xs' → New W w' → Part tot xs' left → wpList Try.prog ops Q rest (a.put o.dst (.slice ao' n' c')) w') : wpList Try.prog ops Q (o :: rest) a w := by
  obtain ⟨i0, hi, hz0, hz1, hz2⟩ := info_parts Try.infoU8
  have hle := hP.le
  have hn : n = xs.length := by have := hown.1; simpa using this.symm
  rw [List.length_append] at hle
  refine wpList_app hgd s x 65 ho W.heap.size 5 i0 (.int .u8 0) 1 1 Try.underlying65 hi hz0 hz1 hz2 rfl (by decide) ao n c (Bs xs) hs hown ad m cc (Bs bs) hx (by simp [hl]) hat (oneCell_bs _) (by unfold maxLen; omega) (by omega) hN.size ?_
  intro ao' c' w' h1 hk _ _
  refine h ao' (n + m) c' (xs ++ bs) w' (by simpa [OwnN] using h1) (hN.keeps hk (fun i hi ⟨y, hy, hb⟩ => ?_)) hP.step
  subst hy
  have := (World.ownsRow.lt hown y.block rfl).1
  omega

/-- The first four bytes, appended to nil. -/
theorem wpList_magic {W : World} {ops : Array Oper} {rest : List Oper} {o : Oper} {a : Act} {Q : Exit → Act → World → Prop} (hgd : o.guard = none) (s x : Operand)
    (ho : o.op = .call { callee := .builtin .append, args := #[s, x], argTypes := #[65, 9] })
    (hs : a.eval s = .slice none 0 0) (hx : a.eval x = .string ⟨#[80, 78, 76, 49]⟩)
    (h : ∀ ao' c' w', OwnN w' W.heap.size ao' 4 c' [80, 78, 76, 49] → New W w' → wpList Try.prog ops Q rest (a.put o.dst (.slice ao' 4 c')) w') : wpList Try.prog ops Q (o :: rest) a W := by
  obtain ⟨i0, hi, hz0, hz1, hz2⟩ := info_parts Try.infoU8
  refine Lib.wpList_append_own_string W hgd s x 65 9 ho W.heap.size 5 i0 Try.underlying65 Try.underlying9 hi hz0 hz1 hz2 (.slice none 0 0) 0 [] hs (World.ownsRow_nil _ _ _ _) ⟨#[80, 78, 76, 49]⟩ hx (by decide) (by decide) (Nat.le_refl _) ?_
  intro v' w' h1 hg _
  obtain ⟨a', c', rfl⟩ := own_slice h1
  have hl : (0 + (⟨#[80, 78, 76, 49]⟩ : ByteArray).size) = 4 := rfl
  rw [hl] at h1
  have h2 : Value.slice a' 4 c' = Value.slice a' 4 c' := rfl
  rcases h1.2 with ⟨h0, h3⟩ | ⟨g, cap, cur, h0, _⟩
  · omega
  · cases h0
    exact h _ _ _ h1 (Keeps.grown hg (fun k h => by cases h))

theorem length_flatMap_le {α : Type} (f : α → List Int) (k : Nat) : ∀ (l : List α), (∀ x ∈ l, (f x).length ≤ k) → (l.flatMap f).length ≤ l.length * k := by
  intro l
  induction l with
  | nil => intro _; simp
  | cons x r ih =>
    intro h
    rw [List.flatMap_cons, List.length_append, List.length_cons, Nat.succ_mul]
    have := h x (by simp)
    have := ih (fun y hy => h y (by simp [hy]))
    omega
theorem unsB_len (n : Nat) : (unsB n).length ≤ 10 := (unsF_len 9 n).2
theorem intsB_len (l : List Int) : (intsB l).length ≤ 10 + l.length * 10 := by
  unfold intsB
  rw [List.length_append]
  have := unsB_len l.length
  have := length_flatMap_le (fun n => unsB (zig n)) 10 l (fun x _ => unsB_len _)
  omega
theorem progB_len {p : Pg} (h : Fits p) : (progB p).length ≤ 10000000 := by
  have h1 := length_flatMap_le partB 200 p.parts (fun x hx => by
    have := (h.ps x hx).1
    have := intsB_len x.xs
    simp only [partB, List.length_cons]; omega)
  have h2 := length_flatMap_le lineB 20000 p.lines (fun x hx => by
    have := (h.ls x hx).2.2.2.2.1
    have := intsB_len x.xs
    have := unsB_len x.base.toNat
    have := unsB_len x.size.toNat
    simp only [lineB, List.length_append]; omega)
  have h3 := length_flatMap_le opB 30 p.ops (fun x hx => by
    have := unsB_len x.a.toNat
    have := unsB_len x.b.toNat
    simp only [opB, List.length_cons, List.length_append]; omega)
  have a1 := h.np
  have a2 := h.nl
  have a3 := h.no
  have b1 := unsB_len p.mem.toNat
  have b2 := unsB_len p.ctr.toNat
  have b3 := unsB_len p.ins.toNat
  have b4 := unsB_len p.outs.toNat
  have b5 := unsB_len p.parts.length
  have b6 := unsB_len p.lines.length
  have b7 := unsB_len p.ops.length
  unfold progB
  simp only [List.length_append, List.length_cons, List.length_nil]
  have c1 : p.parts.length * 200 ≤ 32 * 200 := Nat.mul_le_mul_right _ a1
  have c2 : p.lines.length * 20000 ≤ 96 * 20000 := Nat.mul_le_mul_right _ a2
  have c3 : p.ops.length * 30 ≤ 131072 * 30 := Nat.mul_le_mul_right _ a3
  omega

theorem run_string {w : World} {B : Nat} {ao : Option Addr} {n c : Nat} {xs : List Int} (h : OwnN w B ao n c xs) : (convert 65 9 (.slice ao n c)).run Try.prog w = .ok (.string (strOfNums xs)) w := by
  have hn : xs.length = n := by have := h.1; simpa using this
  rcases h.2 with ⟨h0, h1⟩ | ⟨g, cap, cur, h0, hb, hg, hnc, hcm, hcs, htake⟩
  · cases h0
    obtain rfl : xs = [] := List.eq_nil_of_length_eq_zero (by omega)
    rw [run_convert_bytes_nil w _ _ Try.underlying65 Try.underlying5 _ _ _ Try.underlying9]
    rfl
  · cases h0
    refine run_convert_bytes_arg w _ _ Try.underlying65 Try.underlying5 g 0 n c xs hn (fun i hi => ?_) _ Try.underlying9
    rw [Nat.zero_add, h.cellAt i (by omega)]
    simp [List.getD, show i < xs.length by omega]
theorem countedN_any (n : Nat) (h1 : n ≤ 9223372036854775807) (w : World) : Calls Try.prog 35 #[I (n : Int)] w (BytesOut w (unsB n)) := by
  have h := counted_any (n : Int) (by omega) (by omega) w
  rw [Int.toNat_natCast] at h; exact h
theorem ints_drop {l : List Int} {j : Nat} (hj : j < l.length) (tl : List Int) : (l.drop j).flatMap (fun n => unsB (zig n)) ++ tl = unsB (zig l[j]) ++ ((l.drop (j + 1)).flatMap (fun n => unsB (zig n)) ++ tl) := by
  rw [List.drop_eq_getElem_cons hj, List.flatMap_cons, List.append_assoc]
theorem part_drop {l : List PartD} {k : Nat} (hk : k < l.length) (tl : List Int) : (l.drop k).flatMap partB ++ tl = [l[k].tag] ++ (unsB l[k].xs.length ++ ((l[k].xs.drop 0).flatMap (fun n => unsB (zig n)) ++ ((l.drop (k + 1)).flatMap partB ++ tl))) := by
  rw [List.drop_eq_getElem_cons hk, List.flatMap_cons]
  simp only [partB, intsB, List.append_assoc, List.cons_append, List.nil_append, List.drop_zero]
theorem line_drop {l : List LineD} {k : Nat} (hk : k < l.length) (tl : List Int) : (l.drop k).flatMap lineB ++ tl = unsB l[k].base.toNat ++ (unsB l[k].size.toNat ++ (unsB l[k].xs.length ++ ((l[k].xs.drop 0).flatMap (fun n => unsB (zig n)) ++ ((l.drop (k + 1)).flatMap lineB ++ tl)))) := by
  rw [List.drop_eq_getElem_cons hk, List.flatMap_cons]
  simp only [lineB, intsB, List.append_assoc, List.cons_append, List.nil_append, List.drop_zero]
theorem op_drop {l : List OpD} {k : Nat} (hk : k < l.length) (tl : List Int) : (l.drop k).flatMap opB ++ tl = [l[k].kind] ++ (unsB l[k].a.toNat ++ (unsB l[k].b.toNat ++ ((l.drop (k + 1)).flatMap opB ++ tl))) := by
  rw [List.drop_eq_getElem_cons hk, List.flatMap_cons]
  simp only [opB, List.append_assoc, List.cons_append, List.nil_append]

set_option maxRecDepth 100000 in
set_option maxHeartbeats 16000000 in
theorem rencode_good (w : World) (p : Pg) (hp : PgAt w p) (hl : Lens p) (hw : PgWf p) (h0 : (stepsR p).2 = 0) :
    Calls Try.prog 19 #[p.v] w fun e w' => e = .returned (.tuple #[.string (strOfNums (progB p)), I 0]) ∧ New w w' := by
  have ka : New w (w.alloc (.cells p.cs 26)) := Keeps.alloc _ _
  have hc := rcheck_any (w.alloc (.cells p.cs 26)) p (hp.new ka) hl
  rw [h0] at hc
  have hf := fits_of h0 hw
  have hT : (progB p).length ≤ 100000000 := by have := progB_len hf; omega
  obtain ⟨tz, htz⟩ : ∃ tz : List Int, tz = [] := ⟨_, rfl⟩
  have hpart : Part (progB p) [80, 78, 76, 49] (restB p ++ tz) := ⟨by rw [progB_rest, htz]; simp⟩
  have HZ := Lib.hid htz
  clear htz
  unfold restB at hpart
  simp only [List.append_assoc] at hpart
  generalize progB p = tot at hpart hT ⊢
  obtain ⟨⟨m0, m1⟩, ⟨c0, c1⟩, ⟨i0, i1⟩, ⟨o0, o1⟩, np, nl, no, fp, fl, fo⟩ := hf
  clear h0 hw
  have hpo := hp.po
  have hpp := hp.pp
  have hpl := hp.pl
  have hpx := hp.px
  have hlx := hp.lx
  clear hp hl
  obtain ⟨pmem, pctr, pins, pouts, ppa, ppc, pparts, pla, plc, plines, poa, poc, pops⟩ := p
  simp only at *
  simp only [Pg.v, Pg.cs] at hc ka ⊢
  have HP := Lib.hid fp
  have HL := Lib.hid fl
  have HO := Lib.hid fo
  clear fp fl fo
  go_enter Try.func19, Try.ntmps19
  go_wp2_with fail
  refine hc.mono ?_
  rintro e W ⟨rfl, n2⟩
  have b0 := n2.cell (p := ⟨w.heap.size, 0, none⟩) (v := I pmem) (by simp)
  have b1 := n2.cell (p := ⟨w.heap.size, 1, none⟩) (v := I pctr) (by simp)
  have b2 := n2.cell (p := ⟨w.heap.size, 2, none⟩) (v := I pins) (by simp)
  have b3 := n2.cell (p := ⟨w.heap.size, 3, none⟩) (v := I pouts) (by simp)
  have b4 := n2.cell (p := ⟨w.heap.size, 4, none⟩) (v := .slice ppa pparts.length ppc) (by simp)
  have b5 := n2.cell (p := ⟨w.heap.size, 5, none⟩) (v := .slice pla plines.length plc) (by simp)
  have b6 := n2.cell (p := ⟨w.heap.size, 6, none⟩) (v := .slice poa pops.length poc) (by simp)
  have hN := ka.trans n2
  replace hpo := hpo.new hN
  replace hpp := hpp.new hN
  replace hpl := hpl.new hN
  replace hpx : ∀ x ∈ pparts, SlAt W x.a (Is x.xs) := fun x hx => (hpx x hx).new hN
  replace hlx : ∀ x ∈ plines, SlAt W x.a (Is x.xs) := fun x hx => (hlx x hx).new hN
  have HPX := Lib.hid hpx
  have HLX := Lib.hid hlx
  clear ka n2 hc hpx hlx
  go_wp2_with (at_builtin; refine wpList_magic rfl _ _ rfl rfl rfl ?_)
  intro ra rc w1 hown hN1
  obtain ⟨rn, hrn⟩ : ∃ n : Nat, n = 4 := ⟨_, rfl⟩
  rw [← hrn] at hown ⊢
  clear hrn
  have b0' := hN1.cell b0
  go_wp2_with fail
  refine (counted_any pmem (by omega) (by omega) _).mono ?_
  rintro e v1 ⟨ad, cc, rfl, ob, kb⟩
  replace hown := New.owns kb hown
  have hNv := hN1.trans kb
  go_wp2_with (at_builtin; refine wpList_appB rfl _ _ rfl rfl hNv _ _ _ _ rfl hown _ _ _ _ rfl rfl ob.sl hpart hT ?_)
  clear hown hpart hNv ob kb
  intro ra rn rc racc w2 hown hN2 hpart
  clear b0'
  clear hN1
  have b1' := hN2.cell b1
  go_wp2_with fail
  refine (counted_any pctr (by omega) (by omega) _).mono ?_
  rintro e v2 ⟨ad, cc, rfl, ob, kb⟩
  replace hown := New.owns kb hown
  have hNv := hN2.trans kb
  go_wp2_with (at_builtin; refine wpList_appB rfl _ _ rfl rfl hNv _ _ _ _ rfl hown _ _ _ _ rfl rfl ob.sl hpart hT ?_)
  clear hown hpart hNv ob kb
  intro ra rn rc racc w3 hown hN3 hpart
  clear b1'
  clear hN2
  have b2' := hN3.cell b2
  go_wp2_with fail
  refine (counted_any pins (by omega) (by omega) _).mono ?_
  rintro e v3 ⟨ad, cc, rfl, ob, kb⟩
  replace hown := New.owns kb hown
  have hNv := hN3.trans kb
  go_wp2_with (at_builtin; refine wpList_appB rfl _ _ rfl rfl hNv _ _ _ _ rfl hown _ _ _ _ rfl rfl ob.sl hpart hT ?_)
  clear hown hpart hNv ob kb
  intro ra rn rc racc w4 hown hN4 hpart
  clear b2'
  clear hN3
  have b3' := hN4.cell b3
  go_wp2_with fail
  refine (counted_any pouts (by omega) (by omega) _).mono ?_
  rintro e v4 ⟨ad, cc, rfl, ob, kb⟩
  replace hown := New.owns kb hown
  have hNv := hN4.trans kb
  go_wp2_with (at_builtin; refine wpList_appB rfl _ _ rfl rfl hNv _ _ _ _ rfl hown _ _ _ _ rfl rfl ob.sl hpart hT ?_)
  clear hown hpart hNv ob kb
  intro ra rn rc racc w5 hown hN5 hpart
  clear b3'
  clear hN4
  have b4' := hN5.cell b4
  go_wp2_with fail
  refine (countedN_any pparts.length (by omega) _).mono ?_
  rintro e v5 ⟨ad, cc, rfl, ob, kb⟩
  replace hown := New.owns kb hown
  have hNv := hN5.trans kb
  go_wp2_with (at_builtin; refine wpList_appB rfl _ _ rfl rfl hNv _ _ _ _ rfl hown _ _ _ _ rfl rfl ob.sl hpart hT ?_)
  clear hown hpart hNv ob kb
  intro ra rn rc racc w6 hown hN6 hpart
  clear b4'
  clear hN5
  replace hpart : Part tot racc ((pparts.drop 0).flatMap partB ++ (unsB plines.length ++ (plines.flatMap lineB ++ (unsB pops.length ++ (pops.flatMap opB ++ tz))))) := hpart
  go_wp2_with fail
  have hsz0 := hN6.size
  go_loopw [5, 6, 7] (fun v i _ wr => ∃ (k : Nat) (ra : Option Addr) (rn rc : Nat) (racc : List Int), k ≤ pparts.length ∧ i = .int .i64 k ∧ v = .slice ra rn rc ∧ OwnN wr W.heap.size ra rn rc racc ∧ Part tot racc ((pparts.drop k).flatMap partB ++ (unsB plines.length ++ (plines.flatMap lineB ++ (unsB pops.length ++ (pops.flatMap opB ++ tz))))) ∧ New W wr) (fun _ i _ _ => pparts.length - (intOf i).toNat)
  case atStart => exact ⟨0, ra, rn, rc, racc, by omega, rfl, rfl, hown, hpart, hN6⟩
  case round =>
    clear hown hpart hN6 hsz0
    obtain ⟨k, ra, rn, rc, racc, hk, rfl, rfl, hown, hpart, hN0⟩ := hrel
    by_cases hk1 : k < pparts.length
    · rw [part_drop hk1] at hpart
      have hxn := (HP.out _ (List.getElem_mem hk1)).1
      have HXB := Lib.hid (HP.out _ (List.getElem_mem hk1)).2
      have hxx := HPX.out _ (List.getElem_mem hk1)
      obtain ⟨b, off, rfl, q0, q1⟩ := parts_at hpp hk1
      clear hpp
      generalize pparts[k] = x at hpart hxn HXB hxx q0 q1
      have b4k := hN0.cell b4
      have q0k := hN0.cell q0
      have hNv := New.alloc hN0 (.cells #[.int .u8 x.tag] 5)
      go_wp2_with (at_builtin; refine wpList_appB rfl _ _ rfl rfl hNv _ _ _ _ rfl (New.owns (Keeps.alloc _ _) hown) _ 1 1 [x.tag] rfl rfl (SlAt.lit _ _ _) hpart hT ?_)
      clear hown hpart hNv
      intro ra rn rc racc w1 hown hN1 hpart
      clear hN0
      have b4l := hN1.cell b4
      have q1l := hN1.cell q1
      go_wp2_with fail
      refine (countedN_any x.xs.length (by omega) _).mono ?_
      rintro e v ⟨ad, cc, rfl, ob, kb⟩
      replace hown := New.owns kb hown
      have hNv := hN1.trans kb
      go_wp2_with (at_builtin; refine wpList_appB rfl _ _ rfl rfl hNv _ _ _ _ rfl hown _ _ _ _ rfl rfl ob.sl hpart hT ?_)
      clear hown hpart hNv ob kb
      intro ra rn rc racc w2 hown hN2 hpart
      clear hN1
      replace hpart : Part tot racc ((x.xs.drop 0).flatMap (fun n => unsB (zig n)) ++ ((pparts.drop (k + 1)).flatMap partB ++ (unsB plines.length ++ (plines.flatMap lineB ++ (unsB pops.length ++ (pops.flatMap opB ++ tz)))))) := hpart
      go_wp2_with fail
      clear b4k q0k b4l q1l
      obtain ⟨wo, rfl⟩ : ∃ wo : World, wo = wr := ⟨_, rfl⟩
      go_loopw [5, 7] (fun v i wr => ∃ (j : Nat) (ra : Option Addr) (rn rc : Nat) (racc : List Int), j ≤ x.xs.length ∧ i = .int .i64 j ∧ v = .slice ra rn rc ∧ OwnN wr W.heap.size ra rn rc racc ∧ Part tot racc ((x.xs.drop j).flatMap (fun n => unsB (zig n)) ++ ((pparts.drop (k + 1)).flatMap partB ++ (unsB plines.length ++ (plines.flatMap lineB ++ (unsB pops.length ++ (pops.flatMap opB ++ tz)))))) ∧ New W wr) (fun _ i _ => x.xs.length - (intOf i).toNat)
      case atStart => exact ⟨0, ra, rn, rc, racc, by omega, rfl, rfl, hown, hpart, hN2⟩
      case round =>
        clear hown hpart hN2
        obtain ⟨j, ra, rn, rc, racc, hj, rfl, rfl, hown, hpart, hN0⟩ := hrel
        have bk := hN0.cell b4
        have qk := hN0.cell q1
        by_cases hj1 : j < x.xs.length
        · rw [ints_drop hj1] at hpart
          obtain ⟨b2, off2, hxa, q2⟩ := Is_at (hxx.new hN0) hj1
          have hxr := HXB.out _ (List.getElem_mem hj1)
          generalize x.xs[j] = y at hpart q2 hxr
          obtain ⟨yl, yh⟩ := hxr
          have HXA := Lib.hid hxa
          rw [hxa] at qk
          clear hxa
          go_wp2_with fail
          refine (integer_any y ⟨yl, yh⟩ _).mono ?_
          rintro e v ⟨ad, cc, rfl, ob, kb⟩
          replace hown := New.owns kb hown
          have hNv := hN0.trans kb
          go_wp2_with (at_builtin; refine wpList_appB rfl _ _ rfl rfl hNv _ _ _ _ rfl hown _ _ _ _ rfl rfl ob.sl hpart hT ?_)
          clear hown hpart hNv ob kb bk qk q2
          intro ra rn rc racc w1 hown hN1 hpart
          go_wp2
          go_roundw
          case rel => exact ⟨j + 1, ra, rn, rc, racc, by omega, by go_num, rfl, hown, hpart, hN1⟩
          case measure => simp [intOf]; omega
        · replace hpart : Part tot racc (((pparts.drop (k + 1)).flatMap partB ++ (unsB plines.length ++ (plines.flatMap lineB ++ (unsB pops.length ++ (pops.flatMap opB ++ tz)))))) := by
            rw [List.drop_of_length_le (by omega)] at hpart; exact hpart
          have hj9 : x.xs.length ≤ j := by omega
          clear hj hj1
          go_wp2
          go_roundw
          case rel => exact ⟨k + 1, ra, rn, rc, racc, by omega, by go_num, rfl, hown, hpart, hN0⟩
          case measure => simp [intOf]; omega
    · replace hpart : Part tot racc ((unsB plines.length ++ (plines.flatMap lineB ++ (unsB pops.length ++ (pops.flatMap opB ++ tz))))) := by
        rw [List.drop_of_length_le (by omega)] at hpart; exact hpart
      have hk9 : pparts.length ≤ k := by omega
      have b4k := hN0.cell b4
      clear hk hk1
      have b5k := hN0.cell b5
      go_wp2_with fail
      refine (countedN_any plines.length (by omega) _).mono ?_
      rintro e v ⟨ad, cc, rfl, ob, kb⟩
      replace hown := New.owns kb hown
      have hNv := hN0.trans kb
      go_wp2_with (at_builtin; refine wpList_appB rfl _ _ rfl rfl hNv _ _ _ _ rfl hown _ _ _ _ rfl rfl ob.sl hpart hT ?_)
      clear hown hpart hNv ob kb
      intro ra rn rc racc w1 hown hN1 hpart
      clear hN0
      replace hpart : Part tot racc ((plines.drop 0).flatMap lineB ++ (unsB pops.length ++ (pops.flatMap opB ++ tz))) := hpart
      clear b5k b4k
      go_wp2_with fail
      clear hk9
      obtain ⟨wo, rfl⟩ : ∃ wo : World, wo = wr := ⟨_, rfl⟩
      go_loopw [5, 8, 9] (fun v i _ wr => ∃ (k : Nat) (ra : Option Addr) (rn rc : Nat) (racc : List Int), k ≤ plines.length ∧ i = .int .i64 k ∧ v = .slice ra rn rc ∧ OwnN wr W.heap.size ra rn rc racc ∧ Part tot racc ((plines.drop k).flatMap lineB ++ (unsB pops.length ++ (pops.flatMap opB ++ tz))) ∧ New W wr) (fun _ i _ _ => plines.length - (intOf i).toNat)
      case atStart => exact ⟨0, ra, rn, rc, racc, by omega, rfl, rfl, hown, hpart, hN1⟩
      case round =>
        clear hown hpart hN1
        obtain ⟨k, ra, rn, rc, racc, hk, rfl, rfl, hown, hpart, hN0⟩ := hrel
        by_cases hk1 : k < plines.length
        · rw [line_drop hk1] at hpart
          obtain ⟨z0, z1, z2, z3, hxn, hxb⟩ := HL.out _ (List.getElem_mem hk1)
          have HXB := Lib.hid hxb
          clear hxb
          have hxx := HLX.out _ (List.getElem_mem hk1)
          obtain ⟨b, off, rfl, q0, q1, q2⟩ := lines_at hpl hk1
          clear hpl
          generalize plines[k] = x at hpart hxn HXB hxx q0 q1 q2 z0 z1 z2 z3
          have b5k := hN0.cell b5
          have q0k := hN0.cell q0
          go_wp2_with fail
          refine (counted_any x.base (by omega) (by omega) _).mono ?_
          rintro e v ⟨ad, cc, rfl, ob, kb⟩
          replace hown := New.owns kb hown
          have hNv := hN0.trans kb
          go_wp2_with (at_builtin; refine wpList_appB rfl _ _ rfl rfl hNv _ _ _ _ rfl hown _ _ _ _ rfl rfl ob.sl hpart hT ?_)
          clear hown hpart hNv ob kb
          intro ra rn rc racc w1 hown hN1 hpart
          clear hN0
          have b5l := hN1.cell b5
          have q1l := hN1.cell q1
          go_wp2_with fail
          refine (counted_any x.size (by omega) (by omega) _).mono ?_
          rintro e v ⟨ad, cc, rfl, ob, kb⟩
          replace hown := New.owns kb hown
          have hNv := hN1.trans kb
          go_wp2_with (at_builtin; refine wpList_appB rfl _ _ rfl rfl hNv _ _ _ _ rfl hown _ _ _ _ rfl rfl ob.sl hpart hT ?_)
          clear hown hpart hNv ob kb
          intro ra rn rc racc w2 hown hN2 hpart
          clear hN1
          have b5m := hN2.cell b5
          have q2m := hN2.cell q2
          go_wp2_with fail
          refine (countedN_any x.xs.length (by omega) _).mono ?_
          rintro e v ⟨ad, cc, rfl, ob, kb⟩
          replace hown := New.owns kb hown
          have hNv := hN2.trans kb
          go_wp2_with (at_builtin; refine wpList_appB rfl _ _ rfl rfl hNv _ _ _ _ rfl hown _ _ _ _ rfl rfl ob.sl hpart hT ?_)
          clear hown hpart hNv ob kb
          intro ra rn rc racc w3 hown hN3 hpart
          clear hN2
          replace hpart : Part tot racc ((x.xs.drop 0).flatMap (fun n => unsB (zig n)) ++ ((plines.drop (k + 1)).flatMap lineB ++ (unsB pops.length ++ (pops.flatMap opB ++ tz)))) := hpart
          go_wp2_with fail
          clear b5k q0k b5l q1l b5m q2m
          obtain ⟨wo, rfl⟩ : ∃ wo : World, wo = wr := ⟨_, rfl⟩
          go_loopw [5, 9] (fun v i wr => ∃ (j : Nat) (ra : Option Addr) (rn rc : Nat) (racc : List Int), j ≤ x.xs.length ∧ i = .int .i64 j ∧ v = .slice ra rn rc ∧ OwnN wr W.heap.size ra rn rc racc ∧ Part tot racc ((x.xs.drop j).flatMap (fun n => unsB (zig n)) ++ ((plines.drop (k + 1)).flatMap lineB ++ (unsB pops.length ++ (pops.flatMap opB ++ tz)))) ∧ New W wr) (fun _ i _ => x.xs.length - (intOf i).toNat)
          case atStart => exact ⟨0, ra, rn, rc, racc, by omega, rfl, rfl, hown, hpart, hN3⟩
          case round =>
            clear hown hpart hN3
            obtain ⟨j, ra, rn, rc, racc, hj, rfl, rfl, hown, hpart, hN0⟩ := hrel
            have bk := hN0.cell b5
            have qk := hN0.cell q2
            by_cases hj1 : j < x.xs.length
            · rw [ints_drop hj1] at hpart
              obtain ⟨b2, off2, hxa, q2⟩ := Is_at (hxx.new hN0) hj1
              have hxr := HXB.out _ (List.getElem_mem hj1)
              generalize x.xs[j] = y at hpart q2 hxr
              obtain ⟨yl, yh⟩ := hxr
              have HXA := Lib.hid hxa
              rw [hxa] at qk
              clear hxa
              go_wp2_with fail
              refine (integer_any y ⟨yl, yh⟩ _).mono ?_
              rintro e v ⟨ad, cc, rfl, ob, kb⟩
              replace hown := New.owns kb hown
              have hNv := hN0.trans kb
              go_wp2_with (at_builtin; refine wpList_appB rfl _ _ rfl rfl hNv _ _ _ _ rfl hown _ _ _ _ rfl rfl ob.sl hpart hT ?_)
              clear hown hpart hNv ob kb bk qk q2
              intro ra rn rc racc w1 hown hN1 hpart
              go_wp2
              go_roundw
              case rel => exact ⟨j + 1, ra, rn, rc, racc, by omega, by go_num, rfl, hown, hpart, hN1⟩
              case measure => simp [intOf]; omega
            · replace hpart : Part tot racc (((plines.drop (k + 1)).flatMap lineB ++ (unsB pops.length ++ (pops.flatMap opB ++ tz)))) := by
                rw [List.drop_of_length_le (by omega)] at hpart; exact hpart
              have hj9 : x.xs.length ≤ j := by omega
              clear hj hj1
              go_wp2
              go_roundw
              case rel => exact ⟨k + 1, ra, rn, rc, racc, by omega, by go_num, rfl, hown, hpart, hN0⟩
              case measure => simp [intOf]; omega
        · replace hpart : Part tot racc ((unsB pops.length ++ (pops.flatMap opB ++ tz))) := by
            rw [List.drop_of_length_le (by omega)] at hpart; exact hpart
          have hk9 : plines.length ≤ k := by omega
          have b5k := hN0.cell b5
          clear hk hk1
          have b6k := hN0.cell b6
          go_wp2_with fail
          refine (countedN_any pops.length (by omega) _).mono ?_
          rintro e v ⟨ad, cc, rfl, ob, kb⟩
          replace hown := New.owns kb hown
          have hNv := hN0.trans kb
          go_wp2_with (at_builtin; refine wpList_appB rfl _ _ rfl rfl hNv _ _ _ _ rfl hown _ _ _ _ rfl rfl ob.sl hpart hT ?_)
          clear hown hpart hNv ob kb
          intro ra rn rc racc w1 hown hN1 hpart
          clear hN0
          replace hpart : Part tot racc ((pops.drop 0).flatMap opB ++ tz) := hpart
          clear b5k b6k
          go_wp2_with fail
          clear hk9
          obtain ⟨wo2, rfl⟩ : ∃ wo2 : World, wo2 = wr := ⟨_, rfl⟩
          go_loopw [5, 10] (fun v i wr => ∃ (k : Nat) (ra : Option Addr) (rn rc : Nat) (racc : List Int), k ≤ pops.length ∧ i = .int .i64 k ∧ v = .slice ra rn rc ∧ OwnN wr W.heap.size ra rn rc racc ∧ Part tot racc ((pops.drop k).flatMap opB ++ tz) ∧ New W wr) (fun _ i _ => pops.length - (intOf i).toNat)
          case atStart => exact ⟨0, ra, rn, rc, racc, by omega, rfl, rfl, hown, hpart, hN1⟩
          case round =>
            clear hown hpart hN1
            obtain ⟨k, ra, rn, rc, racc, hk, rfl, rfl, hown, hpart, hN0⟩ := hrel
            by_cases hk1 : k < pops.length
            · rw [op_drop hk1] at hpart
              obtain ⟨z0, z1, z2, z3⟩ := HO.out _ (List.getElem_mem hk1)
              obtain ⟨b, off, rfl, q0, q1, q2⟩ := ops_at hpo hk1
              clear hpo
              generalize pops[k] = x at hpart q0 q1 q2 z0 z1 z2 z3
              have b6k := hN0.cell b6
              have q0k := hN0.cell q0
              have hNv := New.alloc hN0 (.cells #[.int .u8 x.kind] 5)
              go_wp2_with (at_builtin; refine wpList_appB rfl _ _ rfl rfl hNv _ _ _ _ rfl (New.owns (Keeps.alloc _ _) hown) _ 1 1 [x.kind] rfl rfl (SlAt.lit _ _ _) hpart hT ?_)
              clear hown hpart hNv
              intro ra rn rc racc w1 hown hN1 hpart
              clear hN0
              have b6l := hN1.cell b6
              have q1l := hN1.cell q1
              go_wp2_with fail
              refine (counted_any x.a (by omega) (by omega) _).mono ?_
              rintro e v ⟨ad, cc, rfl, ob, kb⟩
              replace hown := New.owns kb hown
              have hNv := hN1.trans kb
              go_wp2_with (at_builtin; refine wpList_appB rfl _ _ rfl rfl hNv _ _ _ _ rfl hown _ _ _ _ rfl rfl ob.sl hpart hT ?_)
              clear hown hpart hNv ob kb
              intro ra rn rc racc w2 hown hN2 hpart
              clear hN1
              have b6m := hN2.cell b6
              have q2m := hN2.cell q2
              go_wp2_with fail
              refine (counted_any x.b (by omega) (by omega) _).mono ?_
              rintro e v ⟨ad, cc, rfl, ob, kb⟩
              replace hown := New.owns kb hown
              have hNv := hN2.trans kb
              go_wp2_with (at_builtin; refine wpList_appB rfl _ _ rfl rfl hNv _ _ _ _ rfl hown _ _ _ _ rfl rfl ob.sl hpart hT ?_)
              clear hown hpart hNv ob kb
              intro ra rn rc racc w3 hown hN3 hpart
              clear hN2
              go_wp2
              go_roundw
              case rel => exact ⟨k + 1, ra, rn, rc, racc, by omega, by go_num, rfl, hown, hpart, hN3⟩
              case measure => simp [intOf]; omega
            · have hcv := run_string hown
              have htot : racc = tot := by
                rw [List.drop_of_length_le (by omega)] at hpart
                have := hpart.eq; rw [HZ.out] at this; simpa using this
              rw [htot] at hcv
              have HT := Lib.hid htot
              clear htot hpart hown
              have b6k := hN0.cell b6
              go_wp2
              go_ret2
              exact ⟨rfl, hN.trans hN0⟩
set_option maxRecDepth 100000 in
set_option maxHeartbeats 2000000 in
theorem rencode_bad (w : World) (p : Pg) (hp : PgAt w p) (hl : Lens p) (h0 : (stepsR p).2 ≠ 0) :
    Calls Try.prog 19 #[p.v] w fun e w' => e = .returned (.tuple #[.string ⟨#[]⟩, I (stepsR p).2]) ∧ New w w' := by
  have ka : New w (w.alloc (.cells p.cs 26)) := Keeps.alloc _ _
  have hc := rcheck_any (w.alloc (.cells p.cs 26)) p (hp.new ka) hl
  generalize (stepsR p).2 = r at hc h0 ⊢
  have e0 : (r != 0) = true := by simpa using h0
  clear hp hl h0
  simp only [Pg.v, Pg.cs] at hc ka ⊢
  go_enter Try.func19, Try.ntmps19
  go_wp2_with fail
  refine hc.mono ?_
  rintro e w2 ⟨rfl, n2⟩
  go_wp2
  go_ret2
  exact ⟨rfl, ka.trans n2⟩
end Go.Proofs.Ytfmpjbiaamkobaa
