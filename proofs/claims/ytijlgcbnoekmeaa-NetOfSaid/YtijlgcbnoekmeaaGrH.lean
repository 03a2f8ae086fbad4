/-
  Layer 8: the document's open, Find, Check.
-/
import Derived.Test.YtijlgcbnoekmeaaGrG
namespace Go.Proofs.Ytijlgcbnoekmeaa
open Go Go.RowKit Go.Joins
set_option linter.all false

/-- One walk over a list: the first that something is wrong with, or what comes behind. -/
def stage {α : Type} (E : Nat → α → Int × Int) (l : List α) (mk : Nat → Int × Int → Int × Int × Int × Int) (rest : Int × Int × Int × Int) : Int × Int × Int × Int :=
  match firstE E 0 l with
  | some (i, ed) => mk i ed
  | none => rest
theorem stage_hit {α : Type} {E : Nat → α → Int × Int} {l : List α} {mk rest} {k : Nat} (hk : k < l.length) (hb : ∀ j (hj : j < l.length), j < k → (E j l[j]).1 = 0) (hh : (E k l[k]).1 ≠ 0) : stage E l mk rest = mk k (E k l[k]) := by
  unfold stage
  have h := firstE_hit (E := E) l 0 k hk (fun j hj hjk => by simpa using hb j hj hjk) (by simpa using hh)
  simp only [Nat.zero_add] at h
  rw [h]
theorem stage_end {α : Type} {E : Nat → α → Int × Int} {l : List α} {mk rest} (hb : ∀ j (hj : j < l.length), j < l.length → (E j l[j]).1 = 0) : stage E l mk rest = rest := by
  unfold stage
  rw [firstE_none l 0 (fun j hj => by simpa using hb j hj hj)]
theorem findG_eq (g : Gr) : findG g =
    if nameB g.name = false then (82, 0, 0, 0)
    else if g.acts.length = 0 then (80, 0, 0, 0)
    else if (manyG g).1 ≠ 0 then manyG g
    else stage (actE g) g.acts (fun i ed => (ed.1, 1, i, 0)) (stage (edgeE g) g.edges (fun i ed => (ed.1, 2, i, ed.2)) (stage (inE g) g.ins (fun i ed => (ed.1, 3, i, ed.2)) (stage (outE g) g.outs (fun i ed => (ed.1, 4, i, ed.2))
      (stage (fun i x => (if openE g i x then 87 else 0, 0)) g.acts (fun i ed => (ed.1, 1, i, 0)) (0, 0, 0, 0))))) := by
  unfold findG manyG
  by_cases h0 : nameB g.name = false
  · simp [h0]
  by_cases h1 : g.acts.length = 0
  · simp [h0, h1]
  rw [if_neg h0, if_neg h1, if_neg h0, if_neg h1]
  by_cases h2 : 32 < g.acts.length
  · simp [h2]
  by_cases h3 : 96 < g.edges.length
  · simp [h2, h3]
  by_cases h4 : 16 < g.ins.length
  · simp [h2, h3, h4]
  by_cases h5 : 16 < g.outs.length
  · simp [h2, h3, h4, h5]
  simp only [h2, h3, h4, h5, if_false, ne_eq, not_true_eq_false]
  unfold stage
  cases firstE (actE g) 0 g.acts with
  | some r => rfl
  | none =>
    cases firstE (edgeE g) 0 g.edges with
    | some r => rfl
    | none =>
      cases firstE (inE g) 0 g.ins with
      | some r => rfl
      | none =>
        cases firstE (outE g) 0 g.outs with
        | some r => rfl
        | none => cases firstE (fun i x => (if openE g i x then 87 else 0, 0)) 0 g.acts with
          | some r => rfl
          | none => rfl
theorem range_all {p : Nat → Bool} {n : Nat} (h : ∀ j, j < n → p j = true) : (List.range n).any (fun k => !p k) = false := by
  rw [List.any_eq_false]
  intro j hj
  simp [h j (List.mem_range.1 hj)]
theorem range_any {p : Nat → Bool} {n k : Nat} (hk : k < n) (h : p k = false) : (List.range n).any (fun k => !p k) = true :=
  List.any_eq_true.2 ⟨k, List.mem_range.2 hk, by simp [h]⟩

theorem shape_few (tag : Int) (ps : List Int) : (shapeS tag ps).2.1.length ≤ 16 ∧ (shapeS tag ps).2.2.length ≤ 16 := by
  unfold shapeS
  split
  · rename_i ht
    split
    · rename_i hg
      rcases tag_cases ht.1 ht.2 with rfl | rfl | rfl | rfl | rfl | rfl | rfl | rfl | rfl | rfl | rfl
      · simp [rates]
      · simp [rates]
      · simp [rates]
      · obtain ⟨n, m, rfl, h1, h2, h3, h4, h5⟩ := twoS_true (ps := ps) (by simpa [goodS] using hg)
        simp [rates]; omega
      · obtain ⟨n, m, rfl, h1, h2, h3, h4, h5⟩ := twoS_true (ps := ps) (by simpa [goodS] using hg)
        simp [rates]; omega
      · obtain ⟨n, rfl, h1, h2⟩ := oneS_true (ps := ps) (k := 16) (by simpa [goodS] using hg)
        simp [rates]; omega
      · simp [rates]
      · simp [rates]
      · obtain ⟨n, rfl, h1, h2⟩ := oneS_true (ps := ps) (k := 16) (by simpa [goodS] using hg)
        simp [rates]; omega
      · simp [rates]
      · simp [rates]
    · simp
  · simp

theorem wr_cells {w : World} {B : Nat} {a b c d : Value} (h : w.heap[B]? = some (.cells #[a, b, c, d] 90 (0, 0))) :
    (w.cell? ⟨B, 0, none⟩ = some a ∧ w.cell? ⟨B, 1, none⟩ = some b ∧ w.cell? ⟨B, 2, none⟩ = some c ∧ w.cell? ⟨B, 3, none⟩ = some d) ∧
    (w.frozen? ⟨B, 0, none⟩ = false ∧ w.frozen? ⟨B, 1, none⟩ = false ∧ w.frozen? ⟨B, 2, none⟩ = false ∧ w.frozen? ⟨B, 3, none⟩ = false) ∧ B < w.heap.size := by
  refine ⟨⟨?_, ?_, ?_, ?_⟩, ⟨unfrozen_of_block h 0, unfrozen_of_block h 1, unfrozen_of_block h 2, unfrozen_of_block h 3⟩, (Array.getElem?_eq_some_iff.1 h).1⟩
  all_goals rw [cell_of_block h]; rfl

set_option maxRecDepth 100000 in
set_option maxHeartbeats 4000000 in
theorem ropen_any (w : World) (g : Gr) (i : Nat) (hg : GrAt w g) (hl : GLen g) (hi : i < g.acts.length) :
    Calls Try.prog 58 #[g.v, I i] w fun en w' => en = .returned (.bool (openE g i g.acts[i])) ∧ New w w' := by
  have hla := hl.a
  have hle := hl.e
  have hli := hl.i
  have hlo := hl.o
  have HR : ∀ W (k : New w W), Calls Try.prog 72 #[g.v, I i] W fun en w' => en = .returned (.tuple #[I (nIn g.acts[i]), I (nOut g.acts[i])]) ∧ New W w' := fun W k => rrates_any W g i (hg.new k) hl hi
  have HTI : ∀ W (k : New w W) (p : Nat), Calls Try.prog 71 #[g.v, I g.edges.length, I g.ins.length, I i, I p] W fun en w' => en = .returned (.bool (inTk g g.edges.length g.ins.length i p)) ∧ New W w' := fun W k p => rinTk_any W g _ _ i p (hg.new k) hl (by omega) (by omega)
  have HTO : ∀ W (k : New w W) (p : Nat), Calls Try.prog 70 #[g.v, I g.edges.length, I g.outs.length, I i, I p] W fun en w' => en = .returned (.bool (outTk g g.edges.length g.outs.length i p)) ∧ New W w' := fun W k p => routTk_any W g _ _ i p (hg.new k) hl (by omega) (by omega)
  unfold openE
  have hlI : nIn g.acts[i] ≤ 9223372036854775807 := by have := (shape_few g.acts[i].tag g.acts[i].xs).1; unfold nIn; omega
  have hlO : nOut g.acts[i] ≤ 9223372036854775807 := by have := (shape_few g.acts[i].tag g.acts[i].xs).2; unfold nOut; omega
  generalize nIn g.acts[i] = ni at HR hlI ⊢
  generalize nOut g.acts[i] = no at HR hlO ⊢
  obtain ⟨T1, hT1⟩ : ∃ T1 : Nat → Bool, (fun (p : Nat) => inTk g g.edges.length g.ins.length i (p : Int)) = T1 := ⟨_, rfl⟩
  obtain ⟨T2, hT2⟩ : ∃ T2 : Nat → Bool, (fun (p : Nat) => outTk g g.edges.length g.outs.length i (p : Int)) = T2 := ⟨_, rfl⟩
  have e1 : ∀ p : Nat, inTk g g.edges.length g.ins.length i (p : Int) = T1 p := fun p => congrFun hT1 p
  have e2 : ∀ p : Nat, outTk g g.edges.length g.outs.length i (p : Int) = T2 p := fun p => congrFun hT2 p
  simp only [e1, e2] at HTI HTO ⊢
  clear e1 e2 hT1 hT2 hl
  obtain ⟨A, hA⟩ : ∃ A, ((List.range ni).any (fun k => !T1 k) || (List.range no).any (fun k => !T2 k)) = A := ⟨_, rfl⟩
  rw [hA]
  have HA := Lib.hid hA
  clear hA hg
  obtain ⟨gname, gaa, gac, gacts, gea, gec, gedges, gia, gic, gins, goa, goc, gouts⟩ := g
  simp only [Gr.v, Gr.cs] at HR HTI HTO hi hla hle hli hlo ⊢
  go_enter Try.func58, Try.ntmps58
  go_wp2_with fail
  have hN0 : New w (w.alloc (.cells #[.string gname, .slice gaa gacts.length gac, .slice gea gedges.length gec, .slice gia gins.length gic, .slice goa gouts.length goc] 63)) := (New.refl w).alloc _
  have hbx : (w.alloc (.cells #[.string gname, .slice gaa gacts.length gac, .slice gea gedges.length gec, .slice gia gins.length gic, .slice goa gouts.length goc] 63)).heap[w.heap.size]? = some (.cells #[.string gname, .slice gaa gacts.length gac, .slice gea gedges.length gec, .slice gia gins.length gic, .slice goa gouts.length goc] 63 (0, 0)) := heap_alloc_new w _
  have hs0 : (w.alloc (.cells #[.string gname, .slice gaa gacts.length gac, .slice gea gedges.length gec, .slice gia gins.length gic, .slice goa gouts.length goc] 63)).heap.size = w.heap.size + 1 := size_alloc _ _
  generalize (w.alloc (.cells #[.string gname, .slice gaa gacts.length gac, .slice gea gedges.length gec, .slice gia gins.length gic, .slice goa gouts.length goc] 63)) = w0 at hN0 hbx hs0 ⊢
  have x0 : w0.cell? ⟨w.heap.size, 0, none⟩ = some (.string gname) := by rw [cell_of_block hbx 0]; simp
  have x1 : w0.cell? ⟨w.heap.size, 1, none⟩ = some (.slice gaa gacts.length gac) := by rw [cell_of_block hbx 1]; simp
  have x2 : w0.cell? ⟨w.heap.size, 2, none⟩ = some (.slice gea gedges.length gec) := by rw [cell_of_block hbx 2]; simp
  have x3 : w0.cell? ⟨w.heap.size, 3, none⟩ = some (.slice gia gins.length gic) := by rw [cell_of_block hbx 3]; simp
  have x4 : w0.cell? ⟨w.heap.size, 4, none⟩ = some (.slice goa gouts.length goc) := by rw [cell_of_block hbx 4]; simp
  clear hbx
  refine (HR w0 hN0).mono ?_
  rintro e w1 ⟨rfl, k2⟩
  replace x0 := k2.cell x0
  replace x1 := k2.cell x1
  replace x2 := k2.cell x2
  replace x3 := k2.cell x3
  replace x4 := k2.cell x4
  replace hN0 := hN0.trans k2
  clear k2 hs0 HR
  go_wp2_with fail
  go_loopw [7] (fun i wr => ∃ k : Nat, k ≤ ni ∧ i = .int .i64 k ∧ Hid (∀ j, j < k → T1 j = true) ∧ New w1 wr) (fun i _ => ni - (intOf i).toNat)
  case atStart => exact ⟨0, by omega, rfl, Lib.hid (fun j hj => by omega), New.refl _⟩
  case round =>
    obtain ⟨k, hk, rfl, HZ, hN⟩ := hrel
    have x0r := hN.cell x0
    have x1r := hN.cell x1
    have x2r := hN.cell x2
    have x3r := hN.cell x3
    have x4r := hN.cell x4
    by_cases hk1 : k < ni
    · have hk3 : (k : Int) < (ni : Int) := by omega
      have hk5 : decide (k < ni) = true := decide_eq_true hk1
      have hc := HTI wr (hN0.trans hN) k
      cases ht : T1 k with
      | true =>
        rw [ht] at hc
        have HF : Hid (∀ j, j < k + 1 → T1 j = true) := Lib.hid (fun j hj => by
          by_cases hjk : j = k
          · rw [hjk]; exact ht
          · exact HZ.out j (by omega))
        clear ht HZ
        go_wp2_with fail
        refine hc.mono ?_
        rintro e w3 ⟨rfl, k3⟩
        go_wp2_with fail
        go_roundw
        case rel => exact ⟨k + 1, by omega, by go_num, HF, hN.trans k3⟩
        case measure => simp [intOf]; omega
      | false =>
        rw [ht] at hc
        have HT : Hid (A = true) := Lib.hid (by rw [← HA.out]; simp only [Bool.or_eq_true]; exact Or.inl (range_any hk1 ht))
        clear ht HZ
        go_wp2_with fail
        refine hc.mono ?_
        rintro e w3 ⟨rfl, k3⟩
        go_wp2_with fail
        go_ret
        exact ⟨by rw [HT.out]; rfl, (hN0.trans hN).trans k3⟩
    · have hke : k = ni := by omega
      have hd9 : decide (k < ni) = false := decide_eq_false hk1
      rw [hke] at HZ
      have HZ1 := HZ
      clear HZ hke hk hk1
      replace x0 := x0r
      replace x1 := x1r
      replace x2 := x2r
      replace x3 := x3r
      replace x4 := x4r
      replace hN0 := hN0.trans hN
      clear hN x0r x1r x2r x3r x4r
      go_wp2_with fail
      obtain ⟨wo, rfl⟩ : ∃ wo, wo = wr := ⟨_, rfl⟩
      go_loopw [8] (fun i wr => ∃ k : Nat, k ≤ no ∧ i = .int .i64 k ∧ Hid (∀ j, j < k → T2 j = true) ∧ New wo wr) (fun i _ => no - (intOf i).toNat)
      case atStart => exact ⟨0, by omega, rfl, Lib.hid (fun j hj => by omega), New.refl _⟩
      case round =>
        obtain ⟨k, hk, rfl, HZ, hN⟩ := hrel
        have x0r := hN.cell x0
        have x1r := hN.cell x1
        have x2r := hN.cell x2
        have x3r := hN.cell x3
        have x4r := hN.cell x4
        by_cases hk1 : k < no
        · have hk3 : (k : Int) < (no : Int) := by omega
          have hk5 : decide (k < no) = true := decide_eq_true hk1
          have hc := HTO wr (hN0.trans hN) k
          cases ht : T2 k with
          | true =>
            rw [ht] at hc
            have HF : Hid (∀ j, j < k + 1 → T2 j = true) := Lib.hid (fun j hj => by
              by_cases hjk : j = k
              · rw [hjk]; exact ht
              · exact HZ.out j (by omega))
            clear ht HZ
            go_wp2_with fail
            refine hc.mono ?_
            rintro e w3 ⟨rfl, k3⟩
            go_wp2_with fail
            go_roundw
            case rel => exact ⟨k + 1, by omega, by go_num, HF, hN.trans k3⟩
            case measure => simp [intOf]; omega
          | false =>
            rw [ht] at hc
            have HT : Hid (A = true) := Lib.hid (by rw [← HA.out]; simp only [Bool.or_eq_true]; exact Or.inr (range_any hk1 ht))
            clear ht HZ
            go_wp2_with fail
            refine hc.mono ?_
            rintro e w3 ⟨rfl, k3⟩
            go_wp2_with fail
            go_ret
            exact ⟨by rw [HT.out]; rfl, (hN0.trans hN).trans k3⟩
        · have hke : k = no := by omega
          have hd9 : decide (k < no) = false := decide_eq_false hk1
          rw [hke] at HZ
          clear hke hk hk1
          go_wp2_with fail
          go_ret
          exact ⟨by rw [← HA.out, range_all HZ1.out, range_all HZ.out]; rfl, hN0.trans hN⟩
set_option maxRecDepth 100000 in
set_option maxHeartbeats 8000000 in
theorem rfind_any (w : World) (g : Gr) (hg : GrAt w g) (hl : GLen g) :
    Calls Try.prog 45 #[g.v] w fun en w' => en = .returned (fndV (findG g)) ∧ New w w' := by
  have hla := hl.a
  have hle := hl.e
  have hli := hl.i
  have hlo := hl.o
  have HM : ∀ W, Calls Try.prog 52 #[.string g.name] W fun e w' => e = .returned (.bool (nameB g.name)) ∧ New W w' := fun W => rname_any W _ hl.n
  have HY : ∀ W, Calls Try.prog 53 #[g.v] W fun e w' => e = .returned (fndV (manyG g)) ∧ New W w' := fun W => rmany_any W g hl
  have HA : ∀ W (k : Nat) (kk : New w W) (hk : k < g.acts.length), Calls Try.prog 54 #[g.v, I k] W fun e w' => e = .returned (I (actE g k g.acts[k]).1) ∧ New W w' := fun W k kk hk => ractor_any W g k (hg.new kk) hl hk
  have HE : ∀ W (k : Nat) (kk : New w W) (hk : k < g.edges.length), Calls Try.prog 55 #[g.v, I k] W fun e w' => e = .returned (.tuple #[I (edgeE g k g.edges[k]).1, I (edgeE g k g.edges[k]).2]) ∧ New W w' := fun W k kk hk => redge_any W g k (hg.new kk) hl hk
  have HI : ∀ W (k : Nat) (kk : New w W) (hk : k < g.ins.length), Calls Try.prog 56 #[g.v, I k] W fun e w' => e = .returned (.tuple #[I (inE g k g.ins[k]).1, I (inE g k g.ins[k]).2]) ∧ New W w' := fun W k kk hk => rin_any W g k (hg.new kk) hl hk
  have HO : ∀ W (k : Nat) (kk : New w W) (hk : k < g.outs.length), Calls Try.prog 57 #[g.v, I k] W fun e w' => e = .returned (.tuple #[I (outE g k g.outs[k]).1, I (outE g k g.outs[k]).2]) ∧ New W w' := fun W k kk hk => rout_any W g k (hg.new kk) hl hk
  have HP : ∀ W (k : Nat) (kk : New w W) (hk : k < g.acts.length), Calls Try.prog 58 #[g.v, I k] W fun e w' => e = .returned (.bool (openE g k g.acts[k])) ∧ New W w' := fun W k kk hk => ropen_any W g k (hg.new kk) hl hk
  rw [findG_eq]
  generalize nameB g.name = nb at HM ⊢
  generalize manyG g = mg at HY ⊢
  generalize actE g = EA at HA ⊢
  generalize edgeE g = EE at HE ⊢
  generalize inE g = EI at HI ⊢
  generalize outE g = EO at HO ⊢
  generalize openE g = EP at HP ⊢
  clear hg hl
  obtain ⟨gname, gaa, gac, gacts, gea, gec, gedges, gia, gic, gins, goa, goc, gouts⟩ := g
  simp only [Gr.v, Gr.cs] at hla hle hli hlo HM HY HA HE HI HO HP ⊢
  obtain ⟨m0, m1, m2, m3⟩ := mg
  simp only [fndV] at HY
  cases nb with
  | false =>
    rw [if_pos rfl]
    go_enter Try.func45, Try.ntmps45
    go_wp2_with fail
    have hN0 : New w (w.alloc (.cells #[.string gname, .slice gaa gacts.length gac, .slice gea gedges.length gec, .slice gia gins.length gic, .slice goa gouts.length goc] 63)) := (New.refl w).alloc _
    have hbx : (w.alloc (.cells #[.string gname, .slice gaa gacts.length gac, .slice gea gedges.length gec, .slice gia gins.length gic, .slice goa gouts.length goc] 63)).heap[w.heap.size]? = some (.cells #[.string gname, .slice gaa gacts.length gac, .slice gea gedges.length gec, .slice gia gins.length gic, .slice goa gouts.length goc] 63 (0, 0)) := heap_alloc_new w _
    have hs0 : (w.alloc (.cells #[.string gname, .slice gaa gacts.length gac, .slice gea gedges.length gec, .slice gia gins.length gic, .slice goa gouts.length goc] 63)).heap.size = w.heap.size + 1 := size_alloc _ _
    generalize (w.alloc (.cells #[.string gname, .slice gaa gacts.length gac, .slice gea gedges.length gec, .slice gia gins.length gic, .slice goa gouts.length goc] 63)) = w0 at hN0 hbx hs0 ⊢
    have x0 : w0.cell? ⟨w.heap.size, 0, none⟩ = some (.string gname) := by rw [cell_of_block hbx 0]; simp
    have x1 : w0.cell? ⟨w.heap.size, 1, none⟩ = some (.slice gaa gacts.length gac) := by rw [cell_of_block hbx 1]; simp
    have x2 : w0.cell? ⟨w.heap.size, 2, none⟩ = some (.slice gea gedges.length gec) := by rw [cell_of_block hbx 2]; simp
    have x3 : w0.cell? ⟨w.heap.size, 3, none⟩ = some (.slice gia gins.length gic) := by rw [cell_of_block hbx 3]; simp
    have x4 : w0.cell? ⟨w.heap.size, 4, none⟩ = some (.slice goa gouts.length goc) := by rw [cell_of_block hbx 4]; simp
    clear hbx
    have hN1 : New w0 (w0.alloc (.cells #[I 0, .int .u8 0, I 0, I 0] 90)) := (New.refl w0).alloc _
    have hbx : (w0.alloc (.cells #[I 0, .int .u8 0, I 0, I 0] 90)).heap[w0.heap.size]? = some (.cells #[I 0, .int .u8 0, I 0, I 0] 90 (0, 0)) := heap_alloc_new w0 _
    have hs1 : (w0.alloc (.cells #[I 0, .int .u8 0, I 0, I 0] 90)).heap.size = w.heap.size + 1 + 1 := by rw [size_alloc, hs0]
    generalize (w0.alloc (.cells #[I 0, .int .u8 0, I 0, I 0] 90)) = w1 at hN1 hbx hs1 ⊢
    rw [hs0] at hbx
    have HB := Lib.hid hbx
    replace x0 := hN1.cell x0
    replace x1 := hN1.cell x1
    replace x2 := hN1.cell x2
    replace x3 := hN1.cell x3
    replace x4 := hN1.cell x4
    have k1 := hN0.trans hN1
    clear hN0 hN1 hbx hs0
    refine (HM w1).mono ?_
    rintro e wa ⟨rfl, k2⟩
    replace x0 := k2.cell x0
    replace x1 := k2.cell x1
    replace x2 := k2.cell x2
    replace x3 := k2.cell x3
    replace x4 := k2.cell x4
    replace HB := Lib.hid (Keeps.heap k2 HB.out (fun h => h))
    replace k1 := k1.trans k2
    clear k2
    obtain ⟨⟨r0, r1, r2, r3⟩, ⟨f0, f1, f2, f3⟩, hBB⟩ := wr_cells HB.out
    go_wp2_with fail
    exact bodyPost_ret (v := .agg #[I 82, .int .u8 0, I 0, I 0]) (by simp [results, Try.results45, go_sem, r0, r1, r2, r3, f0, f1, f2, f3, hBB]) rfl ⟨rfl, ((((k1).setCell (by simp) _).setCell (by simp) _).setCell (by simp) _).setCell (by simp) _⟩
  | true =>
    rw [if_neg (by simp)]
    by_cases h0 : gacts.length = 0
    · rw [if_pos h0]
      have d0 : ((gacts.length : Int) == 0) = true := by simp [h0]
      have d0' : decide ((gacts.length : Int) = 0) = true := by simp [h0]
      clear h0
      go_enter Try.func45, Try.ntmps45
      go_wp2_with fail
      have hN0 : New w (w.alloc (.cells #[.string gname, .slice gaa gacts.length gac, .slice gea gedges.length gec, .slice gia gins.length gic, .slice goa gouts.length goc] 63)) := (New.refl w).alloc _
      have hbx : (w.alloc (.cells #[.string gname, .slice gaa gacts.length gac, .slice gea gedges.length gec, .slice gia gins.length gic, .slice goa gouts.length goc] 63)).heap[w.heap.size]? = some (.cells #[.string gname, .slice gaa gacts.length gac, .slice gea gedges.length gec, .slice gia gins.length gic, .slice goa gouts.length goc] 63 (0, 0)) := heap_alloc_new w _
      have hs0 : (w.alloc (.cells #[.string gname, .slice gaa gacts.length gac, .slice gea gedges.length gec, .slice gia gins.length gic, .slice goa gouts.length goc] 63)).heap.size = w.heap.size + 1 := size_alloc _ _
      generalize (w.alloc (.cells #[.string gname, .slice gaa gacts.length gac, .slice gea gedges.length gec, .slice gia gins.length gic, .slice goa gouts.length goc] 63)) = w0 at hN0 hbx hs0 ⊢
      have x0 : w0.cell? ⟨w.heap.size, 0, none⟩ = some (.string gname) := by rw [cell_of_block hbx 0]; simp
      have x1 : w0.cell? ⟨w.heap.size, 1, none⟩ = some (.slice gaa gacts.length gac) := by rw [cell_of_block hbx 1]; simp
      have x2 : w0.cell? ⟨w.heap.size, 2, none⟩ = some (.slice gea gedges.length gec) := by rw [cell_of_block hbx 2]; simp
      have x3 : w0.cell? ⟨w.heap.size, 3, none⟩ = some (.slice gia gins.length gic) := by rw [cell_of_block hbx 3]; simp
      have x4 : w0.cell? ⟨w.heap.size, 4, none⟩ = some (.slice goa gouts.length goc) := by rw [cell_of_block hbx 4]; simp
      clear hbx
      have hN1 : New w0 (w0.alloc (.cells #[I 0, .int .u8 0, I 0, I 0] 90)) := (New.refl w0).alloc _
      have hbx : (w0.alloc (.cells #[I 0, .int .u8 0, I 0, I 0] 90)).heap[w0.heap.size]? = some (.cells #[I 0, .int .u8 0, I 0, I 0] 90 (0, 0)) := heap_alloc_new w0 _
      have hs1 : (w0.alloc (.cells #[I 0, .int .u8 0, I 0, I 0] 90)).heap.size = w.heap.size + 1 + 1 := by rw [size_alloc, hs0]
      generalize (w0.alloc (.cells #[I 0, .int .u8 0, I 0, I 0] 90)) = w1 at hN1 hbx hs1 ⊢
      rw [hs0] at hbx
      have HB := Lib.hid hbx
      replace x0 := hN1.cell x0
      replace x1 := hN1.cell x1
      replace x2 := hN1.cell x2
      replace x3 := hN1.cell x3
      replace x4 := hN1.cell x4
      have k1 := hN0.trans hN1
      clear hN0 hN1 hbx hs0
      refine (HM w1).mono ?_
      rintro e wa ⟨rfl, k2⟩
      replace x0 := k2.cell x0
      replace x1 := k2.cell x1
      replace x2 := k2.cell x2
      replace x3 := k2.cell x3
      replace x4 := k2.cell x4
      replace HB := Lib.hid (Keeps.heap k2 HB.out (fun h => h))
      replace k1 := k1.trans k2
      clear k2
      obtain ⟨⟨r0, r1, r2, r3⟩, ⟨f0, f1, f2, f3⟩, hBB⟩ := wr_cells HB.out
      go_wp2_with fail
      exact bodyPost_ret (v := .agg #[I 80, .int .u8 0, I 0, I 0]) (by simp [results, Try.results45, go_sem, r0, r1, r2, r3, f0, f1, f2, f3, hBB]) rfl ⟨rfl, ((((k1).setCell (by simp) _).setCell (by simp) _).setCell (by simp) _).setCell (by simp) _⟩
    · rw [if_neg h0]
      have d0 : ((gacts.length : Int) == 0) = false := by
        rw [beq_eq_false_iff_ne]; omega
      have d0' : decide ((gacts.length : Int) = 0) = false := decide_eq_false (by omega)
      have d0'' : decide (gacts.length = 0) = false := decide_eq_false (by omega)
      clear h0
      by_cases hm : m0 ≠ 0
      · rw [if_pos hm]
        have d1 : (m0 != 0) = true := by simpa using hm
        clear hm
        go_enter Try.func45, Try.ntmps45
        go_wp2_with fail
        have hN0 : New w (w.alloc (.cells #[.string gname, .slice gaa gacts.length gac, .slice gea gedges.length gec, .slice gia gins.length gic, .slice goa gouts.length goc] 63)) := (New.refl w).alloc _
        have hbx : (w.alloc (.cells #[.string gname, .slice gaa gacts.length gac, .slice gea gedges.length gec, .slice gia gins.length gic, .slice goa gouts.length goc] 63)).heap[w.heap.size]? = some (.cells #[.string gname, .slice gaa gacts.length gac, .slice gea gedges.length gec, .slice gia gins.length gic, .slice goa gouts.length goc] 63 (0, 0)) := heap_alloc_new w _
        have hs0 : (w.alloc (.cells #[.string gname, .slice gaa gacts.length gac, .slice gea gedges.length gec, .slice gia gins.length gic, .slice goa gouts.length goc] 63)).heap.size = w.heap.size + 1 := size_alloc _ _
        generalize (w.alloc (.cells #[.string gname, .slice gaa gacts.length gac, .slice gea gedges.length gec, .slice gia gins.length gic, .slice goa gouts.length goc] 63)) = w0 at hN0 hbx hs0 ⊢
        have x0 : w0.cell? ⟨w.heap.size, 0, none⟩ = some (.string gname) := by rw [cell_of_block hbx 0]; simp
        have x1 : w0.cell? ⟨w.heap.size, 1, none⟩ = some (.slice gaa gacts.length gac) := by rw [cell_of_block hbx 1]; simp
        have x2 : w0.cell? ⟨w.heap.size, 2, none⟩ = some (.slice gea gedges.length gec) := by rw [cell_of_block hbx 2]; simp
        have x3 : w0.cell? ⟨w.heap.size, 3, none⟩ = some (.slice gia gins.length gic) := by rw [cell_of_block hbx 3]; simp
        have x4 : w0.cell? ⟨w.heap.size, 4, none⟩ = some (.slice goa gouts.length goc) := by rw [cell_of_block hbx 4]; simp
        clear hbx
        have hN1 : New w0 (w0.alloc (.cells #[I 0, .int .u8 0, I 0, I 0] 90)) := (New.refl w0).alloc _
        have hbx : (w0.alloc (.cells #[I 0, .int .u8 0, I 0, I 0] 90)).heap[w0.heap.size]? = some (.cells #[I 0, .int .u8 0, I 0, I 0] 90 (0, 0)) := heap_alloc_new w0 _
        have hs1 : (w0.alloc (.cells #[I 0, .int .u8 0, I 0, I 0] 90)).heap.size = w.heap.size + 1 + 1 := by rw [size_alloc, hs0]
        generalize (w0.alloc (.cells #[I 0, .int .u8 0, I 0, I 0] 90)) = w1 at hN1 hbx hs1 ⊢
        rw [hs0] at hbx
        have HB := Lib.hid hbx
        replace x0 := hN1.cell x0
        replace x1 := hN1.cell x1
        replace x2 := hN1.cell x2
        replace x3 := hN1.cell x3
        replace x4 := hN1.cell x4
        have k1 := hN0.trans hN1
        clear hN0 hN1 hbx hs0
        refine (HM w1).mono ?_
        rintro e wa ⟨rfl, k2⟩
        replace x0 := k2.cell x0
        replace x1 := k2.cell x1
        replace x2 := k2.cell x2
        replace x3 := k2.cell x3
        replace x4 := k2.cell x4
        replace HB := Lib.hid (Keeps.heap k2 HB.out (fun h => h))
        replace k1 := k1.trans k2
        clear k2
        go_wp2_with fail
        refine (HY wa).mono ?_
        rintro e wb ⟨rfl, k2⟩
        replace x0 := k2.cell x0
        replace x1 := k2.cell x1
        replace x2 := k2.cell x2
        replace x3 := k2.cell x3
        replace x4 := k2.cell x4
        replace HB := Lib.hid (Keeps.heap k2 HB.out (fun h => h))
        replace k1 := k1.trans k2
        clear k2
        obtain ⟨⟨r0, r1, r2, r3⟩, ⟨f0, f1, f2, f3⟩, hBB⟩ := wr_cells HB.out
        go_wp2_with fail
        exact bodyPost_ret (v := .agg #[I m0, .int .u8 m1, I m2, I m3]) (by simp [results, Try.results45, go_sem, r0, r1, r2, r3, f0, f1, f2, f3, hBB]) rfl ⟨rfl, (((((k1).setCell (by simp) _).setCell (by simp) _).setCell (by simp) _).setCell (by simp) _).alloc _⟩
      · rw [if_neg hm]
        have d1 : (m0 != 0) = false := by simpa using hm
        clear hm
        obtain ⟨S5, h5⟩ : ∃ S5, stage (fun i x => (if EP i x then (87 : Int) else 0, (0 : Int))) gacts (fun i ed => (ed.1, 1, i, 0)) (0, 0, 0, 0) = S5 := ⟨_, rfl⟩
        rw [h5]
        obtain ⟨S4, h4⟩ : ∃ S4, stage EO gouts (fun i ed => (ed.1, 4, i, ed.2)) S5 = S4 := ⟨_, rfl⟩
        rw [h4]
        obtain ⟨S3, h3⟩ : ∃ S3, stage EI gins (fun i ed => (ed.1, 3, i, ed.2)) S4 = S3 := ⟨_, rfl⟩
        rw [h3]
        obtain ⟨S2, h2⟩ : ∃ S2, stage EE gedges (fun i ed => (ed.1, 2, i, ed.2)) S3 = S2 := ⟨_, rfl⟩
        rw [h2]
        obtain ⟨S1, h1⟩ : ∃ S1, stage EA gacts (fun i ed => (ed.1, 1, i, 0)) S2 = S1 := ⟨_, rfl⟩
        rw [h1]
        have H1 := Lib.hid h1
        have H2 := Lib.hid h2
        have H3 := Lib.hid h3
        have H4 := Lib.hid h4
        have H5 := Lib.hid h5
        have HQ1 : Hid (S1 = S1) := Lib.hid rfl
        clear h1 h2 h3 h4 h5
        go_enter Try.func45, Try.ntmps45
        go_wp2_with fail
        have hN0 : New w (w.alloc (.cells #[.string gname, .slice gaa gacts.length gac, .slice gea gedges.length gec, .slice gia gins.length gic, .slice goa gouts.length goc] 63)) := (New.refl w).alloc _
        have hbx : (w.alloc (.cells #[.string gname, .slice gaa gacts.length gac, .slice gea gedges.length gec, .slice gia gins.length gic, .slice goa gouts.length goc] 63)).heap[w.heap.size]? = some (.cells #[.string gname, .slice gaa gacts.length gac, .slice gea gedges.length gec, .slice gia gins.length gic, .slice goa gouts.length goc] 63 (0, 0)) := heap_alloc_new w _
        have hs0 : (w.alloc (.cells #[.string gname, .slice gaa gacts.length gac, .slice gea gedges.length gec, .slice gia gins.length gic, .slice goa gouts.length goc] 63)).heap.size = w.heap.size + 1 := size_alloc _ _
        generalize (w.alloc (.cells #[.string gname, .slice gaa gacts.length gac, .slice gea gedges.length gec, .slice gia gins.length gic, .slice goa gouts.length goc] 63)) = w0 at hN0 hbx hs0 ⊢
        have x0 : w0.cell? ⟨w.heap.size, 0, none⟩ = some (.string gname) := by rw [cell_of_block hbx 0]; simp
        have x1 : w0.cell? ⟨w.heap.size, 1, none⟩ = some (.slice gaa gacts.length gac) := by rw [cell_of_block hbx 1]; simp
        have x2 : w0.cell? ⟨w.heap.size, 2, none⟩ = some (.slice gea gedges.length gec) := by rw [cell_of_block hbx 2]; simp
        have x3 : w0.cell? ⟨w.heap.size, 3, none⟩ = some (.slice gia gins.length gic) := by rw [cell_of_block hbx 3]; simp
        have x4 : w0.cell? ⟨w.heap.size, 4, none⟩ = some (.slice goa gouts.length goc) := by rw [cell_of_block hbx 4]; simp
        clear hbx
        have hN1 : New w0 (w0.alloc (.cells #[I 0, .int .u8 0, I 0, I 0] 90)) := (New.refl w0).alloc _
        have hbx : (w0.alloc (.cells #[I 0, .int .u8 0, I 0, I 0] 90)).heap[w0.heap.size]? = some (.cells #[I 0, .int .u8 0, I 0, I 0] 90 (0, 0)) := heap_alloc_new w0 _
        have hs1 : (w0.alloc (.cells #[I 0, .int .u8 0, I 0, I 0] 90)).heap.size = w.heap.size + 1 + 1 := by rw [size_alloc, hs0]
        generalize (w0.alloc (.cells #[I 0, .int .u8 0, I 0, I 0] 90)) = w1 at hN1 hbx hs1 ⊢
        rw [hs0] at hbx
        have HB := Lib.hid hbx
        replace x0 := hN1.cell x0
        replace x1 := hN1.cell x1
        replace x2 := hN1.cell x2
        replace x3 := hN1.cell x3
        replace x4 := hN1.cell x4
        have k1 := hN0.trans hN1
        clear hN0 hN1 hbx hs0
        refine (HM w1).mono ?_
        rintro e wa ⟨rfl, k2⟩
        replace x0 := k2.cell x0
        replace x1 := k2.cell x1
        replace x2 := k2.cell x2
        replace x3 := k2.cell x3
        replace x4 := k2.cell x4
        replace HB := Lib.hid (Keeps.heap k2 HB.out (fun h => h))
        replace k1 := k1.trans k2
        clear k2
        go_wp2_with fail
        refine (HY wa).mono ?_
        rintro e wb ⟨rfl, k2⟩
        replace x0 := k2.cell x0
        replace x1 := k2.cell x1
        replace x2 := k2.cell x2
        replace x3 := k2.cell x3
        replace x4 := k2.cell x4
        replace HB := Lib.hid (Keeps.heap k2 HB.out (fun h => h))
        replace k1 := k1.trans k2
        clear k2
        go_wp2_with fail
        have hN1 : New wb (wb.alloc (.cells #[I m0, .int .u8 m1, I m2, I m3] 90)) := (New.refl wb).alloc _
        generalize (wb.alloc (.cells #[I m0, .int .u8 m1, I m2, I m3] 90)) = wc at hN1 ⊢
        generalize wb.heap.size = BL
        replace x0 := hN1.cell x0
        replace x1 := hN1.cell x1
        replace x2 := hN1.cell x2
        replace x3 := hN1.cell x3
        replace x4 := hN1.cell x4
        replace HB := Lib.hid (Keeps.heap hN1 HB.out (fun h => h))
        replace k1 := k1.trans hN1
        clear hN1
        obtain ⟨v0, hv0⟩ : ∃ v0, v0 = wc := ⟨_, rfl⟩
        subst hv0
        go_loopw [4] (fun i wr => ∃ k : Nat, k ≤ gacts.length ∧ i = .int .i64 k ∧ Hid (∀ j (hj : j < gacts.length), j < k → (EA j gacts[j]).1 = 0) ∧ New v0 wr) (fun i _ => gacts.length - (intOf i).toNat)
        case atStart => exact ⟨0, by omega, rfl, Lib.hid (fun j _ hj => by omega), New.refl _⟩
        case round =>
          obtain ⟨k, hk, rfl, HZ, hN⟩ := hrel
          have x0r := hN.cell x0
          have x1r := hN.cell x1
          have x2r := hN.cell x2
          have x3r := hN.cell x3
          have x4r := hN.cell x4
          have HBr := Lib.hid (Keeps.heap hN HB.out (fun h => h))
          by_cases hk1 : k < gacts.length
          · have hk3 : (k : Int) < (gacts.length : Int) := by omega
            have hk5 : decide (k < gacts.length) = true := decide_eq_true hk1
            have hc := HA wr k (k1.trans hN) hk1
            obtain ⟨⟨ec, ed⟩, hEk⟩ : ∃ p, EA k gacts[k] = p := ⟨_, rfl⟩
            rw [hEk] at hc
            simp only at hc
            by_cases he : ec = 0
            · have HF : Hid (∀ j (hj : j < gacts.length), j < k + 1 → (EA j gacts[j]).1 = 0) := Lib.hid (fun j hj hj1 => by
                by_cases hjk : j = k
                · subst hjk; rw [hEk]; exact he
                · exact HZ.out j hj (by omega))
              have d1 : (ec != 0) = false := by simp [he]
              clear hEk HZ he
              go_wp2_with fail
              refine hc.mono ?_
              rintro e w3 ⟨rfl, k3⟩
              go_wp2_with fail
              go_roundw
              case rel => exact ⟨k + 1, by omega, by go_num, HF, hN.trans k3⟩
              case measure => simp [intOf]; omega
            · have HV : Hid (S1 = (ec, 1, (k : Int), 0)) := Lib.hid (by
                rw [← H1.out, stage_hit hk1 HZ.out (by rw [hEk]; exact he), hEk])
              have d1 : (ec != 0) = true := by simp [he]
              clear hEk HZ he
              go_wp2_with fail
              refine hc.mono ?_
              rintro e w3 ⟨rfl, k3⟩
              replace HBr := Lib.hid (Keeps.heap k3 HBr.out (fun h => h))
              replace k3 := (k1.trans hN).trans k3
              obtain ⟨⟨r0, r1, r2, r3⟩, ⟨f0, f1, f2, f3⟩, hBB⟩ := wr_cells HBr.out
              go_wp2_with fail
              exact bodyPost_ret (v := .agg #[I ec, .int .u8 1, I k, I 0]) (by simp [results, Try.results45, go_sem, r0, r1, r2, r3, f0, f1, f2, f3, hBB]) rfl ⟨by rw [HV.out]; rfl, ((((k3).setCell (by simp) _).setCell (by simp) _).setCell (by simp) _).setCell (by simp) _⟩
          · have hke : k = gacts.length := by omega
            have hd9 : decide (k < gacts.length) = false := decide_eq_false hk1
            rw [hke] at HZ
            have HQ2 : Hid (S1 = S2) := Lib.hid (by rw [← H1.out]; exact stage_end HZ.out)
            clear HZ hke hk hk1
            replace x0 := x0r
            replace x1 := x1r
            replace x2 := x2r
            replace x3 := x3r
            replace x4 := x4r
            replace HB := HBr
            replace k1 := k1.trans hN
            clear hN HBr x0r x1r x2r x3r x4r
            go_wp2_with fail
            obtain ⟨v1, hv⟩ : ∃ v, v = wr := ⟨_, rfl⟩
            subst hv
            go_loopw [6] (fun i wr => ∃ k : Nat, k ≤ gedges.length ∧ i = .int .i64 k ∧ Hid (∀ j (hj : j < gedges.length), j < k → (EE j gedges[j]).1 = 0) ∧ New v1 wr) (fun i _ => gedges.length - (intOf i).toNat)
            case atStart => exact ⟨0, by omega, rfl, Lib.hid (fun j _ hj => by omega), New.refl _⟩
            case round =>
              obtain ⟨k, hk, rfl, HZ, hN⟩ := hrel
              have x0r := hN.cell x0
              have x1r := hN.cell x1
              have x2r := hN.cell x2
              have x3r := hN.cell x3
              have x4r := hN.cell x4
              have HBr := Lib.hid (Keeps.heap hN HB.out (fun h => h))
              by_cases hk1 : k < gedges.length
              · have hk3 : (k : Int) < (gedges.length : Int) := by omega
                have hk5 : decide (k < gedges.length) = true := decide_eq_true hk1
                have hc := HE wr k (k1.trans hN) hk1
                obtain ⟨⟨ec, ed⟩, hEk⟩ : ∃ p, EE k gedges[k] = p := ⟨_, rfl⟩
                rw [hEk] at hc
                simp only at hc
                by_cases he : ec = 0
                · have HF : Hid (∀ j (hj : j < gedges.length), j < k + 1 → (EE j gedges[j]).1 = 0) := Lib.hid (fun j hj hj1 => by
                    by_cases hjk : j = k
                    · subst hjk; rw [hEk]; exact he
                    · exact HZ.out j hj (by omega))
                  have d1 : (ec != 0) = false := by simp [he]
                  clear hEk HZ he
                  go_wp2_with fail
                  refine hc.mono ?_
                  rintro e w3 ⟨rfl, k3⟩
                  go_wp2_with fail
                  go_roundw
                  case rel => exact ⟨k + 1, by omega, by go_num, HF, hN.trans k3⟩
                  case measure => simp [intOf]; omega
                · have HV : Hid (S1 = (ec, 2, (k : Int), ed)) := Lib.hid (by
                    rw [HQ2.out, ← H2.out, stage_hit hk1 HZ.out (by rw [hEk]; exact he), hEk])
                  have d1 : (ec != 0) = true := by simp [he]
                  clear hEk HZ he
                  go_wp2_with fail
                  refine hc.mono ?_
                  rintro e w3 ⟨rfl, k3⟩
                  replace HBr := Lib.hid (Keeps.heap k3 HBr.out (fun h => h))
                  replace k3 := (k1.trans hN).trans k3
                  obtain ⟨⟨r0, r1, r2, r3⟩, ⟨f0, f1, f2, f3⟩, hBB⟩ := wr_cells HBr.out
                  go_wp2_with fail
                  exact bodyPost_ret (v := .agg #[I ec, .int .u8 2, I k, I ed]) (by simp [results, Try.results45, go_sem, r0, r1, r2, r3, f0, f1, f2, f3, hBB]) rfl ⟨by rw [HV.out]; rfl, ((((k3).setCell (by simp) _).setCell (by simp) _).setCell (by simp) _).setCell (by simp) _⟩
              · have hke : k = gedges.length := by omega
                have hd9 : decide (k < gedges.length) = false := decide_eq_false hk1
                rw [hke] at HZ
                have HQ3 : Hid (S1 = S3) := Lib.hid (by rw [HQ2.out, ← H2.out]; exact stage_end HZ.out)
                clear HZ hke hk hk1
                replace x0 := x0r
                replace x1 := x1r
                replace x2 := x2r
                replace x3 := x3r
                replace x4 := x4r
                replace HB := HBr
                replace k1 := k1.trans hN
                clear hN HBr x0r x1r x2r x3r x4r
                go_wp2_with fail
                obtain ⟨v2, hv⟩ : ∃ v, v = wr := ⟨_, rfl⟩
                subst hv
                go_loopw [9] (fun i wr => ∃ k : Nat, k ≤ gins.length ∧ i = .int .i64 k ∧ Hid (∀ j (hj : j < gins.length), j < k → (EI j gins[j]).1 = 0) ∧ New v2 wr) (fun i _ => gins.length - (intOf i).toNat)
                case atStart => exact ⟨0, by omega, rfl, Lib.hid (fun j _ hj => by omega), New.refl _⟩
                case round =>
                  obtain ⟨k, hk, rfl, HZ, hN⟩ := hrel
                  have x0r := hN.cell x0
                  have x1r := hN.cell x1
                  have x2r := hN.cell x2
                  have x3r := hN.cell x3
                  have x4r := hN.cell x4
                  have HBr := Lib.hid (Keeps.heap hN HB.out (fun h => h))
                  by_cases hk1 : k < gins.length
                  · have hk3 : (k : Int) < (gins.length : Int) := by omega
                    have hk5 : decide (k < gins.length) = true := decide_eq_true hk1
                    have hc := HI wr k (k1.trans hN) hk1
                    obtain ⟨⟨ec, ed⟩, hEk⟩ : ∃ p, EI k gins[k] = p := ⟨_, rfl⟩
                    rw [hEk] at hc
                    simp only at hc
                    by_cases he : ec = 0
                    · have HF : Hid (∀ j (hj : j < gins.length), j < k + 1 → (EI j gins[j]).1 = 0) := Lib.hid (fun j hj hj1 => by
                        by_cases hjk : j = k
                        · subst hjk; rw [hEk]; exact he
                        · exact HZ.out j hj (by omega))
                      have d1 : (ec != 0) = false := by simp [he]
                      clear hEk HZ he
                      go_wp2_with fail
                      refine hc.mono ?_
                      rintro e w3 ⟨rfl, k3⟩
                      go_wp2_with fail
                      go_roundw
                      case rel => exact ⟨k + 1, by omega, by go_num, HF, hN.trans k3⟩
                      case measure => simp [intOf]; omega
                    · have HV : Hid (S1 = (ec, 3, (k : Int), ed)) := Lib.hid (by
                        rw [HQ3.out, ← H3.out, stage_hit hk1 HZ.out (by rw [hEk]; exact he), hEk])
                      have d1 : (ec != 0) = true := by simp [he]
                      clear hEk HZ he
                      go_wp2_with fail
                      refine hc.mono ?_
                      rintro e w3 ⟨rfl, k3⟩
                      replace HBr := Lib.hid (Keeps.heap k3 HBr.out (fun h => h))
                      replace k3 := (k1.trans hN).trans k3
                      obtain ⟨⟨r0, r1, r2, r3⟩, ⟨f0, f1, f2, f3⟩, hBB⟩ := wr_cells HBr.out
                      go_wp2_with fail
                      exact bodyPost_ret (v := .agg #[I ec, .int .u8 3, I k, I ed]) (by simp [results, Try.results45, go_sem, r0, r1, r2, r3, f0, f1, f2, f3, hBB]) rfl ⟨by rw [HV.out]; rfl, ((((k3).setCell (by simp) _).setCell (by simp) _).setCell (by simp) _).setCell (by simp) _⟩
                  · have hke : k = gins.length := by omega
                    have hd9 : decide (k < gins.length) = false := decide_eq_false hk1
                    rw [hke] at HZ
                    have HQ4 : Hid (S1 = S4) := Lib.hid (by rw [HQ3.out, ← H3.out]; exact stage_end HZ.out)
                    clear HZ hke hk hk1
                    replace x0 := x0r
                    replace x1 := x1r
                    replace x2 := x2r
                    replace x3 := x3r
                    replace x4 := x4r
                    replace HB := HBr
                    replace k1 := k1.trans hN
                    clear hN HBr x0r x1r x2r x3r x4r
                    go_wp2_with fail
                    obtain ⟨v3, hv⟩ : ∃ v, v = wr := ⟨_, rfl⟩
                    subst hv
                    go_loopw [12] (fun i wr => ∃ k : Nat, k ≤ gouts.length ∧ i = .int .i64 k ∧ Hid (∀ j (hj : j < gouts.length), j < k → (EO j gouts[j]).1 = 0) ∧ New v3 wr) (fun i _ => gouts.length - (intOf i).toNat)
                    case atStart => exact ⟨0, by omega, rfl, Lib.hid (fun j _ hj => by omega), New.refl _⟩
                    case round =>
                      obtain ⟨k, hk, rfl, HZ, hN⟩ := hrel
                      have x0r := hN.cell x0
                      have x1r := hN.cell x1
                      have x2r := hN.cell x2
                      have x3r := hN.cell x3
                      have x4r := hN.cell x4
                      have HBr := Lib.hid (Keeps.heap hN HB.out (fun h => h))
                      by_cases hk1 : k < gouts.length
                      · have hk3 : (k : Int) < (gouts.length : Int) := by omega
                        have hk5 : decide (k < gouts.length) = true := decide_eq_true hk1
                        have hc := HO wr k (k1.trans hN) hk1
                        obtain ⟨⟨ec, ed⟩, hEk⟩ : ∃ p, EO k gouts[k] = p := ⟨_, rfl⟩
                        rw [hEk] at hc
                        simp only at hc
                        by_cases he : ec = 0
                        · have HF : Hid (∀ j (hj : j < gouts.length), j < k + 1 → (EO j gouts[j]).1 = 0) := Lib.hid (fun j hj hj1 => by
                            by_cases hjk : j = k
                            · subst hjk; rw [hEk]; exact he
                            · exact HZ.out j hj (by omega))
                          have d1 : (ec != 0) = false := by simp [he]
                          clear hEk HZ he
                          go_wp2_with fail
                          refine hc.mono ?_
                          rintro e w3 ⟨rfl, k3⟩
                          go_wp2_with fail
                          go_roundw
                          case rel => exact ⟨k + 1, by omega, by go_num, HF, hN.trans k3⟩
                          case measure => simp [intOf]; omega
                        · have HV : Hid (S1 = (ec, 4, (k : Int), ed)) := Lib.hid (by
                            rw [HQ4.out, ← H4.out, stage_hit hk1 HZ.out (by rw [hEk]; exact he), hEk])
                          have d1 : (ec != 0) = true := by simp [he]
                          clear hEk HZ he
                          go_wp2_with fail
                          refine hc.mono ?_
                          rintro e w3 ⟨rfl, k3⟩
                          replace HBr := Lib.hid (Keeps.heap k3 HBr.out (fun h => h))
                          replace k3 := (k1.trans hN).trans k3
                          obtain ⟨⟨r0, r1, r2, r3⟩, ⟨f0, f1, f2, f3⟩, hBB⟩ := wr_cells HBr.out
                          go_wp2_with fail
                          exact bodyPost_ret (v := .agg #[I ec, .int .u8 4, I k, I ed]) (by simp [results, Try.results45, go_sem, r0, r1, r2, r3, f0, f1, f2, f3, hBB]) rfl ⟨by rw [HV.out]; rfl, ((((k3).setCell (by simp) _).setCell (by simp) _).setCell (by simp) _).setCell (by simp) _⟩
                      · have hke : k = gouts.length := by omega
                        have hd9 : decide (k < gouts.length) = false := decide_eq_false hk1
                        rw [hke] at HZ
                        have HQ5 : Hid (S1 = S5) := Lib.hid (by rw [HQ4.out, ← H4.out]; exact stage_end HZ.out)
                        clear HZ hke hk hk1
                        replace x0 := x0r
                        replace x1 := x1r
                        replace x2 := x2r
                        replace x3 := x3r
                        replace x4 := x4r
                        replace HB := HBr
                        replace k1 := k1.trans hN
                        clear hN HBr x0r x1r x2r x3r x4r
                        go_wp2_with fail
                        obtain ⟨v4, hv⟩ : ∃ v, v = wr := ⟨_, rfl⟩
                        subst hv
                        go_loopw [15] (fun i wr => ∃ k : Nat, k ≤ gacts.length ∧ i = .int .i64 k ∧ Hid (∀ j (hj : j < gacts.length), j < k → ((fun i x => (if EP i x then (87 : Int) else 0, (0 : Int))) j gacts[j]).1 = 0) ∧ New v4 wr) (fun i _ => gacts.length - (intOf i).toNat)
                        case atStart => exact ⟨0, by omega, rfl, Lib.hid (fun j _ hj => by omega), New.refl _⟩
                        case round =>
                          obtain ⟨k, hk, rfl, HZ, hN⟩ := hrel
                          have x0r := hN.cell x0
                          have x1r := hN.cell x1
                          have x2r := hN.cell x2
                          have x3r := hN.cell x3
                          have x4r := hN.cell x4
                          have HBr := Lib.hid (Keeps.heap hN HB.out (fun h => h))
                          by_cases hk1 : k < gacts.length
                          · have hk3 : (k : Int) < (gacts.length : Int) := by omega
                            have hk5 : decide (k < gacts.length) = true := decide_eq_true hk1
                            have hc := HP wr k (k1.trans hN) hk1
                            cases hEk : EP k gacts[k] with
                            | false =>
                              rw [hEk] at hc
                              have HF : Hid (∀ j (hj : j < gacts.length), j < k + 1 → ((fun i x => (if EP i x then (87 : Int) else 0, (0 : Int))) j gacts[j]).1 = 0) := Lib.hid (fun j hj hj1 => by
                                by_cases hjk : j = k
                                · subst hjk; simp [hEk]
                                · exact HZ.out j hj (by omega))
                              clear hEk HZ
                              go_wp2_with fail
                              refine hc.mono ?_
                              rintro e w3 ⟨rfl, k3⟩
                              go_wp2_with fail
                              go_roundw
                              case rel => exact ⟨k + 1, by omega, by go_num, HF, hN.trans k3⟩
                              case measure => simp [intOf]; omega
                            | true =>
                              rw [hEk] at hc
                              have HV : Hid (S1 = (87, 1, (k : Int), 0)) := Lib.hid (by
                                rw [HQ5.out, ← H5.out, stage_hit hk1 HZ.out (by simp [hEk])]; simp [hEk])
                              clear hEk HZ
                              go_wp2_with fail
                              refine hc.mono ?_
                              rintro e w3 ⟨rfl, k3⟩
                              replace HBr := Lib.hid (Keeps.heap k3 HBr.out (fun h => h))
                              replace k3 := (k1.trans hN).trans k3
                              obtain ⟨⟨r0, r1, r2, r3⟩, ⟨f0, f1, f2, f3⟩, hBB⟩ := wr_cells HBr.out
                              go_wp2_with fail
                              exact bodyPost_ret (v := .agg #[I 87, .int .u8 1, I k, I 0]) (by simp [results, Try.results45, go_sem, r0, r1, r2, r3, f0, f1, f2, f3, hBB]) rfl ⟨by rw [HV.out]; rfl, ((((k3).setCell (by simp) _).setCell (by simp) _).setCell (by simp) _).setCell (by simp) _⟩
                          · have hke : k = gacts.length := by omega
                            have hd9 : decide (k < gacts.length) = false := decide_eq_false hk1
                            rw [hke] at HZ
                            have HQ6 : Hid (S1 = (0, 0, 0, 0)) := Lib.hid (by rw [HQ5.out, ← H5.out]; exact stage_end HZ.out)
                            clear HZ hke hk hk1
                            replace x0 := x0r
                            replace x1 := x1r
                            replace x2 := x2r
                            replace x3 := x3r
                            replace x4 := x4r
                            replace HB := HBr
                            replace k1 := k1.trans hN
                            clear hN HBr x0r x1r x2r x3r x4r
                            obtain ⟨⟨r0, r1, r2, r3⟩, ⟨f0, f1, f2, f3⟩, hBB⟩ := wr_cells HB.out
                            go_wp2_with fail
                            exact bodyPost_ret (v := .agg #[I 0, .int .u8 0, I 0, I 0]) (by simp [results, Try.results45, go_sem, r0, r1, r2, r3, f0, f1, f2, f3, hBB]) rfl ⟨by rw [HQ6.out]; rfl, ((((k1).setCell (by simp) _).setCell (by simp) _).setCell (by simp) _).setCell (by simp) _⟩
set_option maxRecDepth 100000 in
theorem rcheck_any (w : World) (g : Gr) (hg : GrAt w g) (hl : GLen g) :
    Calls Try.prog 40 #[g.v] w fun en w' => en = .returned (I (findG g).1) ∧ New w w' := by
  have HF : ∀ W, New w W → Calls Try.prog 45 #[g.v] W fun en w' => en = .returned (fndV (findG g)) ∧ New W w' := fun W k => rfind_any W g (hg.new k) hl
  generalize findG g = fg at HF ⊢
  clear hg hl
  obtain ⟨gname, gaa, gac, gacts, gea, gec, gedges, gia, gic, gins, goa, goc, gouts⟩ := g
  obtain ⟨f0, f1, f2, f3⟩ := fg
  simp only [Gr.v, Gr.cs, fndV] at HF ⊢
  go_enter Try.func40, Try.ntmps40
  go_wp2_with fail
  have hN0 : New w (w.alloc (.cells #[.string gname, .slice gaa gacts.length gac, .slice gea gedges.length gec, .slice gia gins.length gic, .slice goa gouts.length goc] 63)) := (New.refl w).alloc _
  have hbx : (w.alloc (.cells #[.string gname, .slice gaa gacts.length gac, .slice gea gedges.length gec, .slice gia gins.length gic, .slice goa gouts.length goc] 63)).heap[w.heap.size]? = some (.cells #[.string gname, .slice gaa gacts.length gac, .slice gea gedges.length gec, .slice gia gins.length gic, .slice goa gouts.length goc] 63 (0, 0)) := heap_alloc_new w _
  have hs0 : (w.alloc (.cells #[.string gname, .slice gaa gacts.length gac, .slice gea gedges.length gec, .slice gia gins.length gic, .slice goa gouts.length goc] 63)).heap.size = w.heap.size + 1 := size_alloc _ _
  generalize (w.alloc (.cells #[.string gname, .slice gaa gacts.length gac, .slice gea gedges.length gec, .slice gia gins.length gic, .slice goa gouts.length goc] 63)) = w0 at hN0 hbx hs0 ⊢
  have x0 : w0.cell? ⟨w.heap.size, 0, none⟩ = some (.string gname) := by rw [cell_of_block hbx 0]; simp
  have x1 : w0.cell? ⟨w.heap.size, 1, none⟩ = some (.slice gaa gacts.length gac) := by rw [cell_of_block hbx 1]; simp
  have x2 : w0.cell? ⟨w.heap.size, 2, none⟩ = some (.slice gea gedges.length gec) := by rw [cell_of_block hbx 2]; simp
  have x3 : w0.cell? ⟨w.heap.size, 3, none⟩ = some (.slice gia gins.length gic) := by rw [cell_of_block hbx 3]; simp
  have x4 : w0.cell? ⟨w.heap.size, 4, none⟩ = some (.slice goa gouts.length goc) := by rw [cell_of_block hbx 4]; simp
  clear hbx
  refine (HF w0 hN0).mono ?_
  rintro e w1 ⟨rfl, k1⟩
  have hfd : (Instr.field 90 (.agg #[I f0, .int .u8 f1, I f2, I f3]) 0).run Try.prog w1 = .ok (I f0) w1 := by kernel_rfl
  go_wp2_with fail
  go_ret
  exact ⟨rfl, hN0.trans k1⟩
end Go.Proofs.Ytijlgcbnoekmeaa
