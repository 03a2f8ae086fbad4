/-
  Layer 10: New.
-/
import Derived.Test.YtijlgcbnoekmeaaNetF
namespace Go.Proofs.Ytijlgcbnoekmeaa
open Go Go.RowKit
set_option linter.all false

theorem new_bad (w : World) (nodes : Int) (arcs : List ArcD) (ao : Option Addr) (c : Nat) (hx : SlAt w ao (arcsCells arcs)) (hl : arcs.length ≤ 9223372036854775807) (hb : netErr nodes arcs ≠ 0) :
    Calls Try.prog 14 #[.agg #[I nodes, .slice ao arcs.length c]] w fun e w' => e = .returned (.tuple #[.pointer none, I (netErr nodes arcs)]) ∧ New w w' := by
  have hck : ∀ w1, New w w1 → Calls Try.prog 13 #[.agg #[I nodes, .slice ao arcs.length c]] w1 fun e w' => e = .returned (I (netErr nodes arcs)) ∧ New w1 w' :=
    fun w1 h1 => netCheck_any nodes ao c arcs w1 (hx.new h1) hl
  have hd : (netErr nodes arcs != 0) = true := by simpa using hb
  generalize netErr nodes arcs = ne at hck hd
  clear hb
  go_enter Try.func14, Try.ntmps14
  go_wp2_with (go_at_call 13; refine (hck _ ((New.refl w).alloc _)).mono ?_; rintro e w1 ⟨rfl, hN1⟩)
  go_ret2
  exact ⟨rfl, ((New.refl w).alloc _).trans hN1⟩

/-- A State just laid: nought on every arc. -/
theorem st_made {w2 W : World} {B nodes lo b g c9 L1 L2 Lt Lf : Nat} {arcs : List ArcD} {a9 : Option Addr} {A1 : Nat → Option Addr} {N1 C1 : Nat → Nat} {A2 : Nat → Option Addr} {N2 C2 : Nat → Nat}
    (hW : Wv B nodes arcs.length (arcsCells arcs) w2 g a9 c9 L1 L2 A1 N1 C1 (fun j => Ns (inUp arcs arcs.length j)) A2 N2 C2 (fun j => Ns (outUp arcs arcs.length j)))
    (hk : New w2 W) (hm : arcs.length ≤ maxLen) (hn : nodes ≤ maxLen)
    (hb : W.heap[b]? = some (.cells #[.slice a9 arcs.length c9, .slice (some ⟨L1, 0, none⟩) nodes nodes, .slice (some ⟨L2, 0, none⟩) nodes nodes, .slice (some ⟨Lt, 0, none⟩) arcs.length arcs.length, .slice (some ⟨Lf, 0, none⟩) nodes nodes] 72))
    (ht : W.heap[Lt]? = some (.cells (madeCells #[.int .i64 0] arcs.length) 3)) (hf : W.heap[Lf]? = some (.cells (madeCells #[.int .i64 0] nodes) 3))
    (l0 : lo ≤ B) (l1 : lo ≤ Lt) (l2 : lo ≤ Lf) (l3 : lo ≤ b) (d1 : Lt ≠ Lf) (d2 : b ≠ Lt) (d3 : b ≠ Lf)
    (o1 : Lt < B ∨ w2.heap.size ≤ Lt) (o2 : Lf < B ∨ w2.heap.size ≤ Lf) :
    ∃ p : StD, p.b = b ∧ p.lo = lo ∧ St W p nodes arcs ⟨List.replicate arcs.length 0, List.replicate nodes 0⟩ := by
  have hrow : ∀ (L m : Nat), m ≤ maxLen → lo ≤ L → W.heap[L]? = some (.cells (madeCells #[.int .i64 0] m) 3) → W.ownsRow lo 3 1 (.slice (some ⟨L, 0, none⟩) m m) m (Is (List.replicate m 0)) := fun L m hm hl hh =>
    ⟨by simp, .inr ⟨L, m, _, rfl, hl, hh, Nat.le_refl _, hm, by rw [← Array.length_toList, toList_madeCells_one]; simp, by rw [toList_madeCells_one]; simp⟩⟩
  have c : ∀ k v, (#[.slice a9 arcs.length c9, .slice (some ⟨L1, 0, none⟩) nodes nodes, .slice (some ⟨L2, 0, none⟩) nodes nodes, .slice (some ⟨Lt, 0, none⟩) arcs.length arcs.length, .slice (some ⟨Lf, 0, none⟩) nodes nodes] : Array Value)[k]? = some v → W.cell? ⟨b, k, none⟩ = some v := by
    intro k v hv; simp only [World.cell?, hb]; exact hv
  have hsz : w2.heap.size ≤ W.heap.size := hk.size
  have e1 := fun x (hx : tabBlk L1 nodes A1 x) => hW.t1.lt hx
  have e2 := fun x (hx : tabBlk L2 nodes A2 x) => hW.t2.lt hx
  have e3 : ∀ a, a9 = some a → B ≤ a.block ∧ a.block < w2.heap.size := fun a ha => own_of_blk hW.arcs ⟨a, ha, rfl⟩
  have hWW := hW.new hk
  have t1 := (Array.getElem?_eq_some_iff.1 ht).1
  have t2 := (Array.getElem?_eq_some_iff.1 hf).1
  have t3 := (Array.getElem?_eq_some_iff.1 hb).1
  have tr : ∀ {L m : Nat} {A : Nat → Option Addr} {N C : Nat → Nat} {X : Nat → List Value}, Tab W 37 3 B L m A N C X → Tab W 37 3 lo L m A N C X := fun h =>
    ⟨ownsRow_rebase h.tab (fun k hk => by have := (World.ownsRow.lt h.tab k hk).1; omega), fun j hj => ownsRow_rebase (h.row j hj) (fun k hk => by have := (World.ownsRow.lt (h.row j hj) k hk).1; omega), h.dis, h.off⟩
  refine ⟨⟨b, a9, c9, L1, L2, A1, N1, C1, A2, N2, C2, Lt, Lf, lo, W.heap.size⟩, rfl, rfl, c 0 _ rfl, c 1 _ rfl, c 2 _ rfl, c 3 _ rfl, c 4 _ rfl, SlAt.of_owns hWW.arcs, tr hWW.t1, tr hWW.t2, hrow _ _ hm l1 ht, hrow _ _ hn l2 hf,
    ⟨l3, t3⟩, fun a ha => ?_, fun k hk => ?_, fun k hk => ?_, ⟨l1, t1⟩, ⟨l2, t2⟩, d1, ⟨d2, d3⟩, fun a ha => ?_, fun k hk => ?_, fun k hk => ?_, Nat.le_refl _⟩
  · have := e3 a ha; simp only; omega
  · have := e1 k hk; simp only; omega
  · have := e2 k hk; simp only; omega
  · have := e3 a ha; simp only; omega
  · have := e1 k hk; simp only; omega
  · have := e2 k hk; simp only; omega

/-- What New has laid ahead of its loop. -/
def Laid (w : World) (nodes : Nat) (arcs : List ArcD) (ao : Option Addr) (c : Nat) (s : Value) (w' : World) : Prop :=
  ∃ p : StD, s = .pointer (some ⟨p.b, 0, none⟩) ∧ St w' p nodes arcs ⟨List.replicate arcs.length 0, List.replicate nodes 0⟩ ∧ w.heap.size ≤ p.lo ∧ New w w' ∧ w'.cell? ⟨w.heap.size, 0, none⟩ = some (I nodes) ∧ w'.cell? ⟨w.heap.size, 1, none⟩ = some (.slice ao arcs.length c) ∧ w.heap.size < p.lo

theorem laid_made {w w2 W : World} {B nodes lo b g c9 L1 L2 Lt Lf c : Nat} {arcs : List ArcD} {ao a9 : Option Addr} {A1 : Nat → Option Addr} {N1 C1 : Nat → Nat} {A2 : Nat → Option Addr} {N2 C2 : Nat → Nat}
    (hW : Wv B nodes arcs.length (arcsCells arcs) w2 g a9 c9 L1 L2 A1 N1 C1 (fun j => Ns (inUp arcs arcs.length j)) A2 N2 C2 (fun j => Ns (outUp arcs arcs.length j)))
    (hk : New w2 W) (hm : arcs.length ≤ maxLen) (hn : nodes ≤ maxLen)
    (hb : W.heap[b]? = some (.cells #[.slice a9 arcs.length c9, .slice (some ⟨L1, 0, none⟩) nodes nodes, .slice (some ⟨L2, 0, none⟩) nodes nodes, .slice (some ⟨Lt, 0, none⟩) arcs.length arcs.length, .slice (some ⟨Lf, 0, none⟩) nodes nodes] 72))
    (ht : W.heap[Lt]? = some (.cells (madeCells #[.int .i64 0] arcs.length) 3)) (hf : W.heap[Lf]? = some (.cells (madeCells #[.int .i64 0] nodes) 3))
    (l0 : lo ≤ B) (l1 : lo ≤ Lt) (l2 : lo ≤ Lf) (l3 : lo ≤ b) (d1 : Lt ≠ Lf) (d2 : b ≠ Lt) (d3 : b ≠ Lf)
    (o1 : Lt < B ∨ w2.heap.size ≤ Lt) (o2 : Lf < B ∨ w2.heap.size ≤ Lf)
    (hN : New w W) (hS : W.cell? ⟨w.heap.size, 0, none⟩ = some (I nodes) ∧ W.cell? ⟨w.heap.size, 1, none⟩ = some (.slice ao arcs.length c)) (hl : w.heap.size < lo) :
    Laid w nodes arcs ao c (.pointer (some ⟨b, 0, none⟩)) W := by
  obtain ⟨p, rfl, rfl, hst⟩ := st_made hW hk hm hn hb ht hf l0 l1 l2 l3 d1 d2 d3 o1 o2
  exact ⟨p, rfl, hst, Nat.le_of_lt hl, hN, hS.1, hS.2, hl⟩

/-- The tokens when the first k arcs have theirs. -/
def tokUp (arcs : List ArcD) (k : Nat) : List Int := (arcs.take k).map (·.start) ++ List.replicate (arcs.length - k) 0
theorem tokUp_set (arcs : List ArcD) (k : Nat) (hk : k < arcs.length) : (tokUp arcs k).set k arcs[k].start = tokUp arcs (k + 1) := by
  obtain ⟨m, hm⟩ : ∃ m, arcs.length - k = m + 1 := ⟨arcs.length - k - 1, by omega⟩
  have hm2 : arcs.length - (k + 1) = m := by omega
  have e1 : tokUp arcs (k + 1) = (arcs.take k).map (·.start) ++ (arcs[k].start :: List.replicate m 0) := by
    unfold tokUp
    rw [hm2, List.take_succ_eq_append_getElem hk, List.map_append, List.append_assoc]; rfl
  rw [e1]
  unfold tokUp
  rw [hm, List.replicate_succ, List.set_append_right _ _ (by simp; omega)]
  simp [Nat.min_eq_left (Nat.le_of_lt hk)]
theorem tokUp_zero (arcs : List ArcD) : tokUp arcs 0 = List.replicate arcs.length 0 := by simp [tokUp]
theorem tokUp_all (arcs : List ArcD) : tokUp arcs arcs.length = arcs.map (·.start) := by simp [tokUp]

set_option maxRecDepth 100000 in
set_option maxHeartbeats 4000000 in
theorem new_any (w : World) (nodes : Nat) (arcs : List ArcD) (ao : Option Addr) (c : Nat) (hs : Sound nodes arcs) (hx : SlAt w ao (arcsCells arcs)) :
    Calls Try.prog 14 #[.agg #[I nodes, .slice ao arcs.length c]] w fun e w' => ∃ p : StD, e = .returned (.tuple #[.pointer (some ⟨p.b, 0, none⟩), I 0]) ∧ St w' p nodes arcs (start arcs nodes) ∧ w.heap.size ≤ p.lo ∧ New w w' := by
  have hm := hs.m
  have hn := hs.n2
  have he : netErr nodes arcs = 0 := by
    unfold netErr
    rw [if_neg (by have := hs.n1; omega), if_neg (by omega)]
    refine arcsErr_zero (fun a ha => ?_)
    have h1 := hs.fr a ha
    have h2 := hs.dst a ha
    have h3 := hs.give a ha
    have h4 := hs.take a ha
    have h5 := hs.start a ha
    unfold arcErr
    rw [if_neg (by omega), if_neg (by omega), if_neg (by omega)]
  have hck : ∀ w1, New w w1 → Calls Try.prog 13 #[.agg #[I nodes, .slice ao arcs.length c]] w1 fun e w' => e = .returned (I 0) ∧ New w1 w' := by
    intro w1 h1
    have h := netCheck_any nodes ao c arcs w1 (hx.new h1) (by omega)
    rw [he] at h; exact h
  clear he
  have hmk1 := run_make_row' (P := Try.prog) 37 3 (.int .i64 0) 8 Try.underlying37 Try.infoInt rfl .i64 .i64 nodes (by omega) (by omega)
  have hmk2 := run_make_row' (P := Try.prog) 37 3 (.int .i64 0) 8 Try.underlying37 Try.infoInt rfl .i64 .i64 arcs.length (by omega) (by omega)
  go_enter Try.func14, Try.ntmps14
  go_wp2_with (go_at_call 13; refine (hck _ ((New.refl w).alloc _)).mono ?_; rintro e w1 ⟨rfl, hN1⟩)
  clear hck
  go_cut [5] (fun s w' => Laid w nodes arcs ao c s w')
  case first =>
    have q0 := hN1.cell (p := ⟨w.heap.size, 0, none⟩) (v := I nodes) (by simp)
    have q1 := hN1.cell (p := ⟨w.heap.size, 1, none⟩) (v := .slice ao arcs.length c) (by simp)
    have hx1 := hx.new ((New.refl w).alloc (.cells #[I nodes, .slice ao arcs.length c] 24) |>.trans hN1)
    have hS1 : w.heap.size < w1.heap.size := by have := hN1.size; simp at this; omega
    go_region_held3 (fun w' => w'.cell? ⟨w.heap.size, 0, none⟩ = some (I nodes) ∧ w'.cell? ⟨w.heap.size, 1, none⟩ = some (.slice ao arcs.length c) ∧ New w1 w')
      ((refine ⟨New.cell (w := w1) ?_ q0, New.cell (w := w1) ?_ q1, ?_⟩ <;> (repeat (first | exact New.refl w1 | refine New.drew ?_ | refine New.alloc ?_ _ | refine New.trans ?_ hN2))))
      ((go_at_call 32; refine (weave_any _ nodes arcs ao c hs (hx1.new (by repeat (first | exact New.refl w1 | refine New.drew ?_ | refine New.alloc ?_ _)))).mono ?_; rintro e w2 ⟨g, a9, c9, L1, L2, A1, N1, C1, A2, N2, C2, rfl, hW, hN2⟩))
    all_goals simp only [Exit.then]
    all_goals go_wp2
    all_goals
      have hsz := hN2.size
      simp at hsz
      have hB := hW.hB
      simp at hB
      have hmL : arcs.length ≤ maxLen := by unfold maxLen; omega
      have hnL : nodes ≤ maxLen := by unfold maxLen; omega
      rename_i hJ hH
      refine hJ _ _ ⟨_, _, _, _, _, _, _, _, _, _, _, _, _, _, _, _, _, _, _, _, _, _, _, _, _, _, _, _, _, _, _, _, ?_, rfl⟩
      have hNw : New w w1 := ((New.refl w).alloc _).trans hN1
      refine laid_made (lo := w1.heap.size) hW ?_ hmL hnL (hl_new _ _ _ (by simp)) ?_ ?_ ?_ ?_ ?_ ?_ ?_ ?_ ?_ ?_ ?_ (hNw.trans hH.2.2) ⟨hH.1, hH.2.1⟩ hS1
      · repeat (first | exact New.refl w2 | refine New.drew ?_ | refine New.alloc ?_ _)
      · repeat (first | exact hl_new _ _ _ (by simp) | refine hl_old ?_ | refine Keeps.heap hN2 ?_ (fun h => h) | refine hl_drew ?_)
      · repeat (first | exact hl_new _ _ _ (by simp) | refine hl_old ?_ | refine Keeps.heap hN2 ?_ (fun h => h) | refine hl_drew ?_)
      all_goals first | omega | (simp; done) | (simp; omega)
  case rest =>
    obtain ⟨p, rfl, hst, hlo, hN, q0, q1, hlo2⟩ := hcut
    rw [← tokUp_zero] at hst
    clear hmk1 hmk2 q0 hlo2
    go_wp2
    go_loopw [27] (fun i wr => ∃ k : Nat, k ≤ arcs.length ∧ i = .int .i64 k ∧ St wr p nodes arcs ⟨tokUp arcs k, List.replicate nodes 0⟩ ∧ New w wr) (fun i _ => arcs.length - (intOf i).toNat)
    case atStart => exact ⟨0, Nat.zero_le _, rfl, hst, hN⟩
    case round =>
      clear hst hN q1
      obtain ⟨k, hk, rfl, hst, hN⟩ := hrel
      by_cases hk1 : k < arcs.length
      · obtain ⟨b, off, rfl, q0, q1, q2, q3, q4⟩ := arcs_at (hx.new hN) hk1
        have hset := tokUp_set arcs k hk1
        have HSET := Lib.hid hset
        clear hset
        generalize hxk : arcs[k] = x at q0 q1 q2 q3 q4 HSET
        clear hxk
        go_wp2
        have hNl : New wr (wr.alloc (.cells #[.int .i64 x.fr, .int .i64 x.dst, .int .i64 x.give, .int .i64 x.take, .int .i64 x.start] 36)) := (New.refl wr).alloc _
        have p4 : (wr.alloc (.cells #[.int .i64 x.fr, .int .i64 x.dst, .int .i64 x.give, .int .i64 x.take, .int .i64 x.start] 36)).cell? ⟨wr.heap.size, 4, none⟩ = some (.int .i64 x.start) := by simp
        have hst5 := hst.new hNl
        have hN5 := hN.trans hNl
        clear hst q0 q1 q2 q3 q4
        generalize wr.alloc (.cells #[.int .i64 x.fr, .int .i64 x.dst, .int .i64 x.give, .int .i64 x.take, .int .i64 x.start] 36) = W5 at p4 hst5 hN5
        clear hNl hN
        have c3 := hst5.c3
        have ht := hst5.tok hk1
        have hfz := hst5.ht.frozenAt k
        have hnx := hst5.storeT k x.start
        simp only at hnx
        rw [HSET.out] at hnx
        have hbt : w.heap.size ≤ p.bt := Nat.le_trans hlo hst5.rt.1
        have hN6 := hN5.keeps hnx.2 (fun i hi e => by omega)
        have HX := Lib.hid hnx.1
        have hk0 : (k : Int) < (arcs.length : Int) := by omega
        clear hnx
        simp only at ht
        generalize (tokUp arcs k).getD k 0 = tv at ht
        go_region
        go_wp2
        go_roundw
        case rel => exact ⟨k + 1, by omega, by go_num, HX.out.new (Keeps.drew _), hN6.drew⟩
        case measure => simp [intOf]; omega
      · obtain rfl : k = arcs.length := by omega
        rw [tokUp_all] at hst
        go_wp2
        go_ret2
        exact ⟨p, rfl, hst, hlo, hN⟩
end Go.Proofs.Ytijlgcbnoekmeaa
