/-
  The document's whole numbers: Of, Plus, Negative, Times ten.
-/
import Derived.Test.YtmmoocbnmjmfeaaDoorWhA
namespace Go.Proofs.YtmmoocbnmjmfeaaDoor
open Go Go.RowKit Go.Joins
set_option linter.all false

/-- A whole number in memory: its sign, its digits. -/
def WhRes (w : World) (b : Bool) (v : Nat) (e : Ending) (w' : World) : Prop :=
  ∃ a c, e = .returned (.agg #[.bool b, .slice a (nd v) c]) ∧ New w w' ∧ SlAt w' a (Is (dgs v)) ∧ Rm (nd v) c
theorem wh_new (w : World) (x y : Value) : (w.alloc (.cells #[x, y] 64)).heap[w.heap.size]? = some (.cells #[x, y] 64 (0, 0)) := heap_alloc_new w _
theorem rm_own {w : World} {B n c : Nat} {a : Option Addr} {xs : List Value} (h : w.ownsRow B 3 1 (.slice a n c) n xs) : Rm n c := by
  rcases h.2 with ⟨h0, h9⟩ | ⟨gg, cap, cur, hg, hb, _, h5, h6, _⟩
  · obtain ⟨_, e1, e2⟩ := Value.slice.inj h0
    unfold Rm; constructor <;> omega
  · cases hg
    exact ⟨h5, by unfold maxLen at h6; omega⟩
/-- How far Of has come. -/
def OfSt (n k : Int) (i : Nat) : Prop := k.natAbs = hiD n.natAbs i ∧ -9223372036854775808 ≤ k ∧ k ≤ 9223372036854775807
theorem OfSt.step {n k : Int} {i : Nat} (h : OfSt n k i) : OfSt n (k.tdiv 1073741824) (i + 1) ∧ (k.tmod 1073741824).natAbs = dig n.natAbs i := by
  have hq : (k.tdiv 1073741824).natAbs = k.natAbs / 1073741824 := by rw [Int.natAbs_tdiv]; rfl
  have hr : (k.tmod 1073741824).natAbs = k.natAbs % 1073741824 := by rw [Int.natAbs_tmod]; rfl
  obtain ⟨h1, h2, h3⟩ := h
  refine ⟨⟨by rw [hq, h1, hiD_succ], ?_⟩, by rw [hr, h1]; rfl⟩
  omega
set_option maxRecDepth 100000 in
set_option maxHeartbeats 8000000 in
theorem of_any (w : World) (n : Int) (h0 : -9223372036854775808 ≤ n) (h1 : n ≤ 9223372036854775807) :
    Calls Tryd.prog 44 #[I n] w (WhRes w (decide (n < 0)) n.natAbs) := by
  obtain ⟨i0, hi0, hz0, hz1, hz2⟩ := info_parts infoInt'
  obtain ⟨PO, hPO⟩ : ∃ PO, PO = WhRes w (decide (n < 0)) n.natAbs := ⟨_, rfl⟩
  rw [← hPO]
  have HPO := Lib.hid hPO
  obtain ⟨bl, hbl⟩ : ∃ b, decide (n < 0) = b := ⟨_, rfl⟩
  have HBL := Lib.hid hbl
  have hv : n.natAbs < whTop := by unfold whTop; omega
  have HV := Lib.hid hv
  have hnil : w.ownsRow w.heap.size 3 1 (.slice none 0 0) 0 (Is (dgl n.natAbs 0)) := World.ownsRow_nil _ _ _ _
  have hst : OfSt n n 0 := ⟨by rw [hiD_zero], h0, h1⟩
  have HST0 := Lib.hid hst
  have hn4 : n.natAbs < 1237940039285380274899124224 := by omega
  have HN4 := Lib.hid hn4
  clear hPO hv hst hn4
  go_enter Tryd.func44, Tryd.ntmps44
  go_wp2_with fail
  go_loopw [0] (fun x wr => ∃ (k : Int) (i : Nat) (ao : Option Addr) (co : Nat), x = I k ∧ i ≤ 3 ∧ Hid (OfSt n k i) ∧ Hid (wr.ownsRow w.heap.size 3 1 (.slice ao i co) i (Is (dgl n.natAbs i))) ∧ Hid (i = 0 ∨ dig n.natAbs (i - 1) ≠ 0 ∨ k ≠ 0) ∧ New w wr ∧
    Hid (wr.heap[w.heap.size]? = some (.cells #[.bool false, .slice none 0 0] 64 (0, 0))) ∧ Hid (wr.heap[w.heap.size + 1]? = some (.cells #[.bool bl, .slice ao i co] 64 (0, 0)))) (fun x _ => (intOf x).natAbs)
  case atStart =>
    refine ⟨n, 0, none, 0, rfl, by omega, HST0, Lib.hid ?_, Lib.hid (Or.inl rfl), ((New.refl w).alloc _).alloc _, Lib.hid ?_, Lib.hid ?_⟩
    · exact New.owns (((New.refl w).alloc _).alloc _) hnil
    · exact Keeps.heap (Keeps.alloc (S := fun _ => False) _ _) (wh_new w _ _) (fun h => h)
    · have h := wh_new (w.alloc (.cells #[.bool false, .slice none 0 0] 64)) (.bool bl) (.slice none 0 0)
      have e : (w.alloc (.cells #[.bool false, .slice none 0 0] 64)).heap.size = w.heap.size + 1 := by simp
      rw [e] at h
      exact h
  case round =>
    clear hnil HST0
    obtain ⟨k, i, ao, co, rfl, hi, HST, HO, HL, hN, HR, HT⟩ := hrel
    obtain ⟨r0, r1, f0, f1, hr⟩ := wh_cells HR.out
    obtain ⟨u0, u1, g0, g1, hu⟩ := wh_cells HT.out
    have hsz := hN.size
    by_cases hk : k = 0
    · subst hk
      have hz : hiD n.natAbs i = 0 := by rw [← HST.out.1]; rfl
      have hnd : i = nd n.natAbs := nd_of HN4.out hz (HL.out.elim Or.inl (fun h => h.elim Or.inr (fun h => absurd rfl h)))
      obtain ⟨hst, kst⟩ := wh_stored HR.out (.bool bl) (.slice ao i co)
      obtain ⟨q0, q1, y0, y1, hq⟩ := wh_cells hst
      have hfin : WhRes w bl n.natAbs (.returned (.agg #[.bool bl, .slice ao i co])) ((wr.setCell ⟨w.heap.size, 0, none⟩ (.bool bl)).setCell ⟨w.heap.size, 1, none⟩ (.slice ao i co)) := by
        have ho := lx_oth HO.out kst (fun g hg => ⟨_, _, _, hg ▸ HR.out, by decide⟩)
        refine ⟨ao, co, by rw [hnd], New.keeps hN kst (fun i hi hx => by omega), ?_, by rw [← hnd]; exact rm_own HO.out⟩
        unfold dgs
        rw [← hnd]
        exact SlAt.of_owns ho
      rw [← HBL.out, ← HPO.out] at hfin
      rw [HBL.out] at hfin
      have HFIN := Lib.hid hfin
      clear hst kst hz hnd hfin HL HST
      go_wp2_with fail
      refine bodyPost_ret (v := .agg #[.bool bl, .slice ao i co]) (by simp [results, Tryd.results44, go_sem, q0, q1, y0, y1, hq]) rfl ?_
      exact HFIN.out
    · obtain ⟨hst2, hdg⟩ := HST.out.step
      have hlt := dig_lt n.natAbs i
      obtain ⟨q, hq⟩ : ∃ q : Int, k.tdiv 1073741824 = q := ⟨_, rfl⟩
      obtain ⟨x, hx⟩ : ∃ x : Int, k.tmod 1073741824 = x := ⟨_, rfl⟩
      rw [hq] at hst2
      rw [hx] at hdg
      have hqb := hst2.2
      have hi3 : i < 3 := by
        rcases Nat.lt_or_ge i 3 with h | h
        · exact h
        · have e := hiD_zeros (v := n.natAbs) (j := 3) (by rw [hiD_three]; omega) (i - 3)
          rw [show 3 + (i - 3) = i by omega, ← HST.out.1] at e
          exact absurd (by omega) hk
      have hk0 : (k == 0) = false := by simpa using hk
      have q3 : IntKind.i64.wrap q = q := IntWalk.i64_in _ (by omega)
      have q4 : IntKind.i64.wrap x = x := IntWalk.i64_in _ (by omega)
      obtain ⟨p, hp⟩ : ∃ p : Nat, dig n.natAbs i = p := ⟨_, rfl⟩
      have HO2 : Hid (Is (dgl n.natAbs (i + 1)) = Is (dgl n.natAbs i) ++ [I (p : Int)]) := Lib.hid (by rw [dgl_succ, hp]; unfold Is; rw [List.map_append]; rfl)
      have HLT : Hid (q.natAbs < k.natAbs) := Lib.hid (by
        have : (k.tdiv 1073741824).natAbs = k.natAbs / 1073741824 := by rw [Int.natAbs_tdiv]; rfl
        rw [← hq, this]; omega)
      have HL2 : Hid (i + 1 = 0 ∨ dig n.natAbs (i + 1 - 1) ≠ 0 ∨ q ≠ 0) := Lib.hid (by
        refine Or.inr ?_
        by_cases hd : dig n.natAbs i = 0
        · right
          intro hq0
          have e1 := hst2.1
          rw [hq0] at e1
          have e2 := hiD_eq n.natAbs i
          rw [← e1, hd, ← HST.out.1] at e2
          simp at e2
          exact hk e2
        · exact Or.inl (by simpa using hd))
      have HST2 := Lib.hid hst2
      rw [hp] at hdg hlt
      have ka : New wr (wr.alloc (.cells #[I (p : Int)] 3)) := (New.refl wr).alloc _
      have hbase : w.heap.size ≤ (wr.alloc (.cells #[I (p : Int)] 3)).heap.size := Nat.le_trans hsz ka.size
      clear hst2 hqb hp hk HL HST
      by_cases hneg : x < 0
      · have hxp : IntKind.i64.wrap (-x) = (p : Int) := by rw [IntWalk.i64_in _ (by omega)]; omega
        have dx : decide (x < 0) = true := decide_eq_true hneg
        clear hdg
        go_wp2_with (at_builtin; refine wpList_app rfl _ _ 62 rfl w.heap.size 3 i0 (.int .i64 0) 1 8 Tryd.underlying62 hi0 hz0 hz1 hz2 rfl (by decide) ao i co (Is (dgl n.natAbs i)) rfl ?own _ 1 1 [I (p : Int)] rfl rfl ?lit ?one ?c1 ?c2 ?c3 ?_)
        case own => exact ka.owns HO.out
        case lit => exact SlAt.lit _ _ _
        case one => first | exact oneCell_ints .i64 [(p : Int)] | rfl
        case c1 => unfold maxLen; omega
        case c2 => omega
        case c3 => first | exact hbase | (have h := hbase; simp at h ⊢; omega)
        intro a2 c2 w2' hown hk _ _
        have hneR : ¬ blk ao w.heap.size := fun hb => by
          obtain ⟨cur, hc⟩ := lx_tag HO.out (lx_own hb)
          rw [HR.out] at hc; simp at hc
        have hneT : ¬ blk ao (w.heap.size + 1) := fun hb => by
          obtain ⟨cur, hc⟩ := lx_tag HO.out (lx_own hb)
          rw [HT.out] at hc; simp at hc
        have hR2 := hk.heap (Keeps.heap ka HR.out (fun h => h)) hneR
        have hT2 := hk.heap (Keeps.heap ka HT.out (fun h => h)) hneT
        obtain ⟨u0', u1', g0', g1', hu'⟩ := wh_cells hT2
        have ks : Keeps (fun k => k = w.heap.size + 1) w2' (w2'.setCell ⟨w.heap.size + 1, 1, none⟩ (.slice a2 (i + 1) c2)) := Keeps.setCell w2' _ _ rfl
        have hN2 : New w w2' := New.keeps (hN.trans ka) hk (fun k hk hx => by have := (own_of_blk HO.out hx).1; omega)
        have hN3 : New w (w2'.setCell ⟨w.heap.size + 1, 1, none⟩ (.slice a2 (i + 1) c2)) := New.keeps hN2 ks (fun k hk hx => by omega)
        have HO3 : Hid ((w2'.setCell ⟨w.heap.size + 1, 1, none⟩ (.slice a2 (i + 1) c2)).ownsRow w.heap.size 3 1 (.slice a2 (i + 1) c2) (i + 1) (Is (dgl n.natAbs (i + 1)))) := Lib.hid (by
          have := lx_oth hown ks (fun g hg => ⟨_, _, _, hg ▸ hT2, by decide⟩)
          rw [HO2.out]; exact this)
        have HR3 : Hid ((w2'.setCell ⟨w.heap.size + 1, 1, none⟩ (.slice a2 (i + 1) c2)).heap[w.heap.size]? = some (.cells #[.bool false, .slice none 0 0] 64 (0, 0))) := Lib.hid (ks.heap hR2 (by omega))
        have HT3 : Hid ((w2'.setCell ⟨w.heap.size + 1, 1, none⟩ (.slice a2 (i + 1) c2)).heap[w.heap.size + 1]? = some (.cells #[.bool bl, .slice a2 (i + 1) c2] 64 (0, 0))) := Lib.hid (by rw [block_setCell hT2]; simp)
        have HN3 := Lib.hid hN3
        clear hown hk hN ka hR2 hT2 ks hN2 hN3 hneR hneT r0 r1 f0 f1 hr u0 u1 g0 g1 hu
        go_wp2_with fail
        go_roundw
        case rel => exact ⟨q, i + 1, a2, c2, by first | rfl | trivial, by omega, HST2, HO3, HL2, HN3.out, HR3, HT3⟩
        case measure => simp only [intOf]; exact HLT.out
      · have hxp : x = (p : Int) := by omega
        rw [hxp] at hx q4
        have dx : decide ((p : Int) < 0) = false := decide_eq_false (by omega)
        clear hxp hneg
        clear hdg
        go_wp2_with (at_builtin; refine wpList_app rfl _ _ 62 rfl w.heap.size 3 i0 (.int .i64 0) 1 8 Tryd.underlying62 hi0 hz0 hz1 hz2 rfl (by decide) ao i co (Is (dgl n.natAbs i)) rfl ?own _ 1 1 [I (p : Int)] rfl rfl ?lit ?one ?c1 ?c2 ?c3 ?_)
        case own => exact ka.owns HO.out
        case lit => exact SlAt.lit _ _ _
        case one => first | exact oneCell_ints .i64 [(p : Int)] | rfl
        case c1 => unfold maxLen; omega
        case c2 => omega
        case c3 => first | exact hbase | (have h := hbase; simp at h ⊢; omega)
        intro a2 c2 w2' hown hk _ _
        have hneR : ¬ blk ao w.heap.size := fun hb => by
          obtain ⟨cur, hc⟩ := lx_tag HO.out (lx_own hb)
          rw [HR.out] at hc; simp at hc
        have hneT : ¬ blk ao (w.heap.size + 1) := fun hb => by
          obtain ⟨cur, hc⟩ := lx_tag HO.out (lx_own hb)
          rw [HT.out] at hc; simp at hc
        have hR2 := hk.heap (Keeps.heap ka HR.out (fun h => h)) hneR
        have hT2 := hk.heap (Keeps.heap ka HT.out (fun h => h)) hneT
        obtain ⟨u0', u1', g0', g1', hu'⟩ := wh_cells hT2
        have ks : Keeps (fun k => k = w.heap.size + 1) w2' (w2'.setCell ⟨w.heap.size + 1, 1, none⟩ (.slice a2 (i + 1) c2)) := Keeps.setCell w2' _ _ rfl
        have hN2 : New w w2' := New.keeps (hN.trans ka) hk (fun k hk hx => by have := (own_of_blk HO.out hx).1; omega)
        have hN3 : New w (w2'.setCell ⟨w.heap.size + 1, 1, none⟩ (.slice a2 (i + 1) c2)) := New.keeps hN2 ks (fun k hk hx => by omega)
        have HO3 : Hid ((w2'.setCell ⟨w.heap.size + 1, 1, none⟩ (.slice a2 (i + 1) c2)).ownsRow w.heap.size 3 1 (.slice a2 (i + 1) c2) (i + 1) (Is (dgl n.natAbs (i + 1)))) := Lib.hid (by
          have := lx_oth hown ks (fun g hg => ⟨_, _, _, hg ▸ hT2, by decide⟩)
          rw [HO2.out]; exact this)
        have HR3 : Hid ((w2'.setCell ⟨w.heap.size + 1, 1, none⟩ (.slice a2 (i + 1) c2)).heap[w.heap.size]? = some (.cells #[.bool false, .slice none 0 0] 64 (0, 0))) := Lib.hid (ks.heap hR2 (by omega))
        have HT3 : Hid ((w2'.setCell ⟨w.heap.size + 1, 1, none⟩ (.slice a2 (i + 1) c2)).heap[w.heap.size + 1]? = some (.cells #[.bool bl, .slice a2 (i + 1) c2] 64 (0, 0))) := Lib.hid (by rw [block_setCell hT2]; simp)
        have HN3 := Lib.hid hN3
        clear hown hk hN ka hR2 hT2 ks hN2 hN3 hneR hneT r0 r1 f0 f1 hr u0 u1 g0 g1 hu
        go_wp2_with fail
        go_roundw
        case rel => exact ⟨q, i + 1, a2, c2, by first | rfl | trivial, by omega, HST2, HO3, HL2, HN3.out, HR3, HT3⟩
        case measure => simp only [intOf]; exact HLT.out
set_option maxRecDepth 100000 in
set_option maxHeartbeats 4000000 in
theorem negw_any (w : World) (v : Nat) (a : Option Addr) (c : Nat) (hs : SlAt w a (Is (dgs v))) (hc : Rm (nd v) c) (hv : 0 < nd v) :
    Calls Tryd.prog 45 #[.agg #[.bool false, .slice a (nd v) c]] w (WhRes w true v) := by
  obtain ⟨PO, hPO⟩ : ∃ PO, PO = WhRes w true v := ⟨_, rfl⟩
  rw [← hPO]
  have HPO := Lib.hid hPO
  obtain ⟨n, hn⟩ : ∃ n, nd v = n := ⟨_, rfl⟩
  have HN := Lib.hid hn
  have HS := Lib.hid hs
  have HC := Lib.hid hc
  rw [hn] at hv ⊢
  have hn3 := nd_le v
  rw [hn] at hn3
  have hnI : (0 : Int) < (n : Int) := by omega
  clear hPO hn hs hc
  go_enter Tryd.func45, Tryd.ntmps45
  go_wp2_with fail
  refine bodyPost_ret (v := .agg #[.bool true, .slice a n c]) (by simp [results, Tryd.results45, go_sem]) rfl ?_
  rw [HPO.out]
  refine ⟨a, c, by rw [HN.out], ((New.refl w).alloc _).alloc _, HS.out.new (((New.refl w).alloc _).alloc _), HC.out⟩
end Go.Proofs.YtmmoocbnmjmfeaaDoor
