/-
  The document's whole numbers: trim, add, Plus, Of.
-/
import Derived.Test.YtmmoocbnmjmfeaaDoorWhP
namespace Go.Proofs.YtmmoocbnmjmfeaaDoor
open Go Go.RowKit Go.Joins
set_option linter.all false

theorem is_len (l : List Int) : (Is l).length = l.length := by unfold Is; rw [List.length_map]
theorem is_at {w : World} {ao : Option Addr} {v n : Nat} (h : SlAt w ao (Is (dgl v n))) {j : Nat} (hj : j < n) : ∃ b off, ao = some ⟨b, off, none⟩ ∧ w.cell? ⟨b, off + j, none⟩ = some (I (dig v j : Nat)) := by
  obtain ⟨b, off, e, hc⟩ := h.at (i := j) (by rw [is_len, dgl_len]; exact hj)
  refine ⟨b, off, e, ?_⟩
  rw [hc]
  have := dgl_get v n j hj
  have hl : j < (dgl v n).length := by rw [dgl_len]; exact hj
  rw [List.getElem?_eq_getElem hl] at this
  simp only [Option.some.injEq] at this
  unfold Is
  rw [List.getElem_map, this]
theorem wh_stored {w : World} {R : Nat} {x y : Value} (h : w.heap[R]? = some (.cells #[x, y] 64 (0, 0))) (u v : Value) :
    ((w.setCell ⟨R, 0, none⟩ u).setCell ⟨R, 1, none⟩ v).heap[R]? = some (.cells #[u, v] 64 (0, 0)) ∧ Keeps (fun k => k = R) w ((w.setCell ⟨R, 0, none⟩ u).setCell ⟨R, 1, none⟩ v) := by
  have h1 := block_setCell (i := 0) h u
  have h2 := block_setCell (i := 1) h1 v
  refine ⟨by rw [h2]; simp, (Keeps.setCell (S := fun k => k = R) w _ _ rfl).trans (Keeps.setCell (S := fun k => k = R) _ _ _ rfl) (fun _ _ h => h)⟩
theorem wh_cells {w : World} {R : Nat} {x y : Value} (h : w.heap[R]? = some (.cells #[x, y] 64 (0, 0))) :
    w.cell? ⟨R, 0, none⟩ = some x ∧ w.cell? ⟨R, 1, none⟩ = some y ∧ w.frozen? ⟨R, 0, none⟩ = false ∧ w.frozen? ⟨R, 1, none⟩ = false ∧ R < w.heap.size := by
  refine ⟨?_, ?_, unfrozen_of_block h 0, unfrozen_of_block h 1, (Array.getElem?_eq_some_iff.1 h).1⟩
  · rw [cell_of_block h 0]; simp
  · rw [cell_of_block h 1]; simp
theorem infoInt' : (Tryd.prog.info? 3).map (fun i => (i.zero, i.size, i.bytes)) = some (some (.int .i64 0), 1, 8) := by kernel_rfl
def whTop : Nat := 1237940039285380274899124224
/-- A slice's room. -/
def Rm (n c : Nat) : Prop := n ≤ c ∧ (c : Int) ≤ 9223372036854775807

set_option maxRecDepth 100000 in
set_option maxHeartbeats 4000000 in
theorem trim_any (w : World) (a : Option Addr) (c v n : Nat) (hsl : SlAt w a (Is (dgl v n))) (h0 : hiD v n = 0) (hv : v < whTop) (hn : n ≤ 10) (hc : Rm n c) :
    Calls Tryd.prog 53 #[.slice a n c] w fun e w' => e = .returned (.slice a (nd v) c) ∧ New w w' := by
  have HS := Lib.hid hsl
  have H0 := Lib.hid h0
  have HV := Lib.hid hv
  obtain ⟨hc1, hc2⟩ := hc
  clear hsl h0 hv
  go_enter Tryd.func53, Tryd.ntmps53
  go_wp2_with fail
  go_loopw [3] (fun x wr => ∃ m : Nat, m ≤ n ∧ x = .int .i64 m ∧ Hid (hiD v m = 0) ∧ New w wr) (fun x _ => (intOf x).toNat)
  case atStart => exact ⟨n, Nat.le_refl _, rfl, H0, New.refl _⟩
  case round =>
    obtain ⟨m, hm, rfl, HM, hN⟩ := hrel
    cases m with
    | zero =>
      have HD : Hid (nd v = 0) := Lib.hid (nd_of HV.out HM.out (Or.inl rfl)).symm
      go_wp2_with fail
      go_ret
      exact ⟨by rw [HD.out]; rfl, hN⟩
    | succ p =>
      obtain ⟨b, off, e, q⟩ := is_at HS.out (j := p) (by omega)
      replace q := New.cell hN q
      subst e
      have hb : b < wr.heap.size := World.block_lt_of_cell? wr _ q
      have hlt := dig_lt v p
      have hpI : (p : Int) < (n : Int) := by omega
      have hp1 : (0 : Int) < (p : Int) + 1 := by omega
      have hw : IntKind.i64.wrap ((p : Int) + 1 - 1) = (p : Int) := by rw [IntWalk.i64_in _ (by omega)]; omega
      have hpn : (p : Int) + 1 ≤ (c : Int) := by omega
      by_cases hz : dig v p = 0
      · have HZ : Hid (hiD v p = 0) := Lib.hid (by rw [hiD_eq, HM.out, hz])
        rw [hz] at q
        have q' : wr.cell? ⟨b, off + p, none⟩ = some (I 0) := q
        clear q hz hlt
        go_wp2_with fail
        go_roundw
        case rel => exact ⟨p, by omega, by first | rfl | (congr 1; omega), HZ, hN⟩
        case measure => simp [intOf]; try omega
      · have HD : Hid (nd v = p + 1) := Lib.hid (nd_of HV.out HM.out (Or.inr (by simpa using hz))).symm
        obtain ⟨x, hx⟩ : ∃ x : Int, ((dig v p : Nat) : Int) = x := ⟨_, rfl⟩
        have hxz : (x == 0) = false := by rw [← hx]; simpa using fun h : dig v p = 0 => hz h
        rw [hx] at q
        clear hz hlt hx
        go_wp2_with fail
        go_ret
        exact ⟨by rw [HD.out]; rfl, hN⟩
set_option maxRecDepth 100000 in
set_option maxHeartbeats 8000000 in
theorem add_any (w : World) (a b : Option Addr) (c d x y : Nat) (hx : SlAt w a (Is (dgs x))) (hy : SlAt w b (Is (dgs y))) (hxy : x + y < whTop) :
    Calls Tryd.prog 50 #[.slice a (nd x) c, .slice b (nd y) d] w fun e w' => ∃ a' c', e = .returned (.slice a' (nd (x + y)) c') ∧ New w w' ∧ SlAt w' a' (Is (dgs (x + y))) ∧ (∀ k, blk a' k → w.heap.size ≤ k) ∧ Rm (nd (x + y)) c' := by
  obtain ⟨i0, hi0, hz0, hz1, hz2⟩ := info_parts infoInt'
  have hnx := nd_le x
  have hny := nd_le y
  have hnil : w.ownsRow w.heap.size 3 1 (.slice none 0 0) 0 (Is (dgl (x + y) 0)) := World.ownsRow_nil _ _ _ _
  obtain ⟨nx, ex⟩ : ∃ n, nd x = n := ⟨_, rfl⟩
  obtain ⟨ny, ey⟩ : ∃ n, nd y = n := ⟨_, rfl⟩
  have hxt : ∀ j, nx ≤ j → hiD x j = 0 ∧ dig x j = 0 := fun j hj => dig_nd (by unfold whTop at hxy; omega) (by omega)
  have hyt : ∀ j, ny ≤ j → hiD y j = 0 ∧ dig y j = 0 := fun j hj => dig_nd (by unfold whTop at hxy; omega) (by omega)
  have HXT := Lib.hid hxt
  have HYT := Lib.hid hyt
  unfold dgs at hx hy
  rw [ex] at hx hnx ⊢
  rw [ey] at hy hny ⊢
  have HX := Lib.hid hx
  have HY := Lib.hid hy
  have HXY := Lib.hid hxy
  clear hx hy hxy hxt hyt ex ey
  go_enter Tryd.func50, Tryd.ntmps50
  go_wp2_with fail
  go_loopw [5, 6, 7] (fun o k i wr => ∃ (j cc : Nat) (ao : Option Addr) (co : Nat), j ≤ 4 ∧ i = .int .i64 j ∧ k = .int .i64 cc ∧ o = .slice ao j co ∧ cc ≤ 1 ∧ Hid (SumSt x y j cc) ∧ Hid (wr.ownsRow w.heap.size 3 1 (.slice ao j co) j (Is (dgl (x + y) j))) ∧ New w wr) (fun _ _ i _ => 5 - (intOf i).toNat)
  case atStart => exact ⟨0, 0, none, 0, by omega, rfl, rfl, rfl, by omega, Lib.hid (SumSt.zero x y), Lib.hid hnil, New.refl _⟩
  case round =>
    clear hnil
    obtain ⟨j, cc, ao, co, hj, rfl, rfl, rfl, hcc, HST, HO, hN⟩ := hrel
    have hsz := hN.size
    have hstop : nx ≤ j → ny ≤ j → 3 ≤ j → cc = 0 := fun h1 h2 h3 => by
      have e1 := (HXT.out j h1).1
      have e2 := (HYT.out j h2).1
      have e3 := HST.out.1
      have e4 : hiD (x + y) 3 = 0 := by rw [hiD_three]; have := HXY.out; unfold whTop at this; omega
      have e5 := hiD_zeros e4 (j - 3)
      rw [show 3 + (j - 3) = j by omega, e3, e1, e2] at e5
      omega
    have hdx := dig_lt x j
    have hdy := dig_lt y j
    obtain ⟨s, hs⟩ : ∃ s, cc + dig x j + dig y j = s := ⟨_, rfl⟩
    obtain ⟨hp, hst2⟩ := HST.out.step hs.symm
    have HO2 : Hid (Is (dgl (x + y) (j + 1)) = Is (dgl (x + y) j) ++ [I ((s % 1073741824 : Nat) : Int)]) := Lib.hid (by rw [dgl_succ, ← hp]; unfold Is; rw [List.map_append]; rfl)
    have HST2 := Lib.hid hst2
    have hs2 : s / 1073741824 ≤ 1 := hst2.2
    have hp30 : s % 1073741824 < 1073741824 := Nat.mod_lt _ (by omega)
    have t1 : (s : Int).tmod 1073741824 = ((s % 1073741824 : Nat) : Int) := by rw [Int.tmod_eq_emod_of_nonneg (by omega)]; omega
    have t2 : (s : Int).tdiv 1073741824 = ((s / 1073741824 : Nat) : Int) := by rw [Int.tdiv_eq_ediv_of_nonneg (by omega)]; omega
    obtain ⟨p, hpp⟩ : ∃ p : Nat, s % 1073741824 = p := ⟨_, rfl⟩
    obtain ⟨q, hqq⟩ : ∃ q : Nat, s / 1073741824 = q := ⟨_, rfl⟩
    rw [hpp] at t1 HO2 hp30
    rw [hqq] at t2 HST2 hs2
    have w1 : IntKind.i64.wrap (p : Int) = (p : Int) := IntWalk.i64_in _ (by omega)
    have w2 : IntKind.i64.wrap (q : Int) = (q : Int) := IntWalk.i64_in _ (by omega)
    have ka : New wr (wr.alloc (.cells #[I (p : Int)] 3)) := (New.refl wr).alloc _
    clear hp hst2 hpp hqq
    have hdd : (j < nx ∧ j < ny) ∨ (j < nx ∧ ¬ j < ny) ∨ (¬ j < nx ∧ j < ny) ∨ (¬ j < nx ∧ ¬ j < ny ∧ 0 < cc) ∨ (¬ j < nx ∧ ¬ j < ny ∧ cc = 0) := by omega
    rcases hdd with ⟨h1, h2⟩ | ⟨h1, h2⟩ | ⟨h1, h2⟩ | ⟨h1, h2, h3⟩ | ⟨h1, h2, h3⟩
    · have hj3 : j < 3 := by omega
      obtain ⟨b1, o1, e1, q1⟩ := is_at HX.out (j := j) h1
      replace q1 := New.cell hN q1
      subst e1
      have l1 : b1 < wr.heap.size := World.block_lt_of_cell? wr _ q1
      have i1 : (j : Int) < (nx : Int) := by omega
      obtain ⟨b2, o2, e2, q2⟩ := is_at HY.out (j := j) h2
      replace q2 := New.cell hN q2
      subst e2
      have l2 : b2 < wr.heap.size := World.block_lt_of_cell? wr _ q2
      have i2 : (j : Int) < (ny : Int) := by omega
      obtain ⟨s1, hs1⟩ : ∃ s1 : Nat, cc + dig x j = s1 := ⟨_, rfl⟩
      have w3 : IntKind.i64.wrap ((cc : Int) + ((dig x j : Nat) : Int)) = (s1 : Int) := by rw [IntWalk.i64_in _ (by omega)]; omega
      have w4 : IntKind.i64.wrap ((s1 : Int) + ((dig y j : Nat) : Int)) = (s : Int) := by rw [IntWalk.i64_in _ (by omega)]; omega
      generalize dig x j = dx at q1 w3 hdx
      generalize dig y j = dy at q2 w4 hdy
      clear hs hs1 hdx hdy
      clear hstop
      go_wp2_with (at_builtin; refine wpList_app rfl _ _ 62 rfl w.heap.size 3 i0 (.int .i64 0) 1 8 Tryd.underlying62 hi0 hz0 hz1 hz2 rfl (by decide) ao j co (Is (dgl (x + y) j)) rfl (ka.owns HO.out) _ 1 1 [I (p : Int)] rfl rfl (SlAt.lit _ _ _) (oneCell_ints .i64 [(p : Int)]) (by unfold maxLen; omega) (by omega) (Nat.le_trans hsz ka.size) ?_)
      intro a2 c2 w2' hown hk _ _
      have hN2 : New w w2' := New.keeps (hN.trans ka) hk (fun k hk hx => by have := (own_of_blk HO.out hx).1; omega)
      have HO3 : Hid (w2'.ownsRow w.heap.size 3 1 (.slice a2 (j + 1) c2) (j + 1) (Is (dgl (x + y) (j + 1)))) := Lib.hid (by rw [HO2.out]; exact hown)
      clear hown hk hN ka
      go_wp2_with fail
      go_roundw
      case rel => exact ⟨j + 1, q, a2, c2, by omega, by go_num, by rfl, by rfl, hs2, HST2, HO3, hN2⟩
      case measure => simp [intOf]; omega
    · have hj3 : j < 3 := by omega
      obtain ⟨b1, o1, e1, q1⟩ := is_at HX.out (j := j) h1
      replace q1 := New.cell hN q1
      subst e1
      have l1 : b1 < wr.heap.size := World.block_lt_of_cell? wr _ q1
      have i1 : (j : Int) < (nx : Int) := by omega
      have i2 : ¬ (j : Int) < (ny : Int) := by omega
      have z2 := (HYT.out j (by omega)).2
      have w3 : IntKind.i64.wrap ((cc : Int) + ((dig x j : Nat) : Int)) = (s : Int) := by rw [IntWalk.i64_in _ (by omega)]; omega
      clear hs z2
      generalize dig x j = dx at q1 w3
      clear hdx hdy
      clear hstop
      go_wp2_with (at_builtin; refine wpList_app rfl _ _ 62 rfl w.heap.size 3 i0 (.int .i64 0) 1 8 Tryd.underlying62 hi0 hz0 hz1 hz2 rfl (by decide) ao j co (Is (dgl (x + y) j)) rfl (ka.owns HO.out) _ 1 1 [I (p : Int)] rfl rfl (SlAt.lit _ _ _) (oneCell_ints .i64 [(p : Int)]) (by unfold maxLen; omega) (by omega) (Nat.le_trans hsz ka.size) ?_)
      intro a2 c2 w2' hown hk _ _
      have hN2 : New w w2' := New.keeps (hN.trans ka) hk (fun k hk hx => by have := (own_of_blk HO.out hx).1; omega)
      have HO3 : Hid (w2'.ownsRow w.heap.size 3 1 (.slice a2 (j + 1) c2) (j + 1) (Is (dgl (x + y) (j + 1)))) := Lib.hid (by rw [HO2.out]; exact hown)
      clear hown hk hN ka
      go_wp2_with fail
      go_roundw
      case rel => exact ⟨j + 1, q, a2, c2, by omega, by go_num, by rfl, by rfl, hs2, HST2, HO3, hN2⟩
      case measure => simp [intOf]; omega
    · have hj3 : j < 3 := by omega
      have i1 : ¬ (j : Int) < (nx : Int) := by omega
      have z1 := (HXT.out j (by omega)).2
      obtain ⟨b2, o2, e2, q2⟩ := is_at HY.out (j := j) h2
      replace q2 := New.cell hN q2
      subst e2
      have l2 : b2 < wr.heap.size := World.block_lt_of_cell? wr _ q2
      have i2 : (j : Int) < (ny : Int) := by omega
      have w4 : IntKind.i64.wrap ((cc : Int) + ((dig y j : Nat) : Int)) = (s : Int) := by rw [IntWalk.i64_in _ (by omega)]; omega
      clear hs z1
      generalize dig y j = dy at q2 w4
      clear hdx hdy
      clear hstop
      go_wp2_with (at_builtin; refine wpList_app rfl _ _ 62 rfl w.heap.size 3 i0 (.int .i64 0) 1 8 Tryd.underlying62 hi0 hz0 hz1 hz2 rfl (by decide) ao j co (Is (dgl (x + y) j)) rfl (ka.owns HO.out) _ 1 1 [I (p : Int)] rfl rfl (SlAt.lit _ _ _) (oneCell_ints .i64 [(p : Int)]) (by unfold maxLen; omega) (by omega) (Nat.le_trans hsz ka.size) ?_)
      intro a2 c2 w2' hown hk _ _
      have hN2 : New w w2' := New.keeps (hN.trans ka) hk (fun k hk hx => by have := (own_of_blk HO.out hx).1; omega)
      have HO3 : Hid (w2'.ownsRow w.heap.size 3 1 (.slice a2 (j + 1) c2) (j + 1) (Is (dgl (x + y) (j + 1)))) := Lib.hid (by rw [HO2.out]; exact hown)
      clear hown hk hN ka
      go_wp2_with fail
      go_roundw
      case rel => exact ⟨j + 1, q, a2, c2, by omega, by go_num, by rfl, by rfl, hs2, HST2, HO3, hN2⟩
      case measure => simp [intOf]; omega
    · have hj3 : j < 3 := by exact Classical.byContradiction fun h => by have := hstop (by omega) (by omega) (by omega); omega
      have i1 : ¬ (j : Int) < (nx : Int) := by omega
      have z1 := (HXT.out j (by omega)).2
      have i2 : ¬ (j : Int) < (ny : Int) := by omega
      have z2 := (HYT.out j (by omega)).2
      have i3 : (0 : Int) < (cc : Int) := by omega
      obtain rfl : cc = s := by omega
      clear hs z1 z2 hdx hdy
      clear hstop
      go_wp2_with (at_builtin; refine wpList_app rfl _ _ 62 rfl w.heap.size 3 i0 (.int .i64 0) 1 8 Tryd.underlying62 hi0 hz0 hz1 hz2 rfl (by decide) ao j co (Is (dgl (x + y) j)) rfl (ka.owns HO.out) _ 1 1 [I (p : Int)] rfl rfl (SlAt.lit _ _ _) (oneCell_ints .i64 [(p : Int)]) (by unfold maxLen; omega) (by omega) (Nat.le_trans hsz ka.size) ?_)
      intro a2 c2 w2' hown hk _ _
      have hN2 : New w w2' := New.keeps (hN.trans ka) hk (fun k hk hx => by have := (own_of_blk HO.out hx).1; omega)
      have HO3 : Hid (w2'.ownsRow w.heap.size 3 1 (.slice a2 (j + 1) c2) (j + 1) (Is (dgl (x + y) (j + 1)))) := Lib.hid (by rw [HO2.out]; exact hown)
      clear hown hk hN ka
      go_wp2_with fail
      go_roundw
      case rel => exact ⟨j + 1, q, a2, c2, by omega, by go_num, by rfl, by rfl, hs2, HST2, HO3, hN2⟩
      case measure => simp [intOf]; omega
    · clear hstop hs hdx hdy t1 t2 w1 w2 HO2 HST2 hs2 hp30
      subst h3
      have hz : hiD (x + y) j = 0 := by rw [HST.out.1, (HXT.out j (by omega)).1, (HYT.out j (by omega)).1]
      have hroom : Rm j co := by
        rcases HO.out.2 with ⟨h0, h9⟩ | ⟨gg, cap, cur, hg, hb, _, h5, h6, _⟩
        · obtain ⟨_, e1, e2⟩ := Value.slice.inj h0
          unfold Rm; constructor <;> omega
        · cases hg
          exact ⟨h5, by unfold maxLen at h6; omega⟩
      have hown := SlAt.of_owns HO.out
      have htr := fun W (n : New wr W) => trim_any W ao co (x + y) j (hown.new n) hz HXY.out (by omega) hroom
      have hfin : Hid (∀ w', New wr w' → SlAt w' ao (Is (dgs (x + y))) ∧ (∀ k, blk ao k → w.heap.size ≤ k) ∧ Rm (nd (x + y)) co) := Lib.hid (fun w' n => by
        have hle : nd (x + y) ≤ j := by
          rcases Nat.lt_or_ge j (nd (x + y)) with h | h
          · have h2 := nd_top (v := x + y) (by have := HXY.out; unfold whTop at this; exact this) (by omega)
            have := hiD_zeros hz (nd (x + y) - 1 - j)
            rw [show j + (nd (x + y) - 1 - j) = nd (x + y) - 1 by omega] at this
            exact absurd (by unfold dig; rw [this]) h2
          · exact h
        refine ⟨?_, fun k hk => (own_of_blk HO.out hk).1, by unfold Rm at hroom ⊢; omega⟩
        have := (hown.new n).take (nd (x + y))
        unfold dgs
        unfold Is at this ⊢
        rw [← List.map_take, dgl_take _ _ _ hle] at this
        exact this)
      have i1 : ¬ (j : Int) < (nx : Int) := by omega
      have i2 : ¬ (j : Int) < (ny : Int) := by omega
      clear hown hz ka hroom
      go_wp2_with fail
      refine (htr _ (New.refl _)).mono ?_
      rintro e w3 ⟨rfl, n3⟩
      go_wp2_with fail
      go_ret
      exact ⟨ao, co, rfl, hN.trans n3, hfin.out _ n3⟩
end Go.Proofs.YtmmoocbnmjmfeaaDoor
