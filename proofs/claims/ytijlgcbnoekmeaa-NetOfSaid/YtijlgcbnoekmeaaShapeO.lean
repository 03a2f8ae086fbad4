/-
  Walks, eighth part: both Ofs at any tag and any parameters; awake.
-/
import Derived.Test.YtijlgcbnoekmeaaShapeE
namespace Go.Proofs.Ytijlgcbnoekmeaa
open Go Go.RowKit
set_option linter.all false

theorem oneS_true {ps : List Int} {k : Int} (h : oneS ps k = true) : ∃ n, ps = [n] ∧ 1 ≤ n ∧ n ≤ k := by
  unfold oneS at h
  split at h
  · rename_i n; exact ⟨n, rfl, by simpa using h⟩
  · cases h
theorem twoS_true {ps : List Int} (h : twoS ps = true) : ∃ n m, ps = [n, m] ∧ 1 ≤ n ∧ n ≤ 16 ∧ 1 ≤ m ∧ m ≤ 64 ∧ n * m ≤ 64 := by
  unfold twoS at h
  split at h
  · rename_i n m; exact ⟨n, m, rfl, by simpa using h⟩
  · cases h

theorem tag_cases {tag : Int} (h1 : 1 ≤ tag) (h2 : tag ≤ 11) : tag = 1 ∨ tag = 2 ∨ tag = 3 ∨ tag = 4 ∨ tag = 5 ∨ tag = 6 ∨ tag = 7 ∨ tag = 8 ∨ tag = 9 ∨ tag = 10 ∨ tag = 11 := by omega

set_option maxRecDepth 100000 in
set_option maxHeartbeats 1000000 in
theorem refOf_any (tag : Int) (ao : Option Addr) (c : Nat) (ps : List Int) (w : World) (hx : SlAt w ao (Is ps)) (hl : ps.length ≤ 9223372036854775807) :
    Calls Try.prog 41 #[.int .u8 tag, .slice ao ps.length c] w (Rates w (shapeS tag ps)) := by
  by_cases ht : 1 ≤ tag ∧ tag ≤ 11
  · obtain ⟨t1, t2⟩ := ht
    by_cases hg : goodS tag ps = true
    · have htag := tag_cases t1 t2
      have hs : shapeS tag ps = (0, rates tag ps) := by unfold shapeS; rw [if_pos ⟨t1, t2⟩, if_pos hg]
      rw [hs]
      clear hs t1 t2
      rcases htag with rfl | rfl | rfl | rfl | rfl | rfl | rfl | rfl | rfl | rfl | rfl
      · have h : 1 ≤ ps.length ∧ ps.length ≤ 16 := by simpa [goodS] using hg
        exact refOf_1 1 ao c ps w rfl hx h.1 h.2
      · obtain ⟨n, rfl, h1, h2⟩ := oneS_true (ps := ps) (k := 64) (by simpa [goodS] using hg)
        exact refOf_2 2 ao c n w rfl hx h1 h2
      · obtain ⟨n, rfl, h1, h2⟩ := oneS_true (ps := ps) (k := 64) (by simpa [goodS] using hg)
        exact refOf_3 3 ao c n w rfl hx h1 h2
      · obtain ⟨n, m, rfl, h1, h2, h3, h4, h5⟩ := twoS_true (ps := ps) (by simpa [goodS] using hg)
        exact refOf_4 4 ao c n m w rfl hx h1 h2 h3 h4 (twoS_decide n m h1 h2 h3 h4).1 h5
      · obtain ⟨n, m, rfl, h1, h2, h3, h4, h5⟩ := twoS_true (ps := ps) (by simpa [goodS] using hg)
        exact refOf_5 5 ao c n m w rfl hx h1 h2 h3 h4 (twoS_decide n m h1 h2 h3 h4).1 h5
      · obtain ⟨n, rfl, h1, h2⟩ := oneS_true (ps := ps) (k := 16) (by simpa [goodS] using hg)
        exact refOf_6 6 ao c n w rfl hx h1 h2
      · obtain rfl : ps = [] := List.eq_nil_of_length_eq_zero (by simpa [goodS] using hg)
        exact refOf_7 7 ao c w rfl hx
      · obtain rfl : ps = [] := List.eq_nil_of_length_eq_zero (by simpa [goodS] using hg)
        exact refOf_8 8 ao c w rfl hx
      · obtain ⟨n, rfl, h1, h2⟩ := oneS_true (ps := ps) (k := 16) (by simpa [goodS] using hg)
        exact refOf_9 9 ao c n w rfl hx h1 h2
      · have h : ps.length = 2 := by simpa [goodS] using hg
        exact refOf_10 10 ao c ps w rfl hx (by omega) (by omega)
      · obtain ⟨n, rfl, h1, h2⟩ := oneS_true (ps := ps) (k := 64) (by simpa [goodS] using hg)
        exact refOf_11 11 ao c n w rfl hx h1 h2
    · have hs : shapeS tag ps = (61, [], []) := by unfold shapeS; rw [if_pos ⟨t1, t2⟩, if_neg hg]
      have HS := Lib.hid hs
      have hg' : goodS tag ps = false := by simpa using hg
      have HG := Lib.hid hg'
      clear hs hg hg'
      go_enter Try.func41, Try.ntmps41
      go_wp2_with (go_at_call 46; refine (good_any _ _ _ ps _ t1 t2 hx hl).mono ?_; rw [HG.out]; rintro e w' ⟨rfl, nq, rfl⟩)
      go_ret3
      rw [HS.out]
      exact Rates.none _ _ _ (Keeps.drewN w _)
  · have hs : shapeS tag ps = (60, [], []) := by unfold shapeS; rw [if_neg ht]
    have HS := Lib.hid hs
    clear hs
    by_cases h1 : tag < 1
    · clear ht
      go_enter Try.func41, Try.ntmps41
      go_wp2_with fail
      go_ret3
      rw [HS.out]
      exact Rates.none _ _ _ (New.refl _)
    · have h2 : 11 < tag := by omega
      clear ht
      go_enter Try.func41, Try.ntmps41
      go_wp2_with fail
      go_ret3
      rw [HS.out]
      exact Rates.none _ _ _ (New.refl _)

set_option maxRecDepth 100000 in
set_option maxHeartbeats 1000000 in
theorem shOf_any (tag : Int) (ao : Option Addr) (c : Nat) (ps : List Int) (w : World) (hx : SlAt w ao (Is ps)) (hl : ps.length ≤ 9223372036854775807) :
    Calls Try.prog 43 #[.int .u8 tag, .slice ao ps.length c] w (Rates w (shapeS tag ps)) := by
  by_cases ht : 1 ≤ tag ∧ tag ≤ 11
  · obtain ⟨t1, t2⟩ := ht
    have htag := tag_cases t1 t2
    clear t1 t2
    match ps, hx, hl with
    | [], hx, hl =>
      rcases htag with rfl | rfl | rfl | rfl | rfl | rfl | rfl | rfl | rfl | rfl | rfl
      · exact shOf_0_1 ao c w hx
      · exact shOf_0_2 ao c w hx
      · exact shOf_0_3 ao c w hx
      · exact shOf_0_4 ao c w hx
      · exact shOf_0_5 ao c w hx
      · exact shOf_0_6 ao c w hx
      · exact shOf_0_7 ao c w hx
      · exact shOf_0_8 ao c w hx
      · exact shOf_0_9 ao c w hx
      · exact shOf_0_10 ao c w hx
      · exact shOf_0_11 ao c w hx
    | [n], hx, hl =>
      rcases htag with rfl | rfl | rfl | rfl | rfl | rfl | rfl | rfl | rfl | rfl | rfl
      · exact shOf_1_1 n ao c w hx
      · exact shOf_1_2 n ao c w hx
      · exact shOf_1_3 n ao c w hx
      · exact shOf_1_4 n ao c w hx
      · exact shOf_1_5 n ao c w hx
      · exact shOf_1_6 n ao c w hx
      · exact shOf_1_7 n ao c w hx
      · exact shOf_1_8 n ao c w hx
      · exact shOf_1_9 n ao c w hx
      · exact shOf_1_10 n ao c w hx
      · exact shOf_1_11 n ao c w hx
    | [n, m], hx, hl =>
      rcases htag with rfl | rfl | rfl | rfl | rfl | rfl | rfl | rfl | rfl | rfl | rfl
      · exact shOf_2_1 n m ao c w hx
      · exact shOf_2_2 n m ao c w hx
      · exact shOf_2_3 n m ao c w hx
      · exact shOf_2_4 n m ao c w hx
      · exact shOf_2_5 n m ao c w hx
      · exact shOf_2_6 n m ao c w hx
      · exact shOf_2_7 n m ao c w hx
      · exact shOf_2_8 n m ao c w hx
      · exact shOf_2_9 n m ao c w hx
      · exact shOf_2_10 n m ao c w hx
      · exact shOf_2_11 n m ao c w hx
    | n :: m :: q :: r, hx, hl =>
      have h3 : 3 ≤ (n :: m :: q :: r).length := by simp
      rcases htag with rfl | rfl | rfl | rfl | rfl | rfl | rfl | rfl | rfl | rfl | rfl
      · exact shOf_3_1 _ ao c w hx h3 hl
      · exact shOf_3_2 _ ao c w hx h3 hl
      · exact shOf_3_3 _ ao c w hx h3 hl
      · exact shOf_3_4 _ ao c w hx h3 hl
      · exact shOf_3_5 _ ao c w hx h3 hl
      · exact shOf_3_6 _ ao c w hx h3 hl
      · exact shOf_3_7 _ ao c w hx h3 hl
      · exact shOf_3_8 _ ao c w hx h3 hl
      · exact shOf_3_9 _ ao c w hx h3 hl
      · exact shOf_3_10 _ ao c w hx h3 hl
      · exact shOf_3_11 _ ao c w hx h3 hl
  · have hs : shapeS tag ps = (60, [], []) := by unfold shapeS; rw [if_neg ht]
    have HS := Lib.hid hs
    clear hs
    by_cases h1 : tag < 1
    · clear ht
      go_enter Try.func43, Try.ntmps43
      go_wp2_with fail
      go_ret3
      rw [HS.out]
      exact Rates.none _ _ _ (New.refl _)
    · have h2 : 11 < tag := by omega
      clear ht
      go_enter Try.func43, Try.ntmps43
      go_wp2_with fail
      go_ret3
      rw [HS.out]
      exact Rates.none _ _ _ (New.refl _)

theorem shOf_is (tag : Int) (ao : Option Addr) (c : Nat) (ps : List Int) (w : World) (r : Int × List Int × List Int) (hr : shapeS tag ps = r) (hx : SlAt w ao (Is ps)) (hl : ps.length ≤ 9223372036854775807) :
    Calls Try.prog 43 #[.int .u8 tag, .slice ao ps.length c] w (Rates w r) := hr ▸ shOf_any tag ao c ps w hx hl
theorem sameInts_is (w : World) (ao bo : Option Addr) (xs ys : List Int) (n m c d : Nat) (hx : SlAt w ao (Is xs)) (hy : SlAt w bo (Is ys)) (hn : n = xs.length) (hm : m = ys.length) (b : Bool) (hb : decide (xs = ys) = b)
   (lx : xs.length ≤ 9223372036854775807) :
    Calls Try.prog 25 #[.slice ao n c, .slice bo m d] w fun e w' => e = .returned (.bool b) ∧ ∃ n, w' = w.drewN n := by
  subst hn hm hb
  exact sameInts_any w ao bo xs ys c d hx hy lx

end Go.Proofs.Ytijlgcbnoekmeaa
