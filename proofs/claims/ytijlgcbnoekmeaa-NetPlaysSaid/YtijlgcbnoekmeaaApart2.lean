/-
  The walk of Apart.
-/
import Derived.Test.YtijlgcbnoekmeaaApart
namespace Go.Proofs.Ytijlgcbnoekmeaa
open Go Go.RowKit
set_option linter.all false

theorem Try.infoInts : (Try.prog.info? 37).map (fun i => (i.zero, i.size, i.bytes)) = some (some (.slice none 0 0), 1, 24) := by kernel_rfl

theorem Ap1.start {w w1 : World} {b0 o0 m B : Nat} {A : Nat → Option Addr} {N C : Nat → Nat} {X : Nat → List Value}
    (hls : ∀ j, j < m → w.cell? ⟨b0, o0 + j, none⟩ = some (.slice (A j) (N j) (C j)))
    (low : ∀ j, j < m → w.ownsRow B 3 1 (.slice (A j) (N j) (C j)) (N j) (X j))
    (dis : ∀ i j, i < m → j < m → i ≠ j → ∀ k, blk (A i) k → ¬ blk (A j) k)
    (off : ∀ j, j < m → ∀ k, blk (A j) k → k ≠ b0) (hb0 : b0 < w.heap.size)
    (hl : w1.ownsRow w.heap.size 37 1 (.slice (some ⟨w.heap.size, 0, none⟩) m m) m (List.replicate m (.slice none 0 0))) (hn : New w w1) :
    Ap1 w w1 b0 o0 w.heap.size m B A N C X 0 0 := by
  refine ⟨fun j hj => hn.cell (hls j hj), ?_, ?_, dis, ?_, by omega, Keeps.mono hn (fun _ _ h => h.elim), Nat.le_refl _⟩
  · intro j hj
    have h0 := hn.owns (low j hj)
    rw [if_neg (by omega)]
    by_cases e : j = 0
    · rw [if_pos e]; simpa [apMk] using h0
    · rw [if_neg e]; exact h0
  · have e : ((List.range m).map fun j => if j < 0 then Value.slice (A j) (N j) (C j) else .slice none 0 0) = List.replicate m (.slice none 0 0) := by
      apply List.ext_getElem?
      intro j
      by_cases hj : j < m <;> simp [hj]
    rw [e]; exact hl
  · intro j hj k hk
    refine ⟨?_, off j hj k hk⟩
    obtain ⟨a, ha, rfl⟩ := hk
    have := (World.ownsRow.lt (low j hj) a.block (by rw [ha]; rfl)).2
    omega

theorem own_get {w : World} {B g n c size : Nat} {e : TypeId} {xs : List Value} (h : w.ownsRow B e size (.slice (some ⟨g, 0, none⟩) n c) n xs) {j : Nat} (hj : j < n * size) : ∃ v, w.cell? ⟨g, j, none⟩ = some v := by
  rw [h.cellAt j hj]
  exact ⟨_, List.getElem?_eq_getElem (by rw [h.1]; exact hj)⟩

/-- What the walk reads of the first phase. -/
theorem Ap1.read {w wr : World} {b0 o0 L m B : Nat} {A : Nat → Option Addr} {N C : Nat → Nat} {X : Nat → List Value} {i k : Nat} (h : Ap1 w wr b0 o0 L m B A N C X i k) (hi : i < m) (hk : k < N i) :
    ∃ g v, A i = some ⟨g, 0, none⟩ ∧ wr.cell? ⟨g, k, none⟩ = some v ∧ wr.frozen? ⟨g, k, none⟩ = false := by
  have h0 := h.low i hi
  obtain ⟨g, hg⟩ := own_addr h0 (by omega)
  rw [hg] at h0
  obtain ⟨v, hv⟩ := own_get h0 (j := k) (by omega)
  exact ⟨g, v, hg, hv, h0.frozenAt k⟩

theorem Ap1.readL {w wr : World} {b0 o0 L m B : Nat} {A : Nat → Option Addr} {N C : Nat → Nat} {X : Nat → List Value} {i k : Nat} (h : Ap1 w wr b0 o0 L m B A N C X i k) (hi : i < m) :
    (∃ v, wr.cell? ⟨L, i, none⟩ = some v) ∧ wr.frozen? ⟨L, i, none⟩ = false := by
  exact ⟨own_get h.long (by omega), h.long.frozenAt i⟩

theorem Ap2.readL {w wr : World} {b0 o0 L m B : Nat} {A A' : Nat → Option Addr} {N C C' T : Nat → Nat} {i : Nat} (h : Ap2 w wr b0 o0 L m B A A' N C C' T) (hi : i < m) :
    wr.cell? ⟨L, i, none⟩ = some (.slice (A' i) (N i + T i) (C' i)) ∧ wr.frozen? ⟨L, i, none⟩ = false := by
  refine ⟨?_, h.long.frozenAt i⟩
  rw [h.long.cellAt i (by omega)]
  simp [hi]

theorem Ap2.readLow {w wr : World} {b0 o0 L m B : Nat} {A A' : Nat → Option Addr} {N C C' T : Nat → Nat} {i k : Nat} (h : Ap2 w wr b0 o0 L m B A A' N C C' T) (hi : i < m) (hk : k < N i) :
    ∃ g, A i = some ⟨g, 0, none⟩ ∧ wr.cell? ⟨g, k, none⟩ = some (.int .i64 ((i : Int) * 1000003 + (k : Int))) := by
  have h0 := h.low i hi
  obtain ⟨g, hg⟩ := own_addr h0 (by omega)
  rw [hg] at h0
  refine ⟨g, hg, ?_⟩
  rw [h0.cellAt k (by omega), apMk_at _ _ _ hk]

theorem Ap2.readHigh {w wr : World} {b0 o0 L m B : Nat} {A A' : Nat → Option Addr} {N C C' T : Nat → Nat} {i k : Nat} (h : Ap2 w wr b0 o0 L m B A A' N C C' T) (hi : i < m) (hk : k < N i) :
    ∃ g, A' i = some ⟨g, 0, none⟩ ∧ wr.cell? ⟨g, k, none⟩ = some (.int .i64 ((i : Int) * 1000003 + (k : Int))) := by
  have h0 := h.high i hi
  obtain ⟨g, hg⟩ := own_addr h0 (by omega)
  rw [hg] at h0
  refine ⟨g, hg, ?_⟩
  rw [h0.cellAt k (by omega), List.getElem?_append_left (by rw [apMk_len]; exact hk), apMk_at _ _ _ hk]

theorem Ap2.readTop {w wr : World} {b0 o0 L m B : Nat} {A A' : Nat → Option Addr} {N C C' T : Nat → Nat} {i k : Nat} (h : Ap2 w wr b0 o0 L m B A A' N C C' T) (hi : i < m) (hk : k < T i) :
    ∃ g, A' i = some ⟨g, 0, none⟩ ∧ wr.cell? ⟨g, N i + k, none⟩ = some (.int .i64 (-(i : Int) * 1000003 - (k : Int) - 1)) := by
  have h0 := h.high i hi
  obtain ⟨g, hg⟩ := own_addr h0 (by omega)
  rw [hg] at h0
  refine ⟨g, hg, ?_⟩
  rw [h0.cellAt _ (by omega), List.getElem?_append_right (by rw [apMk_len]; omega), apMk_len]
  simp [apNg, show N i + k - N i = k by omega, hk]

theorem Ap2.app' {w wr w1 : World} {b0 o0 L m B : Nat} {A A' : Nat → Option Addr} {N C C' T : Nat → Nat} {i : Nat} (h : Ap2 w wr b0 o0 L m B A A' N C C' T) (hi : i < m) (o : Obj) (a2 : Option Addr) (c2 t : Nat) (ht : T i = t) (ys : List Value)
    (hy : ys = apMk i (N i) ++ apNg i (t + 1)) (hown : w1.ownsRow B 3 1 (.slice a2 (N i + t + 1) c2) (N i + t + 1) ys)
    (hk : Keeps (blk (A' i)) (wr.alloc o) w1) (hm : Moved (wr.alloc o) (A' i) a2) (hh : Heads (wr.alloc o) w1 3 (A' i) (N i + t)) :
    ((∃ v, w1.cell? ⟨L, i, none⟩ = some v) ∧ w1.frozen? ⟨L, i, none⟩ = false) ∧
    Ap2 w (w1.setCell ⟨L, i, none⟩ (.slice a2 (N i + t + 1) c2)) b0 o0 L m B A (fun j => if j = i then a2 else A' j) N C (fun j => if j = i then c2 else C' j) (fun j => if j = i then t + 1 else T j) := by
  subst ht hy
  have hk0 : Keeps (blk (A' i)) wr w1 := (Keeps.alloc (S := blk (A' i)) wr o).trans hk (fun _ _ h => h)
  have hL := hk0.owns h.long (fun x hx hb => by simp [Value.ownBlock] at hx; subst hx; exact (h.off i hi _ (.inr hb)).1 rfl)
  refine ⟨⟨own_get hL (by omega), hL.frozenAt i⟩, h.app hi o a2 c2 ?_ hk hm (by rw [Nat.mul_one]; exact hh)⟩
  rw [apNg_succ, ← List.append_assoc] at hown
  exact hown

set_option maxRecDepth 100000 in
set_option maxHeartbeats 4000000 in
theorem apart_any (w : World) (b0 o0 m cm B : Nat) (A : Nat → Option Addr) (N C : Nat → Nat) (X : Nat → List Value)
    (hls : ∀ j, j < m → w.cell? ⟨b0, o0 + j, none⟩ = some (.slice (A j) (N j) (C j)))
    (low : ∀ j, j < m → w.ownsRow B 3 1 (.slice (A j) (N j) (C j)) (N j) (X j))
    (dis : ∀ i j, i < m → j < m → i ≠ j → ∀ k, blk (A i) k → ¬ blk (A j) k)
    (off : ∀ j, j < m → ∀ k, blk (A j) k → k ≠ b0) (hb0 : b0 < w.heap.size) (hB : B ≤ w.heap.size) (hm : m ≤ 1000) (hN : ∀ j, j < m → (N j + 16) * 8 ≤ 140737488355328) :
    Calls Try.prog 34 #[.slice (some ⟨b0, o0, none⟩) m cm] w fun e w' => e = .returned (.bool true) ∧ Keeps (fun k => ∃ j, j < m ∧ blk (A j) k) w w' := by
  have hX : ∀ j, j < m → (X j).length = N j := fun j hj => by have := (low j hj).1; omega
  obtain ⟨i0, hi0, hz0, hz1, hz2⟩ := info_parts Try.infoInts
  obtain ⟨i1, hi1, hy0, hy1, hy2⟩ := info_parts Try.infoInt
  have HX := Lib.hid hX
  have HLS := Lib.hid hls
  have HLOW := Lib.hid low
  have HDIS := Lib.hid dis
  have HOFF := Lib.hid off
  have HN := Lib.hid hN
  clear hX hls low dis off hN
  go_enter Try.func34, Try.ntmps34
  go_wp2_with (at_make; refine wpList_make_full _ rfl _ _ 49 rfl w.heap.size 37 i0 (.slice none 0 0) 1 Try.underlying49 hi0 hz0 hz1 _ _ _ _ m rfl rfl rfl rfl ?b1 ?b2 ?b3 ?b4)
  case b1 => rw [hz2]; omega
  case b2 => unfold maxLen; omega
  case b3 => simp
  case b4 =>
    intro w1 hown hg
    rw [toList_madeCells_one] at hown
    have hst := Ap1.start HLS.out HLOW.out HDIS.out HOFF.out hb0 hown (Keeps.grown hg (fun k h => by cases h))
    clear hown hg
    go_wp2
    go_loopw [4] (fun i wr => ∃ n : Nat, n ≤ m ∧ i = .int .i64 n ∧ Ap1 w wr b0 o0 w.heap.size m B A N C X n 0) (fun i _ => m - (intOf i).toNat)
    case atStart => exact ⟨0, by omega, rfl, hst⟩
    case round =>
      clear hst
      obtain ⟨n, hn, rfl, hA⟩ := hrel
      by_cases hnm : n < m
      · go_wp2
        go_loopw [5] (fun i wr => ∃ k : Nat, k ≤ N n ∧ i = .int .i64 k ∧ Ap1 w wr b0 o0 w.heap.size m B A N C X n k) (fun i _ => N n - (intOf i).toNat)
        case atStart => exact ⟨0, by omega, rfl, hA⟩
        case round =>
          clear hA
          obtain ⟨k, hk, rfl, hA⟩ := hrel
          have hls := hA.ls n hnm
          have hNn := HN.out n hnm
          by_cases hkn : k < N n
          · obtain ⟨g, v, hg, hc, hf⟩ := hA.read hnm hkn
            have hnx := hA.store hnm hkn hg HX.out
            rw [hg] at hls
            have HG := Lib.hid hg
            clear hg hA
            generalize N n = Nn at hls hNn hkn hk hnx
            go_wp2
            go_roundw
            case rel => exact ⟨k + 1, by omega, by go_num, hnx⟩
            case measure => simp [intOf]; omega
          · have hke : k = N n := by omega
            subst hke
            obtain ⟨⟨v, hv⟩, hfz⟩ := hA.readL hnm
            have hnx := hA.next hnm HX.out
            clear hA
            generalize hNe : N n = Nn at hls hNn hk hnx hv hfz
            have HNE := Lib.hid hNe
            clear hNe
            go_wp2
            go_roundw
            case rel => exact ⟨n + 1, by omega, by go_num, hnx⟩
            case measure => simp [intOf]; omega
      · obtain rfl : m = n := by omega
        have hA2 := hA.done hB
        clear hA
        go_wp2
        go_loopw [6] (fun i wr => ∃ n : Nat, n ≤ m ∧ i = .int .i64 n ∧ ∃ A' C' T, Ap2 w wr b0 o0 w.heap.size m B A A' N C C' T ∧ ∀ j, j < m → T j = if j < n then 16 else 0) (fun i _ => m - (intOf i).toNat)
        case atStart => exact ⟨0, by omega, rfl, _, _, _, hA2, fun j _ => by simp⟩
        case round =>
          clear hA2
          obtain ⟨n, hn, rfl, A', C', T, hA, hT⟩ := hrel
          have HT := Lib.hid hT
          clear hT
          by_cases hnm : n < m
          · go_wp2
            go_loopw [7] (fun i wr => ∃ k : Nat, k ≤ 16 ∧ i = .int .i64 k ∧ ∃ A' C' T, Ap2 w wr b0 o0 w.heap.size m B A A' N C C' T ∧ ∀ j, j < m → T j = if j < n then 16 else if j = n then k else 0) (fun i _ => 16 - (intOf i).toNat)
            case atStart =>
              refine ⟨0, by omega, rfl, _, _, _, hA, fun j hj => ?_⟩
              rw [HT.out j hj]
              by_cases e : j < n
              · rw [if_pos e, if_pos e]
              · rw [if_neg e, if_neg e]; by_cases e2 : j = n <;> simp [e2]
            case round =>
              clear hA HT
              obtain ⟨k, hk, rfl, A', C', T, hA, hT⟩ := hrel
              have hTn : T n = k := by rw [hT n hnm, if_neg (Nat.lt_irrefl _), if_pos rfl]
              have HT := Lib.hid hT
              clear hT
              have hNn := HN.out n hnm
              by_cases hk16 : k < 16
              · obtain ⟨hcL, hfL⟩ := hA.readL hnm
                have hown := hA.high n hnm
                rw [hTn] at hcL hown
                have HTN := Lib.hid hTn
                clear hTn
                have hLlt : w.heap.size < wr.heap.size := (World.ownsRow.lt hA.long _ rfl).2
                go_wp2_with ((at_builtin; refine wpList_app rfl _ _ 37 rfl B 3 i1 (.int .i64 0) 1 8 Try.underlying37 hi1 hy0 hy1 hy2 rfl (by decide) (A' n) (N n + k) (C' n) _ rfl ((Keeps.alloc (S := fun _ => False) _ _).owns hown (fun _ _ h => h)) _ 1 1 [I (-(n : Int) * 1000003 - (k : Int) - 1)] rfl rfl ?c0 ?c1 ?c2 ?c3 ?c4 ?c5))
                case c0 => exact SlAt.lit _ _ _
                case c1 => intro u hu; simp at hu; subst hu; rfl
                case c2 => unfold maxLen; omega
                case c3 => omega
                case c4 => simp; omega
                case c5 =>
                  intro ao' c' w' hown' hk' hmv hh
                  try simp only [Nat.mul_one] at hh
                  obtain ⟨⟨⟨v, hv⟩, hfz⟩, hnx⟩ := hA.app' hnm _ ao' c' k HTN.out _ (by rw [apNg_succ]) hown' hk' hmv hh
                  have hT2 : ∀ j, j < m → (if j = n then k + 1 else T j) = if j < n then 16 else if j = n then k + 1 else 0 := by
                    intro j hj
                    by_cases e : j = n
                    · subst e; simp
                    · rw [if_neg e, HT.out j hj]; simp [e]
                  have HT2 := Lib.hid hT2
                  clear hT2 hA hown hown' hk' hmv hh hcL hfL
                  go_wp2
                  go_roundw
                  case rel => exact ⟨k + 1, by omega, by go_num, _, _, _, hnx, HT2.out⟩
                  case measure => simp [intOf]; omega
              · obtain rfl : 16 = k := by omega
                have HTN := Lib.hid hTn
                clear hTn
                go_wp2
                go_roundw
                case rel =>
                  refine ⟨n + 1, by omega, by go_num, _, _, _, hA, fun j hj => ?_⟩
                  rw [HT.out j hj]
                  by_cases e : j < n
                  · rw [if_pos e, if_pos (by omega)]
                  · by_cases e2 : j = n
                    · rw [if_neg e, if_pos e2, if_pos (by omega)]
                    · rw [if_neg e, if_neg e2, if_neg (by omega)]
                case measure => simp [intOf]; omega
          · obtain rfl : m = n := by omega
            have hT16 : ∀ j, j < m → T j = 16 := fun j hj => by rw [HT.out j hj, if_pos hj]
            have HT16 := Lib.hid hT16
            have hkeep := hA.keeps
            clear hT16 HT
            go_wp2
            go_loopw [8] (fun i wz => ∃ n : Nat, n ≤ m ∧ i = .int .i64 n ∧ ∃ q, wz = wr.drewN q) (fun i _ => m - (intOf i).toNat)
            case atStart => exact ⟨0, by omega, rfl, 0, rfl⟩
            case round =>
              rename_i wz
              obtain ⟨n, hn, rfl, q, rfl⟩ := hrel
              by_cases hnm : n < m
              · have hls := hA.ls n hnm
                obtain ⟨hcL, hfL⟩ := hA.readL hnm
                rw [HT16.out n hnm] at hcL
                have hNn := HN.out n hnm
                go_wp2
                go_loopw [9] (fun i wz => ∃ k : Nat, k ≤ N n ∧ i = .int .i64 k ∧ ∃ q, wz = wr.drewN q) (fun i _ => N n - (intOf i).toNat)
                case atStart => exact ⟨0, by omega, rfl, q, rfl⟩
                case round =>
                  clear q
                  obtain ⟨k, hk, rfl, q, rfl⟩ := hrel
                  by_cases hkn : k < N n
                  · obtain ⟨g1, hg1, hc1⟩ := hA.readLow hnm hkn
                    obtain ⟨g2, hg2, hc2⟩ := hA.readHigh hnm hkn
                    rw [hg1] at hls
                    rw [hg2] at hcL
                    clear hg1 hg2
                    go_wp2
                    go_roundw
                    case rel => exact ⟨k + 1, by omega, by go_num, _, rfl⟩
                    case measure => simp [intOf]; omega
                  · go_wp2
                    go_loopw [10] (fun i wz => ∃ k : Nat, k ≤ 16 ∧ i = .int .i64 k ∧ ∃ q, wz = wr.drewN q) (fun i _ => 16 - (intOf i).toNat)
                    case atStart => exact ⟨0, by omega, rfl, q, rfl⟩
                    case round =>
                      clear q
                      obtain ⟨t, ht, rfl, q, rfl⟩ := hrel
                      by_cases htn : t < 16
                      · obtain ⟨g2, hg2, hc2⟩ := hA.readTop hnm (k := t) (by rw [HT16.out n hnm]; exact htn)
                        rw [hg2] at hcL
                        clear hg2
                        go_wp2
                        go_quiet (fail)
                        go_wp2
                        go_roundw
                        case rel => exact ⟨t + 1, by omega, by go_num, _, rfl⟩
                        case measure => simp [intOf]; omega
                      · go_wp2
                        go_roundw
                        case rel => exact ⟨n + 1, by omega, by go_num, _, rfl⟩
                        case measure => simp [intOf]; omega
              · go_wp2
                go_ret
                exact ⟨rfl, hkeep.trans (Keeps.drewN _ _) (fun _ _ h => h)⟩

/-- Three lists in a literal. -/
theorem apart3 (W : World) (g B : Nat) (hg : g = W.heap.size) (a0 a1 a2 : Option Addr) (n0 n1 n2 c0 c1 c2 : Nat) (X0 X1 X2 : List Value)
    (h0 : W.ownsRow B 3 1 (.slice a0 n0 c0) n0 X0) (h1 : W.ownsRow B 3 1 (.slice a1 n1 c1) n1 X1) (h2 : W.ownsRow B 3 1 (.slice a2 n2 c2) n2 X2)
    (d01 : ∀ k, blk a0 k → ¬ blk a1 k) (d02 : ∀ k, blk a0 k → ¬ blk a2 k) (d12 : ∀ k, blk a1 k → ¬ blk a2 k) (hB : B ≤ W.heap.size)
    (b0 : (n0 + 16) * 8 ≤ 140737488355328) (b1 : (n1 + 16) * 8 ≤ 140737488355328) (b2 : (n2 + 16) * 8 ≤ 140737488355328) :
    Calls Try.prog 34 #[.slice (some ⟨g, 0, none⟩) 3 3] (W.alloc (.cells #[.slice a0 n0 c0, .slice a1 n1 c1, .slice a2 n2 c2] 37)) fun e w' =>
      e = .returned (.bool true) ∧ Keeps (fun k => blk a0 k ∨ blk a1 k ∨ blk a2 k) W w' := by
  subst hg
  have hk : New W (W.alloc (.cells #[.slice a0 n0 c0, .slice a1 n1 c1, .slice a2 n2 c2] 37)) := Keeps.alloc _ _
  have hlt : ∀ a n c X, W.ownsRow B 3 1 (.slice a n c) n X → ∀ k, blk a k → k < W.heap.size := by
    rintro a n c X h k ⟨x, rfl, rfl⟩
    exact (World.ownsRow.lt h x.block rfl).2
  have l0 := hlt _ _ _ _ h0
  have l1 := hlt _ _ _ _ h1
  have l2 := hlt _ _ _ _ h2
  refine (apart_any _ W.heap.size 0 3 3 B (fun j => if j = 0 then a0 else if j = 1 then a1 else a2) (fun j => if j = 0 then n0 else if j = 1 then n1 else n2) (fun j => if j = 0 then c0 else if j = 1 then c1 else c2)
    (fun j => if j = 0 then X0 else if j = 1 then X1 else X2) ?_ ?_ ?_ ?_ (by simp) (by simp; omega) (by omega) ?_).mono ?_
  · intro j hj
    have : j = 0 ∨ j = 1 ∨ j = 2 := by omega
    rcases this with rfl | rfl | rfl <;> simp
  · intro j hj
    have : j = 0 ∨ j = 1 ∨ j = 2 := by omega
    rcases this with rfl | rfl | rfl
    · exact hk.owns h0
    · exact hk.owns h1
    · exact hk.owns h2
  · intro i j hi hj e k
    have h1 : i = 0 ∨ i = 1 ∨ i = 2 := by omega
    have h2 : j = 0 ∨ j = 1 ∨ j = 2 := by omega
    rcases h1 with rfl | rfl | rfl <;> rcases h2 with rfl | rfl | rfl
    · exact absurd rfl e
    · exact d01 k
    · exact d02 k
    · exact fun h h' => d01 k h' h
    · exact absurd rfl e
    · exact d12 k
    · exact fun h h' => d02 k h' h
    · exact fun h h' => d12 k h' h
    · exact absurd rfl e
  · intro j hj k hb
    have : j = 0 ∨ j = 1 ∨ j = 2 := by omega
    rcases this with rfl | rfl | rfl
    · have := l0 k hb; omega
    · have := l1 k hb; omega
    · have := l2 k hb; omega
  · intro j hj
    have : j = 0 ∨ j = 1 ∨ j = 2 := by omega
    rcases this with rfl | rfl | rfl
    · exact b0
    · exact b1
    · exact b2
  · rintro e w' ⟨rfl, hkeep⟩
    refine ⟨rfl, Keeps.trans (S := fun k => blk a0 k ∨ blk a1 k ∨ blk a2 k) (Keeps.mono hk (fun _ _ h => h.elim)) hkeep ?_⟩
    rintro k _ ⟨j, hj, hb⟩
    have : j = 0 ∨ j = 1 ∨ j = 2 := by omega
    rcases this with rfl | rfl | rfl
    · exact .inl hb
    · exact .inr (.inl hb)
    · exact .inr (.inr hb)

/-- A list that was lent, as a row. -/
theorem lent_row {w : World} {g : Nat} {xs : List Int} (hg : w.heap[g]? = some (.cells ((Is xs ++ Is [-7770777, -7770777, -7770777, -7770777]).toArray) 3 (0, 0))) (hn : xs.length * 8 ≤ 140737488351232) (B : Nat) (hB : B ≤ g) :
    w.ownsRow B 3 1 (.slice (some ⟨g, 0, none⟩) xs.length (xs.length + 4)) xs.length (Is xs) := by
  refine ⟨by simp, .inr ⟨g, xs.length + 4, _, rfl, hB, hg, by omega, by unfold maxLen; omega, by simp, ?_⟩⟩
  simp

end Go.Proofs.Ytijlgcbnoekmeaa
