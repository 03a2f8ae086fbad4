/-
  Layer 4, the program's side: a reader in memory; more, peek, while, skip, put.
-/
import Derived.Test.YtohalcbhckahmaaDoorGrB
import Derived.Test.YtohalcbhckahmaaDoorLexP
import Derived.OwnWalk
namespace Go.Proofs.YtohalcbhckahmaaDoor
open Go Go.RowKit Go.Joins
set_option linter.all false

theorem lx_tag {w : World} {B e size n : Nat} {v : Value} {xs : List Value} (h : w.ownsRow B e size v n xs) {k : Nat} (hk : v.ownBlock = some k) : ∃ cur, w.heap[k]? = some (.cells cur e (0, 0)) := by
  rcases h.2 with ⟨h0, h1⟩ | ⟨g, cap, cur, rfl, hb, hg, rest⟩
  · rw [h0] at hk; simp [Value.ownBlock] at hk
  · simp [Value.ownBlock] at hk; subst hk; exact ⟨cur, hg⟩
theorem lx_own {a : Option Addr} {n c k : Nat} (h : blk a k) : (Value.slice a n c).ownBlock = some k := by
  obtain ⟨x, rfl, rfl⟩ := h; rfl
theorem lx_oth {S : Nat → Prop} {w w' : World} {B e size n : Nat} {v : Value} {xs : List Value} (h : w.ownsRow B e size v n xs) (k : Keeps S w w') (hS : ∀ g, S g → ∃ cur t fr, w.heap[g]? = some (.cells cur t fr) ∧ t ≠ e) : w'.ownsRow B e size v n xs :=
  k.owns h (fun g hg hs => by
    obtain ⟨c1, h1⟩ := lx_tag h hg
    obtain ⟨c2, t, fr, h2, hne⟩ := hS g hs
    rw [h1] at h2; cases h2; exact hne rfl)
def tokCells (t : LTok) : List Value := [.int .u8 t.sort, .string ⟨t.text.toArray⟩, I t.num, I t.at_]
theorem tokCells_len (t : LTok) : (tokCells t).length = 4 := rfl
theorem tokCells_one (t : LTok) : ∀ u ∈ tokCells t, u.oneCell' = true := by
  intro u hu
  simp only [tokCells, List.mem_cons, List.not_mem_nil, or_false] at hu
  rcases hu with rfl | rfl | rfl | rfl <;> rfl
theorem infoTok : (Tryd.prog.info? 50).map (fun i => (i.zero, i.size, i.bytes)) = some (some (.agg #[.int .u8 0, .string ⟨#[]⟩, .int .i64 0, .int .i64 0]), 4, 40) := by kernel_rfl

/-- The reader at block P, since w0: its text, its place, what it has read. -/
structure Rd (w0 w : World) (P : Nat) (s : ByteArray) (k : Nat) (ts : List LTok) : Prop where
  nw : New w0 w
  hP : w0.heap.size ≤ P
  own : ∃ a c, w.heap[P]? = some (.cells #[.string s, I k, .slice a ts.length c] 88 (0, 0)) ∧ w.ownsRow w0.heap.size 50 4 (.slice a ts.length c) ts.length (ts.flatMap tokCells)
theorem Rd.new {w0 w w' : World} {P : Nat} {s : ByteArray} {k : Nat} {ts : List LTok} (h : Rd w0 w P s k ts) (n : New w w') : Rd w0 w' P s k ts := by
  obtain ⟨nw, hP, a, c, hb, ho⟩ := h
  exact ⟨nw.trans n, hP, a, c, Keeps.heap n hb (fun h => h), n.owns ho⟩
theorem Rd.cells {w0 w : World} {P : Nat} {s : ByteArray} {k : Nat} {ts : List LTok} (h : Rd w0 w P s k ts) :
    w.cell? ⟨P, 0, none⟩ = some (.string s) ∧ w.cell? ⟨P, 1, none⟩ = some (I k) ∧ w.frozen? ⟨P, 1, none⟩ = false ∧ w.frozen? ⟨P, 2, none⟩ = false ∧ P < w.heap.size := by
  obtain ⟨nw, hP, a, c, hb, ho⟩ := h
  refine ⟨?_, ?_, unfrozen_of_block hb 1, unfrozen_of_block hb 2, (Array.getElem?_eq_some_iff.1 hb).1⟩
  · rw [cell_of_block hb 0]; simp
  · rw [cell_of_block hb 1]; simp
theorem Rd.go {w0 w : World} {P : Nat} {s : ByteArray} {k : Nat} {ts : List LTok} (h : Rd w0 w P s k ts) (j : Nat) : Rd w0 (w.setCell ⟨P, 1, none⟩ (I j)) P s j ts := by
  obtain ⟨nw, hP, a, c, hb, ho⟩ := h
  have ks : Keeps (fun k => k = P) w (w.setCell ⟨P, 1, none⟩ (I j)) := Keeps.setCell w _ _ rfl
  refine ⟨New.keeps nw ks (fun i hi hx => by omega), hP, a, c, ?_, lx_oth ho ks (fun g hg => ⟨_, _, _, hg ▸ hb, by decide⟩)⟩
  rw [block_setCell hb]; simp
theorem Rd.add {w0 w w3 : World} {P : Nat} {s : ByteArray} {k : Nat} {ts : List LTok} (t : LTok) (nw : New w0 w) (hP : w0.heap.size ≤ P) {a a' : Option Addr} {c c' : Nat}
    (hb : w.heap[P]? = some (.cells #[.string s, I k, .slice a ts.length c] 88 (0, 0))) (ho0 : w.ownsRow w0.heap.size 50 4 (.slice a ts.length c) ts.length (ts.flatMap tokCells))
    (ho : w3.ownsRow w0.heap.size 50 4 (.slice a' (ts.length + 1) c') (ts.length + 1) (ts.flatMap tokCells ++ tokCells t)) (hk : Keeps (blk a) w w3) :
    (w3.frozen? ⟨P, 2, none⟩ = false ∧ P < w3.heap.size ∧ w3.cell? ⟨P, 2, none⟩ = some (.slice a ts.length c)) ∧ Rd w0 (w3.setCell ⟨P, 2, none⟩ (.slice a' (ts.length + 1) c')) P s k (ts ++ [t]) := by
  have htag : ∀ g, blk a g → ∃ cur, w.heap[g]? = some (.cells cur 50 (0, 0)) := fun g hg => lx_tag ho0 (lx_own hg)
  have hP3 := hk.heap hb (fun hx => by obtain ⟨cur, hc⟩ := htag _ hx; rw [hb] at hc; simp at hc)
  have ks : Keeps (fun k => k = P) w3 (w3.setCell ⟨P, 2, none⟩ (.slice a' (ts.length + 1) c')) := Keeps.setCell w3 _ _ rfl
  have hnw : New w0 w3 := New.keeps nw hk (fun i hi hx => by have := (own_of_blk ho0 hx).1; omega)
  refine ⟨⟨unfrozen_of_block hP3 2, (Array.getElem?_eq_some_iff.1 hP3).1, ?_⟩, New.keeps hnw ks (fun i hi hx => by omega), hP, a', c', ?_, ?_⟩
  · rw [cell_of_block hP3 2]; rfl
  · rw [block_setCell hP3]; simp
  · have := lx_oth ho ks (fun g hg => ⟨_, _, _, hg ▸ hP3, by decide⟩)
    simpa using this

/-- A byte of a text, 0 behind its end. -/
def byteAt (s : ByteArray) (k : Nat) : UInt8 := (s.data.toList.drop k).headD 0
theorem byteAt_in (s : ByteArray) (k : Nat) (h : k < s.size) : byteAt s k = s[k] := by
  have hk : k < s.data.toList.length := by simpa using h
  unfold byteAt
  rw [List.drop_eq_getElem_cons hk]
  simp
  rfl
theorem byteAt_out (s : ByteArray) (k : Nat) (h : ¬ k < s.size) : byteAt s k = 0 := by
  have hk : s.data.toList.length ≤ k := by have : s.data.toList.length = s.size := by simp
                                           omega
  unfold byteAt
  rw [List.drop_eq_nil_of_le hk]; rfl
theorem dropAt (s : ByteArray) (k : Nat) (h : k < s.size) : s.data.toList.drop k = s[k] :: s.data.toList.drop (k + 1) := by
  have hk : k < s.data.toList.length := by simpa using h
  rw [List.drop_eq_getElem_cons hk]
  simp
  rfl
theorem takeWhile_cut (p : UInt8 → Bool) : ∀ (l : List UInt8) (j : Nat), (l.take j).all p = true → (∀ b, l[j]? = some b → p b = false) → j ≤ l.length → (l.takeWhile p).length = j := by
  intro l
  induction l with
  | nil => intro j _ _ hk; simp at hk; subst hk; rfl
  | cons b r ih =>
    intro j ha hb hk
    rw [List.takeWhile_cons]
    cases j with
    | zero => rw [if_neg (by rw [hb b rfl]; simp)]; rfl
    | succ j =>
      simp only [List.take_succ_cons, List.all_cons, Bool.and_eq_true] at ha
      rw [if_pos ha.1, List.length_cons, ih j ha.2 (fun c hc => hb c (by simpa using hc)) (by simpa using hk)]

theorem ceol_any (w : World) (b : UInt8) : Calls Tryd.prog 76 #[.int .u8 (b.toNat : Int)] w fun e w' => e = .returned (.bool (notEol b)) ∧ w' = w := by
  have e : notEol b = !((b.toNat : Int) == 10) := by
    unfold notEol
    by_cases h : b.toNat = 10
    · rw [h]; rfl
    · rw [decide_eq_true h]
      have : ((b.toNat : Int) == 10) = false := by simpa using fun h2 : (b.toNat : Int) = 10 => h (by omega)
      rw [this]; rfl
  rw [e]
  obtain ⟨x, hx⟩ : ∃ x : Int, (b.toNat : Int) = x := ⟨_, rfl⟩
  rw [hx]
  clear e hx
  go_enter Tryd.func76, Tryd.ntmps76
  go_wp2_with fail
  go_ret
  exact ⟨rfl, rfl⟩
theorem cblank_any (w : World) (b : UInt8) : Calls Tryd.prog 75 #[.int .u8 (b.toNat : Int)] w fun e w' => e = .returned (.bool (isBlk b)) ∧ w' = w := by
  have hx : ∀ k : Nat, ((b.toNat : Int) == (k : Int)) = decide (b.toNat = k) := by
    intro k
    by_cases h : b.toNat = k
    · rw [h]; simp
    · rw [decide_eq_false h]; simpa using fun h2 : (b.toNat : Int) = (k : Int) => h (by omega)
  have e1 : ((b.toNat : Int) == 32) = decide (b.toNat = 32) := hx 32
  have e2 : ((b.toNat : Int) == 9) = decide (b.toNat = 9) := hx 9
  have e3 : ((b.toNat : Int) == 13) = decide (b.toNat = 13) := hx 13
  have e4 : ((b.toNat : Int) == 10) = decide (b.toNat = 10) := hx 10
  by_cases h1 : b.toNat = 32
  · have e : isBlk b = true := by unfold isBlk; simp [h1]
    rw [decide_eq_true h1] at e1
    rw [e]; clear e h1 hx e2 e3 e4
    obtain ⟨x, hx⟩ : ∃ x : Int, (b.toNat : Int) = x := ⟨_, rfl⟩
    rw [hx] at e1 ⊢
    clear hx
    go_enter Tryd.func75, Tryd.ntmps75
    go_wp2_with fail
    go_ret
    exact ⟨rfl, rfl⟩
  · rw [decide_eq_false h1] at e1
    by_cases h2 : b.toNat = 9
    · have e : isBlk b = true := by unfold isBlk; simp [h2]
      rw [decide_eq_true h2] at e2
      rw [e]; clear e h1 h2 hx e3 e4
      obtain ⟨x, hx⟩ : ∃ x : Int, (b.toNat : Int) = x := ⟨_, rfl⟩
      rw [hx] at e1 e2 ⊢
      clear hx
      go_enter Tryd.func75, Tryd.ntmps75
      go_wp2_with fail
      go_ret
      exact ⟨rfl, rfl⟩
    · rw [decide_eq_false h2] at e2
      by_cases h3 : b.toNat = 13
      · have e : isBlk b = true := by unfold isBlk; simp [h3]
        rw [decide_eq_true h3] at e3
        rw [e]; clear e h1 h2 h3 hx e4
        obtain ⟨x, hx⟩ : ∃ x : Int, (b.toNat : Int) = x := ⟨_, rfl⟩
        rw [hx] at e1 e2 e3 ⊢
        clear hx
        go_enter Tryd.func75, Tryd.ntmps75
        go_wp2_with fail
        go_ret
        exact ⟨rfl, rfl⟩
      · rw [decide_eq_false h3] at e3
        have e : isBlk b = decide (b.toNat = 10) := by unfold isBlk; simp [h1, h2, h3]
        rw [e, ← e4]; clear e h1 h2 h3 hx e4
        obtain ⟨x, hx⟩ : ∃ x : Int, (b.toNat : Int) = x := ⟨_, rfl⟩
        rw [hx] at e1 e2 e3 ⊢
        clear hx
        go_enter Tryd.func75, Tryd.ntmps75
        go_wp2_with fail
        go_ret
        exact ⟨rfl, rfl⟩

theorem rmore_any (w0 w : World) (P : Nat) (s : ByteArray) (k : Nat) (ts : List LTok) (h : Rd w0 w P s k ts) (hs : s.size ≤ 9223372036854775807) :
    Calls Tryd.prog 51 #[.pointer (some ⟨P, 0, none⟩)] w fun e w' => e = .returned (.bool (decide (k < s.size))) ∧ New w w' := by
  obtain ⟨c0, c1, _, _, hB⟩ := h.cells
  clear h
  go_enter Tryd.func51, Tryd.ntmps51
  go_wp2_with fail
  go_quiet (fail)
  go_wp2_with fail
  go_ret
  exact ⟨rfl, by first | exact (New.refl w).drewN _ | exact New.refl w⟩
theorem rpeek0_any (w0 w : World) (P : Nat) (s : ByteArray) (k : Nat) (ts : List LTok) (h : Rd w0 w P s k ts) (hk : k ≤ s.size) (hs : s.size ≤ 9223372036854775806) :
    Calls Tryd.prog 64 #[.pointer (some ⟨P, 0, none⟩), I 0] w fun e w' => e = .returned (.int .u8 ((byteAt s k).toNat : Int)) ∧ New w w' := by
  obtain ⟨c0, c1, _, _, hB⟩ := h.cells
  clear h
  by_cases h0 : k < s.size
  · rw [byteAt_in s _ h0]
    have hjI : (k : Int) < (s.size : Int) := by omega
    have d1 : decide ((s.size : Int) ≤ (k : Int)) = false := decide_eq_false (by omega)

    go_enter Tryd.func64, Tryd.ntmps64
    go_wp2_with fail
    go_quiet (fail)
    go_wp2_with fail
    go_quiet (fail)
    go_wp2_with fail
    go_ret
    exact ⟨rfl, by first | exact ((New.refl w).drewN _).drewN _ | exact (New.refl w).drewN _⟩
  · rw [byteAt_out s _ h0]
    have d1 : decide ((s.size : Int) ≤ (k : Int)) = true := decide_eq_true (by omega)
    go_enter Tryd.func64, Tryd.ntmps64
    go_wp2_with fail
    go_quiet (fail)
    go_wp2_with fail
    go_ret
    exact ⟨rfl, by first | exact (New.refl w).drewN _ | exact New.refl w⟩
theorem rpeek1_any (w0 w : World) (P : Nat) (s : ByteArray) (k : Nat) (ts : List LTok) (h : Rd w0 w P s k ts) (hk : k ≤ s.size) (hs : s.size ≤ 9223372036854775806) :
    Calls Tryd.prog 64 #[.pointer (some ⟨P, 0, none⟩), I 1] w fun e w' => e = .returned (.int .u8 ((byteAt s (k + 1)).toNat : Int)) ∧ New w w' := by
  obtain ⟨c0, c1, _, _, hB⟩ := h.cells
  clear h
  by_cases h0 : k + 1 < s.size
  · obtain ⟨j, hj⟩ : ∃ j : Nat, k + 1 = j := ⟨_, rfl⟩
    have hwr : IntKind.i64.wrap ((k : Int) + 1) = (j : Int) := by rw [IntWalk.i64_in _ (by omega)]; omega
    have hj2 : j ≤ 9223372036854775807 := by omega
    rw [hj] at h0 ⊢
    rw [byteAt_in s j h0]
    have hjI : (j : Int) < (s.size : Int) := by omega
    have d1 : decide ((s.size : Int) ≤ (j : Int)) = false := decide_eq_false (by omega)
    clear hk hj
    go_enter Tryd.func64, Tryd.ntmps64
    go_wp2_with fail
    go_quiet (fail)
    go_wp2_with fail
    go_quiet (fail)
    go_wp2_with fail
    go_ret
    exact ⟨rfl, by first | exact ((New.refl w).drewN _).drewN _ | exact (New.refl w).drewN _⟩
  · rw [byteAt_out s _ h0]
    have d1 : decide ((s.size : Int) ≤ (k : Int) + 1) = true := decide_eq_true (by omega)
    go_enter Tryd.func64, Tryd.ntmps64
    go_wp2_with fail
    go_quiet (fail)
    go_wp2_with fail
    go_ret
    exact ⟨rfl, by first | exact (New.refl w).drewN _ | exact New.refl w⟩
set_option maxRecDepth 100000 in
set_option maxHeartbeats 8000000 in
theorem rwhile_ins (w0 w : World) (P : Nat) (s : ByteArray) (k0 : Nat) (ts : List LTok) (h : Rd w0 w P s k0 ts) (hk0 : k0 ≤ s.size) (hs : s.size ≤ 9223372036854775806) :
    Calls Tryd.prog 65 #[.pointer (some ⟨P, 0, none⟩), .func (Fn.func 66) #[] #[]] w fun e w' => e = .returned (.string (s.extract k0 (k0 + ((s.data.toList.drop k0).takeWhile isIns).length))) ∧ Rd w0 w' P s (k0 + ((s.data.toList.drop k0).takeWhile isIns).length) ts := by
  obtain ⟨L, hL⟩ : ∃ L, s.data.toList.drop k0 = L := ⟨_, rfl⟩
  have hlen : L.length = s.size - k0 := by rw [← hL, List.length_drop]; simp
  have hat : ∀ k (hk : k < s.size), k0 ≤ k → L[k - k0]? = some s[k] := fun k hk h0 => by
    rw [← hL, List.getElem?_drop, show k0 + (k - k0) = k by omega, Array.getElem?_toList]
    exact Array.getElem?_eq_getElem hk
  rw [hL]
  have HL := Lib.hid hlen
  have HAT := Lib.hid hat
  clear hL hlen hat
  obtain ⟨c0, c1, z1, _, hB⟩ := h.cells
  go_enter Tryd.func65, Tryd.ntmps65
  go_wp2_with fail
  clear c0 c1 z1
  go_loopw [] (fun wr => ∃ k : Nat, k0 ≤ k ∧ k ≤ s.size ∧ Hid ((L.take (k - k0)).all isIns = true) ∧ Rd w0 wr P s k ts) (fun wr => s.size - atOf wr P)
  case atStart => exact ⟨k0, Nat.le_refl _, hk0, Lib.hid (by rw [Nat.sub_self]; rfl), h⟩
  case round =>
    clear h
    obtain ⟨k, hk1, hk, HA, hR⟩ := hrel
    obtain ⟨c0, c1, z1, _, hBr⟩ := hR.cells
    have HY : Hid (atOf wr P = k) := Lib.hid (by unfold atOf; rw [c1]; simp)
    have hm := fun W (n : New wr W) => rmore_any w0 W P s k ts (hR.new n) (by omega)
    by_cases hk2 : k < s.size
    · rw [decide_eq_true hk2] at hm
      have hi := fun W => cins_any W (s[k].toNat : Int)
      have h255 : s[k].toNat < 256 := s[k].toNat_lt
      have hat := HAT.out k hk2 hk1
      have hkI : (k : Int) < (s.size : Int) := by omega
      have hfold : insideB (s[k].toNat : Int) = isIns s[k] := rfl
      rw [hfold] at hi
      clear hfold
      cases e2 : isIns s[k] with
      | true =>
        rw [e2] at hi
        have HA2 : Hid ((L.take (k + 1 - k0)).all isIns = true) := Lib.hid (by
          rw [show k + 1 - k0 = (k - k0) + 1 by omega, List.take_succ, hat, List.all_append, HA.out]
          simp [e2])
        clear e2 hat
        go_wp2_with fail
        go_region_held3 (fun w' => w'.cell? ⟨P, 0, none⟩ = some (.string s) ∧ w'.cell? ⟨P, 1, none⟩ = some (I (k : Int)) ∧ New wr w')
          ((refine ⟨New.cell (w := wr) ?_ c0, New.cell (w := wr) ?_ c1, ?_⟩ <;> (repeat (first | exact New.refl wr | refine New.drew ?_ | exact hN2 | refine New.trans ?_ hN2))))
          ((first | (go_at_call 51; refine (hm _ ((New.refl wr).drew)).mono ?_; rintro e w2 ⟨rfl, hN2⟩) | (go_at_call 66; refine (hi _).mono ?_; rintro e w3 ⟨rfl, rfl⟩)))
        rename_i hSX
        obtain ⟨e0, e1, hNX⟩ := hSX
        have hR3 := hR.new hNX
        obtain ⟨_, _, y1, _, hB3⟩ := hR3.cells
        have HR4 := Lib.hid (hR3.go (k + 1))
        have hwr : IntKind.i64.wrap ((k : Int) + 1) = ((k + 1 : Nat) : Int) := by rw [IntWalk.i64_in _ (by omega)]; omega
        clear hR hR3 c0 c1 z1
        simp only [Exit.then]
        go_wp2_with fail
        go_roundw
        case rel => exact ⟨k + 1, by omega, by omega, HA2, HR4.out⟩
        case measure =>
          have hx : atOf (w3.setCell ⟨P, 1, none⟩ (I ((k + 1 : Nat) : Int))) P = k + 1 := by
            obtain ⟨_, d1, _⟩ := HR4.out.cells
            unfold atOf; rw [d1]; simp
          first
          | (rw [hx, HY.out]; omega)
          | (rw [Int.natCast_add] at hx; simp at hx ⊢; rw [hx, HY.out]; omega)
      | false =>
        rw [e2] at hi
        have HSP : Hid ((L.takeWhile isIns).length = k - k0) := Lib.hid (takeWhile_cut _ _ _ HA.out (fun b hb => by rw [hat] at hb; cases hb; exact e2) (by rw [HL.out]; omega))
        clear e2 hat
        go_wp2_with fail
        go_region_held3 (fun w' => w'.cell? ⟨P, 0, none⟩ = some (.string s) ∧ w'.cell? ⟨P, 1, none⟩ = some (I (k : Int)) ∧ New wr w')
          ((refine ⟨New.cell (w := wr) ?_ c0, New.cell (w := wr) ?_ c1, ?_⟩ <;> (repeat (first | exact New.refl wr | refine New.drew ?_ | exact hN2 | refine New.trans ?_ hN2))))
          ((first | (go_at_call 51; refine (hm _ ((New.refl wr).drew)).mono ?_; rintro e w2 ⟨rfl, hN2⟩) | (go_at_call 66; refine (hi _).mono ?_; rintro e w3 ⟨rfl, rfl⟩)))
        rename_i hSX
        obtain ⟨e0, e1, hNX⟩ := hSX
        have HRX := Lib.hid (hR.new hNX)
        clear c0 c1 hR
        have hkI2 : (k0 : Int) ≤ (k : Int) := by omega
        simp only [Exit.then]
        go_wp2_with fail
        go_quiet (fail)
        go_wp2_with fail
        go_ret
        rw [HSP.out, show k0 + (k - k0) = k by omega]
        exact ⟨by rfl, by first | exact HRX.out.new (Keeps.drewN _ _) | exact HRX.out⟩
    · rw [decide_eq_false hk2] at hm
      have HSP : Hid ((L.takeWhile isIns).length = k - k0) := Lib.hid (takeWhile_cut _ _ _ HA.out (fun b hb => by rw [List.getElem?_eq_none (by rw [HL.out]; omega)] at hb; cases hb) (by rw [HL.out]; omega))
      have hkI2 : (k0 : Int) ≤ (k : Int) := by omega
      go_wp2_with fail
      have hS0 : (fun w' : World => w'.cell? ⟨P, 0, none⟩ = some (.string s) ∧ w'.cell? ⟨P, 1, none⟩ = some (I (k : Int))) wr.drew := ⟨New.cell ((New.refl wr).drew) c0, New.cell ((New.refl wr).drew) c1⟩
      refine wp_region_X (fun w' : World => w'.cell? ⟨P, 0, none⟩ = some (.string s) ∧ w'.cell? ⟨P, 1, none⟩ = some (I (k : Int))) [] (by kernel_rfl) hS0 ?_
      refine anyX_take 0 (by kernel_rfl) (by kernel_rfl) (by kernel_rfl) (by kernel_rfl) (by kernel_rfl) hS0 ?_
      intro oi ho; cases ho
      refine ⟨?_, fun _ _ _ h => h, Or.inl ⟨by kernel_rfl, ?_⟩, ?_⟩; rotate_left 1
      · (intro wS hSw; go_simp; try with_reducible rfl)
      simp only [Act.put, List.getElem_toArray, List.getElem_cons_succ, List.getElem_cons_zero, List.setIfInBounds_toArray, List.set_cons_zero, List.set_cons_succ]
      refine anyX_one 1 (by kernel_rfl) ?_
      intro oi ho; cases ho; intro K hK
      (try simp only [Act.put, List.getElem_toArray, List.getElem_cons_succ, List.getElem_cons_zero, List.setIfInBounds_toArray, List.set_cons_zero, List.set_cons_succ])
      go_simp
      refine (hm _ ((New.refl wr).drew)).mono ?_
      rintro e w2 ⟨rfl, k2⟩
      have hS1 : (fun w' : World => w'.cell? ⟨P, 0, none⟩ = some (.string s) ∧ w'.cell? ⟨P, 1, none⟩ = some (I (k : Int))) w2 := ⟨New.cell k2 hS0.1, New.cell k2 hS0.2⟩
      refine hK _ _ (fun _ => hS1) ?_
      clear hK K
      refine anyX_take 2 (by kernel_rfl) (by kernel_rfl) (by kernel_rfl) (by kernel_rfl) (by kernel_rfl) hS1 ?_
      intro oi ho; cases ho
      refine ⟨?_, fun _ _ _ h => h, Or.inl ⟨by kernel_rfl, ?_⟩, ?_⟩; rotate_left 1
      · (intro wS hSw; go_simp; try with_reducible rfl)
      simp only [Act.put, List.getElem_toArray, List.getElem_cons_succ, List.getElem_cons_zero, List.setIfInBounds_toArray, List.set_cons_zero, List.set_cons_succ]
      refine anyX_take 3 (by kernel_rfl) (by kernel_rfl) (by kernel_rfl) (by kernel_rfl) (by kernel_rfl) hS1 ?_
      intro oi ho; cases ho
      refine ⟨undef, fun _ _ _ h => h, Or.inr ⟨by kernel_rfl, rfl⟩, ?_⟩
      simp only [Act.put, List.getElem_toArray, List.getElem_cons_succ, List.getElem_cons_zero, List.setIfInBounds_toArray, List.set_cons_zero, List.set_cons_succ]
      refine anyX_take 4 (by kernel_rfl) (by kernel_rfl) (by kernel_rfl) (by kernel_rfl) (by kernel_rfl) hS1 ?_
      intro oi ho; cases ho
      refine ⟨undef, fun _ _ _ h => h, Or.inr ⟨by kernel_rfl, rfl⟩, ?_⟩
      simp only [Act.put, List.getElem_toArray, List.getElem_cons_succ, List.getElem_cons_zero, List.setIfInBounds_toArray, List.set_cons_zero, List.set_cons_succ]
      refine anyX_take 5 (by kernel_rfl) (by kernel_rfl) (by kernel_rfl) (by kernel_rfl) (by kernel_rfl) hS1 ?_
      intro oi ho; cases ho
      refine ⟨undef, fun _ _ _ h => h, Or.inr ⟨by kernel_rfl, rfl⟩, ?_⟩
      simp only [Act.put, List.getElem_toArray, List.getElem_cons_succ, List.getElem_cons_zero, List.setIfInBounds_toArray, List.set_cons_zero, List.set_cons_succ]
      refine anyX_take 6 (by kernel_rfl) (by kernel_rfl) (by kernel_rfl) (by kernel_rfl) (by kernel_rfl) hS1 ?_
      intro oi ho; cases ho
      refine ⟨undef, fun _ _ _ h => h, Or.inr ⟨by kernel_rfl, rfl⟩, ?_⟩
      simp only [Act.put, List.getElem_toArray, List.getElem_cons_succ, List.getElem_cons_zero, List.setIfInBounds_toArray, List.set_cons_zero, List.set_cons_succ]
      refine anyX_take 7 (by kernel_rfl) (by kernel_rfl) (by kernel_rfl) (by kernel_rfl) (by kernel_rfl) hS1 ?_
      intro oi ho; cases ho
      refine ⟨undef, fun _ _ _ h => h, Or.inr ⟨by kernel_rfl, rfl⟩, ?_⟩
      simp only [Act.put, List.getElem_toArray, List.getElem_cons_succ, List.getElem_cons_zero, List.setIfInBounds_toArray, List.set_cons_zero, List.set_cons_succ]
      refine anyX_take 8 (by kernel_rfl) (by kernel_rfl) (by kernel_rfl) (by kernel_rfl) (by kernel_rfl) hS1 ?_
      intro oi ho; cases ho
      refine ⟨undef, fun _ _ _ h => h, Or.inr ⟨by kernel_rfl, rfl⟩, ?_⟩
      simp only [Act.put, List.getElem_toArray, List.getElem_cons_succ, List.getElem_cons_zero, List.setIfInBounds_toArray, List.set_cons_zero, List.set_cons_succ]
      refine anyX_take 9 (by kernel_rfl) (by kernel_rfl) (by kernel_rfl) (by kernel_rfl) (by kernel_rfl) hS1 ?_
      intro oi ho; cases ho
      refine ⟨undef, fun _ _ _ h => h, Or.inr ⟨by kernel_rfl, rfl⟩, ?_⟩
      simp only [Act.put, List.getElem_toArray, List.getElem_cons_succ, List.getElem_cons_zero, List.setIfInBounds_toArray, List.set_cons_zero, List.set_cons_succ]
      refine anyX_take 10 (by kernel_rfl) (by kernel_rfl) (by kernel_rfl) (by kernel_rfl) (by kernel_rfl) hS1 ?_
      intro oi ho; cases ho
      refine ⟨undef, fun _ _ _ h => h, Or.inr ⟨by kernel_rfl, rfl⟩, ?_⟩
      simp only [Act.put, List.getElem_toArray, List.getElem_cons_succ, List.getElem_cons_zero, List.setIfInBounds_toArray, List.set_cons_zero, List.set_cons_succ]
      refine anyX_take 11 (by kernel_rfl) (by kernel_rfl) (by kernel_rfl) (by kernel_rfl) (by kernel_rfl) hS1 ?_
      intro oi ho; cases ho
      refine ⟨undef, fun _ _ _ h => h, Or.inr ⟨by kernel_rfl, rfl⟩, ?_⟩
      simp only [Act.put, List.getElem_toArray, List.getElem_cons_succ, List.getElem_cons_zero, List.setIfInBounds_toArray, List.set_cons_zero, List.set_cons_succ]
      refine anyX_take 12 (by kernel_rfl) (by kernel_rfl) (by kernel_rfl) (by kernel_rfl) (by kernel_rfl) hS1 ?_
      intro oi ho; cases ho
      refine ⟨undef, fun _ _ _ h => h, Or.inr ⟨by kernel_rfl, rfl⟩, ?_⟩
      simp only [Act.put, List.getElem_toArray, List.getElem_cons_succ, List.getElem_cons_zero, List.setIfInBounds_toArray, List.set_cons_zero, List.set_cons_succ]
      refine anyX_take 13 (by kernel_rfl) (by kernel_rfl) (by kernel_rfl) (by kernel_rfl) (by kernel_rfl) hS1 ?_
      intro oi ho; cases ho
      refine ⟨undef, fun _ _ _ h => h, Or.inr ⟨by kernel_rfl, rfl⟩, ?_⟩
      simp only [Act.put, List.getElem_toArray, List.getElem_cons_succ, List.getElem_cons_zero, List.setIfInBounds_toArray, List.set_cons_zero, List.set_cons_succ]
      refine anyX_take 14 (by kernel_rfl) (by kernel_rfl) (by kernel_rfl) (by kernel_rfl) (by kernel_rfl) hS1 ?_
      intro oi ho; cases ho
      refine ⟨?_, fun _ _ _ h => h, Or.inl ⟨by kernel_rfl, ?_⟩, ?_⟩; rotate_left 1
      · (intro wS hSw; go_simp; try with_reducible rfl)
      simp only [Act.put, List.getElem_toArray, List.getElem_cons_succ, List.getElem_cons_zero, List.setIfInBounds_toArray, List.set_cons_zero, List.set_cons_succ]
      refine anyX_done (by kernel_rfl) ?_
      (try simp only [Act.put, List.getElem_toArray, List.getElem_cons_succ, List.getElem_cons_zero, List.setIfInBounds_toArray, List.set_cons_zero, List.set_cons_succ])
      have e0 := hS1.1
      have e1 := hS1.2
      have HRX := Lib.hid (hR.new (((New.refl wr).drew).trans k2))
      clear hS0 hS1 c0 c1 hR k2 hm
      simp only [Exit.then]
      go_wp2_with fail
      go_quiet (fail)
      go_wp2_with fail
      go_ret
      rw [HSP.out, show k0 + (k - k0) = k by omega]
      exact ⟨by rfl, by first | exact HRX.out.new (Keeps.drewN _ _) | exact HRX.out⟩
set_option maxRecDepth 100000 in
set_option maxHeartbeats 8000000 in
theorem rwhile_dig (w0 w : World) (P : Nat) (s : ByteArray) (k0 : Nat) (ts : List LTok) (h : Rd w0 w P s k0 ts) (hk0 : k0 ≤ s.size) (hs : s.size ≤ 9223372036854775806) :
    Calls Tryd.prog 65 #[.pointer (some ⟨P, 0, none⟩), .func (Fn.func 77) #[] #[]] w fun e w' => e = .returned (.string (s.extract k0 (k0 + ((s.data.toList.drop k0).takeWhile isDig).length))) ∧ Rd w0 w' P s (k0 + ((s.data.toList.drop k0).takeWhile isDig).length) ts := by
  obtain ⟨L, hL⟩ : ∃ L, s.data.toList.drop k0 = L := ⟨_, rfl⟩
  have hlen : L.length = s.size - k0 := by rw [← hL, List.length_drop]; simp
  have hat : ∀ k (hk : k < s.size), k0 ≤ k → L[k - k0]? = some s[k] := fun k hk h0 => by
    rw [← hL, List.getElem?_drop, show k0 + (k - k0) = k by omega, Array.getElem?_toList]
    exact Array.getElem?_eq_getElem hk
  rw [hL]
  have HL := Lib.hid hlen
  have HAT := Lib.hid hat
  clear hL hlen hat
  obtain ⟨c0, c1, z1, _, hB⟩ := h.cells
  go_enter Tryd.func65, Tryd.ntmps65
  go_wp2_with fail
  clear c0 c1 z1
  go_loopw [] (fun wr => ∃ k : Nat, k0 ≤ k ∧ k ≤ s.size ∧ Hid ((L.take (k - k0)).all isDig = true) ∧ Rd w0 wr P s k ts) (fun wr => s.size - atOf wr P)
  case atStart => exact ⟨k0, Nat.le_refl _, hk0, Lib.hid (by rw [Nat.sub_self]; rfl), h⟩
  case round =>
    clear h
    obtain ⟨k, hk1, hk, HA, hR⟩ := hrel
    obtain ⟨c0, c1, z1, _, hBr⟩ := hR.cells
    have HY : Hid (atOf wr P = k) := Lib.hid (by unfold atOf; rw [c1]; simp)
    have hm := fun W (n : New wr W) => rmore_any w0 W P s k ts (hR.new n) (by omega)
    by_cases hk2 : k < s.size
    · rw [decide_eq_true hk2] at hm
      have hi := fun W => cdig_any W (s[k].toNat : Int)
      have h255 : s[k].toNat < 256 := s[k].toNat_lt
      have hat := HAT.out k hk2 hk1
      have hkI : (k : Int) < (s.size : Int) := by omega
      have hfold : digitB (s[k].toNat : Int) = isDig s[k] := rfl
      rw [hfold] at hi
      clear hfold
      cases e2 : isDig s[k] with
      | true =>
        rw [e2] at hi
        have HA2 : Hid ((L.take (k + 1 - k0)).all isDig = true) := Lib.hid (by
          rw [show k + 1 - k0 = (k - k0) + 1 by omega, List.take_succ, hat, List.all_append, HA.out]
          simp [e2])
        clear e2 hat
        go_wp2_with fail
        go_region_held3 (fun w' => w'.cell? ⟨P, 0, none⟩ = some (.string s) ∧ w'.cell? ⟨P, 1, none⟩ = some (I (k : Int)) ∧ New wr w')
          ((refine ⟨New.cell (w := wr) ?_ c0, New.cell (w := wr) ?_ c1, ?_⟩ <;> (repeat (first | exact New.refl wr | refine New.drew ?_ | exact hN2 | refine New.trans ?_ hN2))))
          ((first | (go_at_call 51; refine (hm _ ((New.refl wr).drew)).mono ?_; rintro e w2 ⟨rfl, hN2⟩) | (go_at_call 77; refine (hi _).mono ?_; rintro e w3 ⟨rfl, rfl⟩)))
        rename_i hSX
        obtain ⟨e0, e1, hNX⟩ := hSX
        have hR3 := hR.new hNX
        obtain ⟨_, _, y1, _, hB3⟩ := hR3.cells
        have HR4 := Lib.hid (hR3.go (k + 1))
        have hwr : IntKind.i64.wrap ((k : Int) + 1) = ((k + 1 : Nat) : Int) := by rw [IntWalk.i64_in _ (by omega)]; omega
        clear hR hR3 c0 c1 z1
        simp only [Exit.then]
        go_wp2_with fail
        go_roundw
        case rel => exact ⟨k + 1, by omega, by omega, HA2, HR4.out⟩
        case measure =>
          have hx : atOf (w3.setCell ⟨P, 1, none⟩ (I ((k + 1 : Nat) : Int))) P = k + 1 := by
            obtain ⟨_, d1, _⟩ := HR4.out.cells
            unfold atOf; rw [d1]; simp
          first
          | (rw [hx, HY.out]; omega)
          | (rw [Int.natCast_add] at hx; simp at hx ⊢; rw [hx, HY.out]; omega)
      | false =>
        rw [e2] at hi
        have HSP : Hid ((L.takeWhile isDig).length = k - k0) := Lib.hid (takeWhile_cut _ _ _ HA.out (fun b hb => by rw [hat] at hb; cases hb; exact e2) (by rw [HL.out]; omega))
        clear e2 hat
        go_wp2_with fail
        go_region_held3 (fun w' => w'.cell? ⟨P, 0, none⟩ = some (.string s) ∧ w'.cell? ⟨P, 1, none⟩ = some (I (k : Int)) ∧ New wr w')
          ((refine ⟨New.cell (w := wr) ?_ c0, New.cell (w := wr) ?_ c1, ?_⟩ <;> (repeat (first | exact New.refl wr | refine New.drew ?_ | exact hN2 | refine New.trans ?_ hN2))))
          ((first | (go_at_call 51; refine (hm _ ((New.refl wr).drew)).mono ?_; rintro e w2 ⟨rfl, hN2⟩) | (go_at_call 77; refine (hi _).mono ?_; rintro e w3 ⟨rfl, rfl⟩)))
        rename_i hSX
        obtain ⟨e0, e1, hNX⟩ := hSX
        have HRX := Lib.hid (hR.new hNX)
        clear c0 c1 hR
        have hkI2 : (k0 : Int) ≤ (k : Int) := by omega
        simp only [Exit.then]
        go_wp2_with fail
        go_quiet (fail)
        go_wp2_with fail
        go_ret
        rw [HSP.out, show k0 + (k - k0) = k by omega]
        exact ⟨by rfl, by first | exact HRX.out.new (Keeps.drewN _ _) | exact HRX.out⟩
    · rw [decide_eq_false hk2] at hm
      have HSP : Hid ((L.takeWhile isDig).length = k - k0) := Lib.hid (takeWhile_cut _ _ _ HA.out (fun b hb => by rw [List.getElem?_eq_none (by rw [HL.out]; omega)] at hb; cases hb) (by rw [HL.out]; omega))
      have hkI2 : (k0 : Int) ≤ (k : Int) := by omega
      go_wp2_with fail
      have hS0 : (fun w' : World => w'.cell? ⟨P, 0, none⟩ = some (.string s) ∧ w'.cell? ⟨P, 1, none⟩ = some (I (k : Int))) wr.drew := ⟨New.cell ((New.refl wr).drew) c0, New.cell ((New.refl wr).drew) c1⟩
      refine wp_region_X (fun w' : World => w'.cell? ⟨P, 0, none⟩ = some (.string s) ∧ w'.cell? ⟨P, 1, none⟩ = some (I (k : Int))) [] (by kernel_rfl) hS0 ?_
      refine anyX_take 0 (by kernel_rfl) (by kernel_rfl) (by kernel_rfl) (by kernel_rfl) (by kernel_rfl) hS0 ?_
      intro oi ho; cases ho
      refine ⟨?_, fun _ _ _ h => h, Or.inl ⟨by kernel_rfl, ?_⟩, ?_⟩; rotate_left 1
      · (intro wS hSw; go_simp; try with_reducible rfl)
      simp only [Act.put, List.getElem_toArray, List.getElem_cons_succ, List.getElem_cons_zero, List.setIfInBounds_toArray, List.set_cons_zero, List.set_cons_succ]
      refine anyX_one 1 (by kernel_rfl) ?_
      intro oi ho; cases ho; intro K hK
      (try simp only [Act.put, List.getElem_toArray, List.getElem_cons_succ, List.getElem_cons_zero, List.setIfInBounds_toArray, List.set_cons_zero, List.set_cons_succ])
      go_simp
      refine (hm _ ((New.refl wr).drew)).mono ?_
      rintro e w2 ⟨rfl, k2⟩
      have hS1 : (fun w' : World => w'.cell? ⟨P, 0, none⟩ = some (.string s) ∧ w'.cell? ⟨P, 1, none⟩ = some (I (k : Int))) w2 := ⟨New.cell k2 hS0.1, New.cell k2 hS0.2⟩
      refine hK _ _ (fun _ => hS1) ?_
      clear hK K
      refine anyX_take 2 (by kernel_rfl) (by kernel_rfl) (by kernel_rfl) (by kernel_rfl) (by kernel_rfl) hS1 ?_
      intro oi ho; cases ho
      refine ⟨?_, fun _ _ _ h => h, Or.inl ⟨by kernel_rfl, ?_⟩, ?_⟩; rotate_left 1
      · (intro wS hSw; go_simp; try with_reducible rfl)
      simp only [Act.put, List.getElem_toArray, List.getElem_cons_succ, List.getElem_cons_zero, List.setIfInBounds_toArray, List.set_cons_zero, List.set_cons_succ]
      refine anyX_take 3 (by kernel_rfl) (by kernel_rfl) (by kernel_rfl) (by kernel_rfl) (by kernel_rfl) hS1 ?_
      intro oi ho; cases ho
      refine ⟨undef, fun _ _ _ h => h, Or.inr ⟨by kernel_rfl, rfl⟩, ?_⟩
      simp only [Act.put, List.getElem_toArray, List.getElem_cons_succ, List.getElem_cons_zero, List.setIfInBounds_toArray, List.set_cons_zero, List.set_cons_succ]
      refine anyX_take 4 (by kernel_rfl) (by kernel_rfl) (by kernel_rfl) (by kernel_rfl) (by kernel_rfl) hS1 ?_
      intro oi ho; cases ho
      refine ⟨undef, fun _ _ _ h => h, Or.inr ⟨by kernel_rfl, rfl⟩, ?_⟩
      simp only [Act.put, List.getElem_toArray, List.getElem_cons_succ, List.getElem_cons_zero, List.setIfInBounds_toArray, List.set_cons_zero, List.set_cons_succ]
      refine anyX_take 5 (by kernel_rfl) (by kernel_rfl) (by kernel_rfl) (by kernel_rfl) (by kernel_rfl) hS1 ?_
      intro oi ho; cases ho
      refine ⟨undef, fun _ _ _ h => h, Or.inr ⟨by kernel_rfl, rfl⟩, ?_⟩
      simp only [Act.put, List.getElem_toArray, List.getElem_cons_succ, List.getElem_cons_zero, List.setIfInBounds_toArray, List.set_cons_zero, List.set_cons_succ]
      refine anyX_take 6 (by kernel_rfl) (by kernel_rfl) (by kernel_rfl) (by kernel_rfl) (by kernel_rfl) hS1 ?_
      intro oi ho; cases ho
      refine ⟨undef, fun _ _ _ h => h, Or.inr ⟨by kernel_rfl, rfl⟩, ?_⟩
      simp only [Act.put, List.getElem_toArray, List.getElem_cons_succ, List.getElem_cons_zero, List.setIfInBounds_toArray, List.set_cons_zero, List.set_cons_succ]
      refine anyX_take 7 (by kernel_rfl) (by kernel_rfl) (by kernel_rfl) (by kernel_rfl) (by kernel_rfl) hS1 ?_
      intro oi ho; cases ho
      refine ⟨undef, fun _ _ _ h => h, Or.inr ⟨by kernel_rfl, rfl⟩, ?_⟩
      simp only [Act.put, List.getElem_toArray, List.getElem_cons_succ, List.getElem_cons_zero, List.setIfInBounds_toArray, List.set_cons_zero, List.set_cons_succ]
      refine anyX_take 8 (by kernel_rfl) (by kernel_rfl) (by kernel_rfl) (by kernel_rfl) (by kernel_rfl) hS1 ?_
      intro oi ho; cases ho
      refine ⟨undef, fun _ _ _ h => h, Or.inr ⟨by kernel_rfl, rfl⟩, ?_⟩
      simp only [Act.put, List.getElem_toArray, List.getElem_cons_succ, List.getElem_cons_zero, List.setIfInBounds_toArray, List.set_cons_zero, List.set_cons_succ]
      refine anyX_take 9 (by kernel_rfl) (by kernel_rfl) (by kernel_rfl) (by kernel_rfl) (by kernel_rfl) hS1 ?_
      intro oi ho; cases ho
      refine ⟨undef, fun _ _ _ h => h, Or.inr ⟨by kernel_rfl, rfl⟩, ?_⟩
      simp only [Act.put, List.getElem_toArray, List.getElem_cons_succ, List.getElem_cons_zero, List.setIfInBounds_toArray, List.set_cons_zero, List.set_cons_succ]
      refine anyX_take 10 (by kernel_rfl) (by kernel_rfl) (by kernel_rfl) (by kernel_rfl) (by kernel_rfl) hS1 ?_
      intro oi ho; cases ho
      refine ⟨undef, fun _ _ _ h => h, Or.inr ⟨by kernel_rfl, rfl⟩, ?_⟩
      simp only [Act.put, List.getElem_toArray, List.getElem_cons_succ, List.getElem_cons_zero, List.setIfInBounds_toArray, List.set_cons_zero, List.set_cons_succ]
      refine anyX_take 11 (by kernel_rfl) (by kernel_rfl) (by kernel_rfl) (by kernel_rfl) (by kernel_rfl) hS1 ?_
      intro oi ho; cases ho
      refine ⟨undef, fun _ _ _ h => h, Or.inr ⟨by kernel_rfl, rfl⟩, ?_⟩
      simp only [Act.put, List.getElem_toArray, List.getElem_cons_succ, List.getElem_cons_zero, List.setIfInBounds_toArray, List.set_cons_zero, List.set_cons_succ]
      refine anyX_take 12 (by kernel_rfl) (by kernel_rfl) (by kernel_rfl) (by kernel_rfl) (by kernel_rfl) hS1 ?_
      intro oi ho; cases ho
      refine ⟨undef, fun _ _ _ h => h, Or.inr ⟨by kernel_rfl, rfl⟩, ?_⟩
      simp only [Act.put, List.getElem_toArray, List.getElem_cons_succ, List.getElem_cons_zero, List.setIfInBounds_toArray, List.set_cons_zero, List.set_cons_succ]
      refine anyX_take 13 (by kernel_rfl) (by kernel_rfl) (by kernel_rfl) (by kernel_rfl) (by kernel_rfl) hS1 ?_
      intro oi ho; cases ho
      refine ⟨undef, fun _ _ _ h => h, Or.inr ⟨by kernel_rfl, rfl⟩, ?_⟩
      simp only [Act.put, List.getElem_toArray, List.getElem_cons_succ, List.getElem_cons_zero, List.setIfInBounds_toArray, List.set_cons_zero, List.set_cons_succ]
      refine anyX_take 14 (by kernel_rfl) (by kernel_rfl) (by kernel_rfl) (by kernel_rfl) (by kernel_rfl) hS1 ?_
      intro oi ho; cases ho
      refine ⟨?_, fun _ _ _ h => h, Or.inl ⟨by kernel_rfl, ?_⟩, ?_⟩; rotate_left 1
      · (intro wS hSw; go_simp; try with_reducible rfl)
      simp only [Act.put, List.getElem_toArray, List.getElem_cons_succ, List.getElem_cons_zero, List.setIfInBounds_toArray, List.set_cons_zero, List.set_cons_succ]
      refine anyX_done (by kernel_rfl) ?_
      (try simp only [Act.put, List.getElem_toArray, List.getElem_cons_succ, List.getElem_cons_zero, List.setIfInBounds_toArray, List.set_cons_zero, List.set_cons_succ])
      have e0 := hS1.1
      have e1 := hS1.2
      have HRX := Lib.hid (hR.new (((New.refl wr).drew).trans k2))
      clear hS0 hS1 c0 c1 hR k2 hm
      simp only [Exit.then]
      go_wp2_with fail
      go_quiet (fail)
      go_wp2_with fail
      go_ret
      rw [HSP.out, show k0 + (k - k0) = k by omega]
      exact ⟨by rfl, by first | exact HRX.out.new (Keeps.drewN _ _) | exact HRX.out⟩
set_option maxRecDepth 100000 in
set_option maxHeartbeats 8000000 in
theorem rwhile_eol (w0 w : World) (P : Nat) (s : ByteArray) (k0 : Nat) (ts : List LTok) (h : Rd w0 w P s k0 ts) (hk0 : k0 ≤ s.size) (hs : s.size ≤ 9223372036854775806) :
    Calls Tryd.prog 65 #[.pointer (some ⟨P, 0, none⟩), .func (Fn.func 76) #[] #[]] w fun e w' => e = .returned (.string (s.extract k0 (k0 + ((s.data.toList.drop k0).takeWhile notEol).length))) ∧ Rd w0 w' P s (k0 + ((s.data.toList.drop k0).takeWhile notEol).length) ts := by
  obtain ⟨L, hL⟩ : ∃ L, s.data.toList.drop k0 = L := ⟨_, rfl⟩
  have hlen : L.length = s.size - k0 := by rw [← hL, List.length_drop]; simp
  have hat : ∀ k (hk : k < s.size), k0 ≤ k → L[k - k0]? = some s[k] := fun k hk h0 => by
    rw [← hL, List.getElem?_drop, show k0 + (k - k0) = k by omega, Array.getElem?_toList]
    exact Array.getElem?_eq_getElem hk
  rw [hL]
  have HL := Lib.hid hlen
  have HAT := Lib.hid hat
  clear hL hlen hat
  obtain ⟨c0, c1, z1, _, hB⟩ := h.cells
  go_enter Tryd.func65, Tryd.ntmps65
  go_wp2_with fail
  clear c0 c1 z1
  go_loopw [] (fun wr => ∃ k : Nat, k0 ≤ k ∧ k ≤ s.size ∧ Hid ((L.take (k - k0)).all notEol = true) ∧ Rd w0 wr P s k ts) (fun wr => s.size - atOf wr P)
  case atStart => exact ⟨k0, Nat.le_refl _, hk0, Lib.hid (by rw [Nat.sub_self]; rfl), h⟩
  case round =>
    clear h
    obtain ⟨k, hk1, hk, HA, hR⟩ := hrel
    obtain ⟨c0, c1, z1, _, hBr⟩ := hR.cells
    have HY : Hid (atOf wr P = k) := Lib.hid (by unfold atOf; rw [c1]; simp)
    have hm := fun W (n : New wr W) => rmore_any w0 W P s k ts (hR.new n) (by omega)
    by_cases hk2 : k < s.size
    · rw [decide_eq_true hk2] at hm
      have hi := fun W => ceol_any W s[k]
      have h255 : s[k].toNat < 256 := s[k].toNat_lt
      have hat := HAT.out k hk2 hk1
      have hkI : (k : Int) < (s.size : Int) := by omega
      have hfold : notEol s[k] = notEol s[k] := rfl
      rw [hfold] at hi
      clear hfold
      cases e2 : notEol s[k] with
      | true =>
        rw [e2] at hi
        have HA2 : Hid ((L.take (k + 1 - k0)).all notEol = true) := Lib.hid (by
          rw [show k + 1 - k0 = (k - k0) + 1 by omega, List.take_succ, hat, List.all_append, HA.out]
          simp [e2])
        clear e2 hat
        go_wp2_with fail
        go_region_held3 (fun w' => w'.cell? ⟨P, 0, none⟩ = some (.string s) ∧ w'.cell? ⟨P, 1, none⟩ = some (I (k : Int)) ∧ New wr w')
          ((refine ⟨New.cell (w := wr) ?_ c0, New.cell (w := wr) ?_ c1, ?_⟩ <;> (repeat (first | exact New.refl wr | refine New.drew ?_ | exact hN2 | refine New.trans ?_ hN2))))
          ((first | (go_at_call 51; refine (hm _ ((New.refl wr).drew)).mono ?_; rintro e w2 ⟨rfl, hN2⟩) | (go_at_call 76; refine (hi _).mono ?_; rintro e w3 ⟨rfl, rfl⟩)))
        rename_i hSX
        obtain ⟨e0, e1, hNX⟩ := hSX
        have hR3 := hR.new hNX
        obtain ⟨_, _, y1, _, hB3⟩ := hR3.cells
        have HR4 := Lib.hid (hR3.go (k + 1))
        have hwr : IntKind.i64.wrap ((k : Int) + 1) = ((k + 1 : Nat) : Int) := by rw [IntWalk.i64_in _ (by omega)]; omega
        clear hR hR3 c0 c1 z1
        simp only [Exit.then]
        go_wp2_with fail
        go_roundw
        case rel => exact ⟨k + 1, by omega, by omega, HA2, HR4.out⟩
        case measure =>
          have hx : atOf (w3.setCell ⟨P, 1, none⟩ (I ((k + 1 : Nat) : Int))) P = k + 1 := by
            obtain ⟨_, d1, _⟩ := HR4.out.cells
            unfold atOf; rw [d1]; simp
          first
          | (rw [hx, HY.out]; omega)
          | (rw [Int.natCast_add] at hx; simp at hx ⊢; rw [hx, HY.out]; omega)
      | false =>
        rw [e2] at hi
        have HSP : Hid ((L.takeWhile notEol).length = k - k0) := Lib.hid (takeWhile_cut _ _ _ HA.out (fun b hb => by rw [hat] at hb; cases hb; exact e2) (by rw [HL.out]; omega))
        clear e2 hat
        go_wp2_with fail
        go_region_held3 (fun w' => w'.cell? ⟨P, 0, none⟩ = some (.string s) ∧ w'.cell? ⟨P, 1, none⟩ = some (I (k : Int)) ∧ New wr w')
          ((refine ⟨New.cell (w := wr) ?_ c0, New.cell (w := wr) ?_ c1, ?_⟩ <;> (repeat (first | exact New.refl wr | refine New.drew ?_ | exact hN2 | refine New.trans ?_ hN2))))
          ((first | (go_at_call 51; refine (hm _ ((New.refl wr).drew)).mono ?_; rintro e w2 ⟨rfl, hN2⟩) | (go_at_call 76; refine (hi _).mono ?_; rintro e w3 ⟨rfl, rfl⟩)))
        rename_i hSX
        obtain ⟨e0, e1, hNX⟩ := hSX
        have HRX := Lib.hid (hR.new hNX)
        clear c0 c1 hR
        have hkI2 : (k0 : Int) ≤ (k : Int) := by omega
        simp only [Exit.then]
        go_wp2_with fail
        go_quiet (fail)
        go_wp2_with fail
        go_ret
        rw [HSP.out, show k0 + (k - k0) = k by omega]
        exact ⟨by rfl, by first | exact HRX.out.new (Keeps.drewN _ _) | exact HRX.out⟩
    · rw [decide_eq_false hk2] at hm
      have HSP : Hid ((L.takeWhile notEol).length = k - k0) := Lib.hid (takeWhile_cut _ _ _ HA.out (fun b hb => by rw [List.getElem?_eq_none (by rw [HL.out]; omega)] at hb; cases hb) (by rw [HL.out]; omega))
      have hkI2 : (k0 : Int) ≤ (k : Int) := by omega
      go_wp2_with fail
      have hS0 : (fun w' : World => w'.cell? ⟨P, 0, none⟩ = some (.string s) ∧ w'.cell? ⟨P, 1, none⟩ = some (I (k : Int))) wr.drew := ⟨New.cell ((New.refl wr).drew) c0, New.cell ((New.refl wr).drew) c1⟩
      refine wp_region_X (fun w' : World => w'.cell? ⟨P, 0, none⟩ = some (.string s) ∧ w'.cell? ⟨P, 1, none⟩ = some (I (k : Int))) [] (by kernel_rfl) hS0 ?_
      refine anyX_take 0 (by kernel_rfl) (by kernel_rfl) (by kernel_rfl) (by kernel_rfl) (by kernel_rfl) hS0 ?_
      intro oi ho; cases ho
      refine ⟨?_, fun _ _ _ h => h, Or.inl ⟨by kernel_rfl, ?_⟩, ?_⟩; rotate_left 1
      · (intro wS hSw; go_simp; try with_reducible rfl)
      simp only [Act.put, List.getElem_toArray, List.getElem_cons_succ, List.getElem_cons_zero, List.setIfInBounds_toArray, List.set_cons_zero, List.set_cons_succ]
      refine anyX_one 1 (by kernel_rfl) ?_
      intro oi ho; cases ho; intro K hK
      (try simp only [Act.put, List.getElem_toArray, List.getElem_cons_succ, List.getElem_cons_zero, List.setIfInBounds_toArray, List.set_cons_zero, List.set_cons_succ])
      go_simp
      refine (hm _ ((New.refl wr).drew)).mono ?_
      rintro e w2 ⟨rfl, k2⟩
      have hS1 : (fun w' : World => w'.cell? ⟨P, 0, none⟩ = some (.string s) ∧ w'.cell? ⟨P, 1, none⟩ = some (I (k : Int))) w2 := ⟨New.cell k2 hS0.1, New.cell k2 hS0.2⟩
      refine hK _ _ (fun _ => hS1) ?_
      clear hK K
      refine anyX_take 2 (by kernel_rfl) (by kernel_rfl) (by kernel_rfl) (by kernel_rfl) (by kernel_rfl) hS1 ?_
      intro oi ho; cases ho
      refine ⟨?_, fun _ _ _ h => h, Or.inl ⟨by kernel_rfl, ?_⟩, ?_⟩; rotate_left 1
      · (intro wS hSw; go_simp; try with_reducible rfl)
      simp only [Act.put, List.getElem_toArray, List.getElem_cons_succ, List.getElem_cons_zero, List.setIfInBounds_toArray, List.set_cons_zero, List.set_cons_succ]
      refine anyX_take 3 (by kernel_rfl) (by kernel_rfl) (by kernel_rfl) (by kernel_rfl) (by kernel_rfl) hS1 ?_
      intro oi ho; cases ho
      refine ⟨undef, fun _ _ _ h => h, Or.inr ⟨by kernel_rfl, rfl⟩, ?_⟩
      simp only [Act.put, List.getElem_toArray, List.getElem_cons_succ, List.getElem_cons_zero, List.setIfInBounds_toArray, List.set_cons_zero, List.set_cons_succ]
      refine anyX_take 4 (by kernel_rfl) (by kernel_rfl) (by kernel_rfl) (by kernel_rfl) (by kernel_rfl) hS1 ?_
      intro oi ho; cases ho
      refine ⟨undef, fun _ _ _ h => h, Or.inr ⟨by kernel_rfl, rfl⟩, ?_⟩
      simp only [Act.put, List.getElem_toArray, List.getElem_cons_succ, List.getElem_cons_zero, List.setIfInBounds_toArray, List.set_cons_zero, List.set_cons_succ]
      refine anyX_take 5 (by kernel_rfl) (by kernel_rfl) (by kernel_rfl) (by kernel_rfl) (by kernel_rfl) hS1 ?_
      intro oi ho; cases ho
      refine ⟨undef, fun _ _ _ h => h, Or.inr ⟨by kernel_rfl, rfl⟩, ?_⟩
      simp only [Act.put, List.getElem_toArray, List.getElem_cons_succ, List.getElem_cons_zero, List.setIfInBounds_toArray, List.set_cons_zero, List.set_cons_succ]
      refine anyX_take 6 (by kernel_rfl) (by kernel_rfl) (by kernel_rfl) (by kernel_rfl) (by kernel_rfl) hS1 ?_
      intro oi ho; cases ho
      refine ⟨undef, fun _ _ _ h => h, Or.inr ⟨by kernel_rfl, rfl⟩, ?_⟩
      simp only [Act.put, List.getElem_toArray, List.getElem_cons_succ, List.getElem_cons_zero, List.setIfInBounds_toArray, List.set_cons_zero, List.set_cons_succ]
      refine anyX_take 7 (by kernel_rfl) (by kernel_rfl) (by kernel_rfl) (by kernel_rfl) (by kernel_rfl) hS1 ?_
      intro oi ho; cases ho
      refine ⟨undef, fun _ _ _ h => h, Or.inr ⟨by kernel_rfl, rfl⟩, ?_⟩
      simp only [Act.put, List.getElem_toArray, List.getElem_cons_succ, List.getElem_cons_zero, List.setIfInBounds_toArray, List.set_cons_zero, List.set_cons_succ]
      refine anyX_take 8 (by kernel_rfl) (by kernel_rfl) (by kernel_rfl) (by kernel_rfl) (by kernel_rfl) hS1 ?_
      intro oi ho; cases ho
      refine ⟨undef, fun _ _ _ h => h, Or.inr ⟨by kernel_rfl, rfl⟩, ?_⟩
      simp only [Act.put, List.getElem_toArray, List.getElem_cons_succ, List.getElem_cons_zero, List.setIfInBounds_toArray, List.set_cons_zero, List.set_cons_succ]
      refine anyX_take 9 (by kernel_rfl) (by kernel_rfl) (by kernel_rfl) (by kernel_rfl) (by kernel_rfl) hS1 ?_
      intro oi ho; cases ho
      refine ⟨undef, fun _ _ _ h => h, Or.inr ⟨by kernel_rfl, rfl⟩, ?_⟩
      simp only [Act.put, List.getElem_toArray, List.getElem_cons_succ, List.getElem_cons_zero, List.setIfInBounds_toArray, List.set_cons_zero, List.set_cons_succ]
      refine anyX_take 10 (by kernel_rfl) (by kernel_rfl) (by kernel_rfl) (by kernel_rfl) (by kernel_rfl) hS1 ?_
      intro oi ho; cases ho
      refine ⟨undef, fun _ _ _ h => h, Or.inr ⟨by kernel_rfl, rfl⟩, ?_⟩
      simp only [Act.put, List.getElem_toArray, List.getElem_cons_succ, List.getElem_cons_zero, List.setIfInBounds_toArray, List.set_cons_zero, List.set_cons_succ]
      refine anyX_take 11 (by kernel_rfl) (by kernel_rfl) (by kernel_rfl) (by kernel_rfl) (by kernel_rfl) hS1 ?_
      intro oi ho; cases ho
      refine ⟨undef, fun _ _ _ h => h, Or.inr ⟨by kernel_rfl, rfl⟩, ?_⟩
      simp only [Act.put, List.getElem_toArray, List.getElem_cons_succ, List.getElem_cons_zero, List.setIfInBounds_toArray, List.set_cons_zero, List.set_cons_succ]
      refine anyX_take 12 (by kernel_rfl) (by kernel_rfl) (by kernel_rfl) (by kernel_rfl) (by kernel_rfl) hS1 ?_
      intro oi ho; cases ho
      refine ⟨undef, fun _ _ _ h => h, Or.inr ⟨by kernel_rfl, rfl⟩, ?_⟩
      simp only [Act.put, List.getElem_toArray, List.getElem_cons_succ, List.getElem_cons_zero, List.setIfInBounds_toArray, List.set_cons_zero, List.set_cons_succ]
      refine anyX_take 13 (by kernel_rfl) (by kernel_rfl) (by kernel_rfl) (by kernel_rfl) (by kernel_rfl) hS1 ?_
      intro oi ho; cases ho
      refine ⟨undef, fun _ _ _ h => h, Or.inr ⟨by kernel_rfl, rfl⟩, ?_⟩
      simp only [Act.put, List.getElem_toArray, List.getElem_cons_succ, List.getElem_cons_zero, List.setIfInBounds_toArray, List.set_cons_zero, List.set_cons_succ]
      refine anyX_take 14 (by kernel_rfl) (by kernel_rfl) (by kernel_rfl) (by kernel_rfl) (by kernel_rfl) hS1 ?_
      intro oi ho; cases ho
      refine ⟨?_, fun _ _ _ h => h, Or.inl ⟨by kernel_rfl, ?_⟩, ?_⟩; rotate_left 1
      · (intro wS hSw; go_simp; try with_reducible rfl)
      simp only [Act.put, List.getElem_toArray, List.getElem_cons_succ, List.getElem_cons_zero, List.setIfInBounds_toArray, List.set_cons_zero, List.set_cons_succ]
      refine anyX_done (by kernel_rfl) ?_
      (try simp only [Act.put, List.getElem_toArray, List.getElem_cons_succ, List.getElem_cons_zero, List.setIfInBounds_toArray, List.set_cons_zero, List.set_cons_succ])
      have e0 := hS1.1
      have e1 := hS1.2
      have HRX := Lib.hid (hR.new (((New.refl wr).drew).trans k2))
      clear hS0 hS1 c0 c1 hR k2 hm
      simp only [Exit.then]
      go_wp2_with fail
      go_quiet (fail)
      go_wp2_with fail
      go_ret
      rw [HSP.out, show k0 + (k - k0) = k by omega]
      exact ⟨by rfl, by first | exact HRX.out.new (Keeps.drewN _ _) | exact HRX.out⟩
end Go.Proofs.YtohalcbhckahmaaDoor
