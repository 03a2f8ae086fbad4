/-
  'NetPlays': the law returns true at every input; what it is handed reads afterwards as before.
-/
import Derived.Test.YtijlgcbnoekmeaaRead
import Derived.Test.YtijlgcbnoekmeaaReadNet
import Derived.Test.YtijlgcbnoekmeaaNetL
import Derived.Test.YtijlgcbnoekmeaaReadOps
namespace Go.Proofs.Ytijlgcbnoekmeaa.netPlays
open Go Go.RowKit Go.ChangeShapes Go.WideShapes Go.ChangeAt
open Go.ChangeMaps (open_string shut_string)
set_option linter.all false

set_option maxRecDepth 100000 in
set_option maxHeartbeats 2000000 in
theorem bad (w : World) (n0 : Int) (b0 : Option Addr) (c0 : Nat) (x0 : List ArcD) (h0 : SlAt w b0 (arcsCells x0)) (l0 : x0.length * 40 ≤ 140737488351232) (he : netErr n0 x0 ≠ 0) (b1 : Option Addr) (c1 k1 : Nat) :
    Calls Try.prog 4 #[.agg #[I n0, .slice b0 x0.length c0], .slice b1 k1 c1] w fun e w' => e = .returned (.bool true) ∧ New w w' := by
  have hnew : ∀ w1 b2 c2, SlAt w1 b2 (arcsCells x0) → Calls Try.prog 14 #[.agg #[I n0, .slice b2 x0.length c2]] w1 fun e w' => e = .returned (.tuple #[.pointer none, I (netErr n0 x0)]) ∧ New w1 w' :=
    fun w1 b2 c2 h => new_bad w1 n0 x0 b2 c2 h (by omega) he
  have hchk : ∀ w1, New w w1 → Calls Try.prog 11 #[.agg #[I n0, .slice b0 x0.length c0]] w1 fun e w' => e = .returned (I (netErr n0 x0)) ∧ New w1 w' :=
    fun w1 k => refNetCheck_any n0 b0 c0 x0 w1 (h0.new k) (by omega)
  have hne : (netErr n0 x0 != 0) = true := by simpa using he
  have hne2 : (netErr n0 x0 == 0) = false := by simpa using he
  generalize netErr n0 x0 = q at hnew hchk hne hne2
  clear he
  go_enter Try.func4, Try.ntmps4
  have kA : New w (w.alloc (.cells #[I n0, .slice b0 x0.length c0] 24)) := (New.refl w).alloc _
  have a0 : (w.alloc (.cells #[I n0, .slice b0 x0.length c0] 24)).cell? ⟨w.heap.size, 0, none⟩ = some (I n0) := by simp
  have a1 : (w.alloc (.cells #[I n0, .slice b0 x0.length c0] 24)).cell? ⟨w.heap.size, 1, none⟩ = some (.slice b0 x0.length c0) := by simp
  go_wp2_with fail
  generalize w.alloc (.cells #[I n0, .slice b0 x0.length c0] 24) = wA at kA a0 a1 ⊢
  refine (refNet_any n0 b0 c0 x0 _ (h0.new kA) l0).mono ?_
  rintro e w2 ⟨b2, c2, rfl, o2, k2⟩
  have kB := kA.trans k2
  have a02 := k2.cell a0
  have a12 := k2.cell a1
  have hzA := kA.size
  have hzA2 := k2.size
  have hwA : w.heap.size < wA.heap.size := World.block_lt_of_cell? wA _ a0
  clear k2 a0 a1
  go_wp2_with fail
  have al : New w2 (w2.alloc (.cells #[I n0, .slice b2 x0.length c2] 24)) := (New.refl w2).alloc _
  have d0 : (w2.alloc (.cells #[I n0, .slice b2 x0.length c2] 24)).cell? ⟨w2.heap.size, 0, none⟩ = some (I n0) := by simp
  have d1 : (w2.alloc (.cells #[I n0, .slice b2 x0.length c2] 24)).cell? ⟨w2.heap.size, 1, none⟩ = some (.slice b2 x0.length c2) := by simp
  have hdz : w2.heap.size < (w2.alloc (.cells #[I n0, .slice b2 x0.length c2] 24)).heap.size := by simp
  have kC := kB.trans al
  have a03 := al.cell a02
  have a13 := al.cell a12
  have o3 := al.owns o2
  have h23 : ∀ k, blk b2 k → wA.heap.size ≤ k ∧ k < w2.heap.size := fun k hk => own_of_blk o2 hk
  clear o2 al a02 a12 kB
  generalize w2.alloc (.cells #[I n0, .slice b2 x0.length c2] 24) = wB at d0 d1 hdz kC a03 a13 o3 ⊢
  refine (hnew _ _ _ (SlAt.of_owns o3)).mono ?_
  rintro e w4 ⟨rfl, m4⟩
  have k4 := kC.trans m4
  have a04 := m4.cell a03
  have a14 := m4.cell a13
  clear o3 a03 a13 kC m4 d0 d1
  go_wp2_with fail
  refine (hchk _ k4).mono ?_
  rintro e w5 ⟨rfl, m5⟩
  have k5 := k4.trans m5
  clear a04 a14 k4 m5
  go_wp2_with fail
  refine (awake_any _).mono ?_
  rintro e w6 ⟨rfl, m6⟩
  go_wp2
  go_ret
  exact ⟨rfl, k5.trans m6⟩

theorem ops_at {w : World} {ao : Option Addr} {l : List CallD} (h : SlAt w ao (l.flatMap callCells)) {i : Nat} (hi : i < l.length) :
    ∃ b off, ao = some ⟨b, off, none⟩ ∧ w.cell? ⟨b, off + i * 2, none⟩ = some (I l[i].ask) ∧ w.cell? ⟨b, off + i * 2 + 1, none⟩ = some (.slice l[i].a l[i].xs.length l[i].c) := by
  have hl := flat_len callCells 2 callCells_len l
  obtain ⟨b, off, e, _⟩ := h (i * 2) (by omega)
  have key : ∀ f, f < 2 → w.cell? ⟨b, off + i * 2 + f, none⟩ = (callCells l[i])[f]? := by
    intro f hf
    obtain ⟨b', off', e', c⟩ := h.at (i := i * 2 + f) (by omega)
    rw [e] at e'
    simp only [Option.some.injEq, Addr.mk.injEq, and_true] at e'
    obtain ⟨rfl, rfl⟩ := e'
    rw [Nat.add_assoc, c, ← flat_at callCells 2 callCells_len l i f hi hf]
    exact (List.getElem?_eq_getElem _).symm
  exact ⟨b, off, e, key 0 (by omega), key 1 (by omega)⟩
theorem own_addr5 {w : World} {B : Nat} {e : TypeId} {a : Option Addr} {n c size : Nat} {xs : List Value} (h : w.ownsRow B e size (.slice a n c) n xs) (hn : 0 < n) : ∃ g, a = some ⟨g, 0, none⟩ ∧ B ≤ g ∧ g < w.heap.size := by
  rcases h.2 with ⟨h0, h1⟩ | ⟨g, cap, cur, h0, hb, hg, _⟩
  · simp only [Value.slice.injEq] at h0; omega
  · simp only [Value.slice.injEq] at h0
    exact ⟨g, h0.1, hb, (Array.getElem?_eq_some_iff.1 hg).1⟩

set_option maxRecDepth 100000 in
set_option maxHeartbeats 8000000 in
theorem good (w : World) (n : Nat) (b0 : Option Addr) (c0 : Nat) (x0 : List ArcD) (h0 : SlAt w b0 (arcsCells x0)) (hs : Sound n x0) (l0 : x0.length * 40 ≤ 140737488351232) (he : netErr n x0 = 0) (b1 : Option Addr) (c1 : Nat) (x1 : List CallD) (h1 : SlAt w b1 (x1.flatMap callCells)) (r1 : ∀ o ∈ x1, SlAt w o.a (Is o.xs)) (l1 : x1.length ≤ maxLen) (t1 : ∀ o ∈ x1, o.xs.length * 8 ≤ 140737488351232) :
    Calls Try.prog 4 #[.agg #[I n, .slice b0 x0.length c0], .slice b1 x1.length c1] w fun e w' => e = .returned (.bool true) ∧ New w w' := by
  have hM := hs.m
  have hN := hs.n2
  unfold maxLen at l1
  have HR := Lib.hid (And.intro r1 t1)
  have hchk : ∀ w1, New w w1 → Calls Try.prog 11 #[.agg #[I n, .slice b0 x0.length c0]] w1 fun e w' => e = .returned (I 0) ∧ New w1 w' :=
    fun w1 k => by have := refNetCheck_any n b0 c0 x0 w1 (h0.new k) (by omega); rw [he] at this; exact this
  clear r1 t1 he
  go_enter Try.func4, Try.ntmps4
  have kA : New w (w.alloc (.cells #[I n, .slice b0 x0.length c0] 24)) := (New.refl w).alloc _
  have a0 : (w.alloc (.cells #[I n, .slice b0 x0.length c0] 24)).cell? ⟨w.heap.size, 0, none⟩ = some (I n) := by simp
  have a1 : (w.alloc (.cells #[I n, .slice b0 x0.length c0] 24)).cell? ⟨w.heap.size, 1, none⟩ = some (.slice b0 x0.length c0) := by simp
  go_wp2_with fail
  generalize w.alloc (.cells #[I n, .slice b0 x0.length c0] 24) = wA at kA a0 a1 ⊢
  refine (refNet_any n b0 c0 x0 _ (h0.new kA) l0).mono ?_
  rintro e w2 ⟨b2, c2, rfl, o2, k2⟩
  have kB := kA.trans k2
  have a02 := k2.cell a0
  have a12 := k2.cell a1
  have hzA := kA.size
  have hzA2 := k2.size
  have hwA : w.heap.size < wA.heap.size := World.block_lt_of_cell? wA _ a0
  clear k2 a0 a1
  go_wp2_with fail
  have al : New w2 (w2.alloc (.cells #[I n, .slice b2 x0.length c2] 24)) := (New.refl w2).alloc _
  have d0 : (w2.alloc (.cells #[I n, .slice b2 x0.length c2] 24)).cell? ⟨w2.heap.size, 0, none⟩ = some (I n) := by simp
  have d1 : (w2.alloc (.cells #[I n, .slice b2 x0.length c2] 24)).cell? ⟨w2.heap.size, 1, none⟩ = some (.slice b2 x0.length c2) := by simp
  have hdz : w2.heap.size < (w2.alloc (.cells #[I n, .slice b2 x0.length c2] 24)).heap.size := by simp
  have kC := kB.trans al
  have a03 := al.cell a02
  have a13 := al.cell a12
  have o3 := al.owns o2
  have h23 : ∀ k, blk b2 k → wA.heap.size ≤ k ∧ k < w2.heap.size := fun k hk => own_of_blk o2 hk
  clear o2 al a02 a12 kB
  generalize w2.alloc (.cells #[I n, .slice b2 x0.length c2] 24) = wB at d0 d1 hdz kC a03 a13 o3 ⊢
  refine (new_any _ n x0 _ _ hs (SlAt.of_owns o3)).mono ?_
  rintro e w4 ⟨p, rfl, sp4, lp, m4⟩
  have k4 := kC.trans m4
  have a04 := m4.cell a03
  have a14 := m4.cell a13
  have d04 := m4.cell d0
  have d14 := m4.cell d1
  have o4 := m4.owns o3
  clear o3 a03 a13 kC m4 d0 d1
  go_wp2_with fail
  refine (hchk _ k4).mono ?_
  rintro e w5 ⟨rfl, m5⟩
  have k5 := k4.trans m5
  have sp5 := sp4.new m5
  have a05 := m5.cell a04
  have a15 := m5.cell a14
  have d15 := m5.cell d14
  have o5 := m5.owns o4
  clear a04 a14 d04 d14 k4 m5 sp4 o4 hchk
  go_wp2_with fail
  go_loopw [9] (fun i wr => ∃ k : Nat, k ≤ x0.length ∧ i = .int .i64 k ∧ (∃ ys, wr.ownsRow wA.heap.size 36 5 (.slice b2 x0.length c2) x0.length ys) ∧ Keeps (blk b2) w5 wr) (fun i _ => x0.length - (intOf i).toNat)
  case atStart => exact ⟨0, Nat.zero_le _, rfl, ⟨_, o5⟩, Keeps.refl _ _⟩
  case round =>
    clear o5
    obtain ⟨k, hk, rfl, ⟨ys, hr⟩, hkp⟩ := hrel
    have hnd : ¬ blk b2 w2.heap.size := fun hb => Nat.lt_irrefl _ (h23 _ hb).2
    have d1r := hkp.cell d15 hnd
    by_cases hk1 : k < x0.length
    · obtain ⟨g, rfl, hg1, hg2⟩ := own_addr5 hr (by omega)
      obtain ⟨u0, q0⟩ := own_get' hr (j := k * 5) (by omega)
      obtain ⟨u1, q1⟩ := own_get' hr (j := k * 5 + 1) (by omega)
      obtain ⟨u2, q2⟩ := own_get' hr (j := k * 5 + 2) (by omega)
      obtain ⟨u3, q3⟩ := own_get' hr (j := k * 5 + 3) (by omega)
      obtain ⟨u4, q4⟩ := own_get' hr (j := k * 5 + 4) (by omega)
      have f0 := hr.frozenAt (k * 5)
      have f1 := hr.frozenAt (k * 5 + 1)
      have f2 := hr.frozenAt (k * 5 + 2)
      have f3 := hr.frozenAt (k * 5 + 3)
      have f4 := hr.frozenAt (k * 5 + 4)
      have hk0 : (k : Int) < (x0.length : Int) := by omega
      have hs5 := (((((hr.stored (k * 5) (I 0)).1.stored (k * 5 + 1) (I 0)).1.stored (k * 5 + 2) (I 1)).1.stored (k * 5 + 3) (I 1)).1.stored (k * 5 + 4) (I 9)).1
      have ks : ∀ (W : World) (i : Nat) (v : Value), Keeps (blk (some ⟨g, 0, none⟩)) W (W.setCell ⟨g, i, none⟩ v) := fun W i v => Keeps.setCell (S := blk (some ⟨g, 0, none⟩)) W ⟨g, i, none⟩ v ⟨_, rfl, rfl⟩
      have hk5 : Keeps (blk (some ⟨g, 0, none⟩)) w5 (((((wr.setCell ⟨g, k * 5, none⟩ (I 0)).setCell ⟨g, k * 5 + 1, none⟩ (I 0)).setCell ⟨g, k * 5 + 2, none⟩ (I 1)).setCell ⟨g, k * 5 + 3, none⟩ (I 1)).setCell ⟨g, k * 5 + 4, none⟩ (I 9)) :=
        ((((hkp.trans (ks _ _ _) (fun _ _ h => h)).trans (ks _ _ _) (fun _ _ h => h)).trans (ks _ _ _) (fun _ _ h => h)).trans (ks _ _ _) (fun _ _ h => h)).trans (ks _ _ _) (fun _ _ h => h)
      have HS5 := Lib.hid (And.intro hs5 hk5)
      clear hs5 hk5 ks
      go_wp2
      go_roundw
      case rel => exact ⟨k + 1, by omega, by go_num, ⟨_, HS5.out.1⟩, HS5.out.2⟩
      case measure => simp [intOf]; omega
    · have hlo : ∀ x, blk b2 x → w.heap.size ≤ x ∧ x < p.lo := fun x hb => by have := h23 x hb; omega
      have sp6 := sp5.keeps hkp (fun x hx1 hx2 hb => by have := hlo x hb; omega)
      have k6 := k5.keeps hkp (fun x hx hb => by have := hlo x hb; omega)
      have hnb : ¬ blk b2 w.heap.size := fun hb => by have := h23 _ hb; omega
      have a06 := hkp.cell a05 hnb
      have a16 := hkp.cell a15 hnb
      clear hr hkp sp5 k5 a05 a15 d15
      go_wp2_with fail
      refine (refStart_any _ n x0 b0 c0 hN (h0.new k6)).mono ?_
      rintro e w7 ⟨bf, rfl, rs7, m7⟩
      have sp7 := sp6.new m7
      have k7 := k6.trans m7
      have hbf := World.ownsRow.lt rs7.hf bf rfl
      have hz6 := k6.size
      have hz7 := sp7.sz
      have hz6p := sp6.sz
      clear sp6 k6 a06 a16 m7 d1r
      go_wp2_with fail
      have al : New w7 (w7.alloc (.cells #[I n, .slice b0 x0.length c0, .slice (some ⟨bf, 0, none⟩) n n] 39)) := (New.refl w7).alloc _
      have g0 : (w7.alloc (.cells #[I n, .slice b0 x0.length c0, .slice (some ⟨bf, 0, none⟩) n n] 39)).cell? ⟨w7.heap.size, 0, none⟩ = some (I n) := by simp
      have g1 : (w7.alloc (.cells #[I n, .slice b0 x0.length c0, .slice (some ⟨bf, 0, none⟩) n n] 39)).cell? ⟨w7.heap.size, 1, none⟩ = some (.slice b0 x0.length c0) := by simp
      have g2 : (w7.alloc (.cells #[I n, .slice b0 x0.length c0, .slice (some ⟨bf, 0, none⟩) n n] 39)).cell? ⟨w7.heap.size, 2, none⟩ = some (.slice (some ⟨bf, 0, none⟩) n n) := by simp
      have spL := sp7.new al
      have rsL := rs7.new al
      have kL := k7.trans al
      have hzL := al.size
      clear al sp7 rs7 k7
      generalize w7.alloc (.cells #[I n, .slice b0 x0.length c0, .slice (some ⟨bf, 0, none⟩) n n] 39) = wL at g0 g1 g2 spL rsL kL hzL ⊢
      have hrt := spL.rt
      have hrf := spL.rf
      obtain ⟨w6, rfl⟩ : ∃ w6 : World, w6 = wr := ⟨_, rfl⟩
      go_loopw [11] (fun i wr => ∃ j : Nat, j ≤ x1.length ∧ i = .int .i64 j ∧ ∃ sk, St wr p n x0 sk ∧ Rs wr n x0 b0 w6.heap.size bf sk.fired ∧ EqnW x0 sk ∧ (∀ x ∈ sk.fired, wrap64 x = x) ∧ Keeps (fun x => x = p.bt ∨ x = p.bf ∨ x = bf) wL wr) (fun i _ => x1.length - (intOf i).toNat)
      case atStart => exact ⟨0, Nat.zero_le _, rfl, start x0 n, spL, rsL, eqnW_start hs, wf_start _ _, Keeps.refl _ _⟩
      case round =>
        clear spL rsL
        obtain ⟨j, hj, rfl, sk, hst, hrs, heq, hwf, hkp⟩ := hrel
        have HQ := Lib.hid (And.intro heq hwf)
        clear heq hwf
        have hfar : ∀ x, x < w.heap.size → ¬ (x = p.bt ∨ x = p.bf ∨ x = bf) := fun x hx e => by omega
        have hnw : New w wr := kL.keeps hkp (fun x hx e => hfar x hx e)
        have g0r := hkp.cell g0 (fun e => by simp only at e; omega)
        have g1r := hkp.cell g1 (fun e => by simp only at e; omega)
        have g2r := hkp.cell g2 (fun e => by simp only at e; omega)
        have hgz := World.block_lt_of_cell? wr _ g0r
        by_cases hj1 : j < x1.length
        · obtain ⟨bx, ox, rfl, q0, q1⟩ := ops_at (h1.new hnw) hj1
          have hox := HR.out.1 _ (List.getElem_mem hj1)
          have hol := HR.out.2 _ (List.getElem_mem hj1)
          generalize x1[j] = o at q0 q1 hox hol
          obtain ⟨ask, oa, oc, xs⟩ := o
          simp only at q0 q1 hox hol
          have hj0 : (j : Int) < (x1.length : Int) := by omega
          have al : New wr (wr.alloc (.cells #[.int .i64 ask, .slice oa xs.length oc] 42)) := (New.refl wr).alloc _
          have hxl : xs.length ≤ maxLen := by unfold maxLen; omega
          by_cases ha : ask = 0
          · subst ha
            have hsz := hst.sz
            go_wp2_with fail
            refine (lent_any oa oc xs _ ((hox.new hnw).new al) hol).mono ?_
            rintro e w8 ⟨gl, rfl, hgl, hgh, m8⟩
            have m := al.trans m8
            have hz8 := m.size
            have hza := al.size
            have hst8 := hst.new m
            have hrs8 := hrs.new m
            have hkp8 := hkp.trans m (fun _ _ h => h.elim)
            have hnw8 := hnw.trans m
            have q18 := m8.cell (p := ⟨wr.heap.size, 1, none⟩) (v := .slice oa xs.length oc) (by simp)
            have hwz : wr.heap.size < (wr.alloc (.cells #[.int .i64 0, .slice oa xs.length oc] 42)).heap.size := by simp
            have hbfz : bf < wr.heap.size := (World.ownsRow.lt hrs.hf bf rfl).2
            clear hst hrs hkp hnw q0 q1 m m8 al g0r g1r g2r
            have hls : SlAt w8 (some ⟨gl, 0, none⟩) (Is xs) := by
              have := (SlAt.block hgh).take xs.length
              simpa using this
            obtain ⟨s', hs'⟩ : ∃ s', (fireW x0 n sk xs).2 = s' := ⟨_, rfl⟩
            obtain ⟨f, hf⟩ : ∃ f : Int, ((fireW x0 n sk xs).1 : Int) = f := ⟨_, rfl⟩
            have hinv := invW_fire hs xs sk hst8.fits HQ.out.1 HQ.out.2
            rw [hs'] at hinv
            have HINV := Lib.hid hinv
            have HS := Lib.hid hs'
            have HF := Lib.hid hf
            clear hinv hs' hf
            go_wp2_with fail
            refine (fireW_any _ p n x0 sk (some ⟨gl, 0, none⟩) (xs.length + 4) xs hst8 hs hls (fun a ha => .inr (by cases ha; simp only; omega)) (by omega)).mono ?_
            rw [HF.out, HS.out]
            rintro e w9 ⟨rfl, st9, ky9⟩
            have hnw9 : New w w9 := hnw8.keeps ky9 (fun x hx e => by omega)
            have hbl := World.ownsRow.lt hrs8.hf bf rfl
            have hrs9 : Rs w9 n x0 b0 w6.heap.size bf sk.fired := ⟨h0.new hnw9, ky9.owns hrs8.hf (fun x hx e => by simp [Value.ownBlock] at hx; subst hx; omega), hrs8.sep⟩
            have hfits := hst8.fits
            have hkp9 := hkp8.trans ky9 (fun x _ e => by rcases e with e | e; exact .inl e; exact .inr (.inl e))
            have q19 := ky9.cell q18 (fun e => by simp only at e; omega)
            have hgh9 := ky9.heap hgh (fun e => by omega)
            have g09 := hkp9.cell g0 (fun e => by simp only at e; omega)
            have g19 := hkp9.cell g1 (fun e => by simp only at e; omega)
            have g29 := hkp9.cell g2 (fun e => by simp only at e; omega)
            clear hst8 hrs8 hnw8 hkp8 q18 hgh ky9 hls
            go_wp2_with fail
            refine (refFire_old w _ n x0 b0 oa c0 oc _ bf sk xs hs hrs9 hfits HQ.out.1 HQ.out.2 hox hnw9 (by omega) (by omega)).mono ?_
            rw [HF.out, HS.out]
            rintro e w10 ⟨rfl, rs10, ky10⟩
            have st10 := st9.keeps ky10 (fun x h1 h2 e => by omega)
            have hnw10 : New w w10 := hnw9.keeps ky10 (fun x hx e => by omega)
            have hkp10 := hkp9.trans ky10 (fun x _ e => .inr (.inr e))
            have q110 := ky10.cell q19 (fun e => by simp only at e; omega)
            have hgh10 := ky10.heap hgh9 (fun e => by omega)
            clear st9 hrs9 hnw9 hkp9 q19 hgh9 ky10 g09 g19 g29 hfits
            go_wp2_with fail
            refine (kept_any gl oa oc xs _ hgh10 (hox.new hnw10) hol).mono ?_
            rintro e w11 ⟨rfl, n11, rfl⟩
            go_wp2
            go_roundw
            case rel => exact ⟨j + 1, by omega, by go_num, s', st10.drewN _, rs10.new (Keeps.drewN _ _), HINV.out.1, HINV.out.2, hkp10.trans (Keeps.drewN (S := fun _ => False) _ _) (fun _ _ h => h.elim)⟩
            case measure => simp [intOf]; omega
          · have hd : (ask != 0) = true := by simpa using ha
            clear ha
            go_wp2_with fail
            have g0a := al.cell g0r
            have g1a := al.cell g1r
            have g2a := al.cell g2r
            refine (asked_any _ p n x0 sk b0 c0 _ bf ask oa oc xs hs (hst.new al) (hrs.new al) HQ.out.1 ((hox.new hnw).new al) hxl).mono ?_
            rintro e w8 ⟨rfl, m8⟩
            have m := al.trans m8
            go_wp2
            go_roundw
            case rel => exact ⟨j + 1, by omega, by go_num, sk, hst.new m, hrs.new m, HQ.out.1, HQ.out.2, hkp.trans m (fun _ _ h => h.elim)⟩
            case measure => simp [intOf]; omega
        · go_wp2_with fail
          refine (asked_1 _ p n x0 sk b0 c0 _ bf none 0 0 hs hst hrs HQ.out.1).mono ?_
          rintro e w8 ⟨rfl, m8⟩
          have g0a := m8.cell g0r
          have g1a := m8.cell g1r
          have g2a := m8.cell g2r
          go_wp2_with fail
          refine (asked_2 _ p n x0 sk b0 c0 _ bf none 0 0 hs (hst.new m8) (hrs.new m8) HQ.out.1).mono ?_
          rintro e w9 ⟨rfl, m9⟩
          go_wp2_with fail
          refine (awake_any _).mono ?_
          rintro e w10 ⟨rfl, m10⟩
          go_wp2
          go_ret
          exact ⟨rfl, ((hnw.trans m8).trans m9).trans m10⟩

theorem walk (w : World) (n0 : Int) (b0 : Option Addr) (c0 : Nat) (x0 : List ArcD) (h0 : SlAt w b0 (arcsCells x0)) (l0 : x0.length * 40 ≤ 140737488351232) (b1 : Option Addr) (c1 : Nat) (x1 : List CallD) (h1 : SlAt w b1 (x1.flatMap callCells)) (r1 : ∀ o ∈ x1, SlAt w o.a (Is o.xs)) (l1 : x1.length ≤ maxLen) (t1 : ∀ o ∈ x1, o.xs.length * 8 ≤ 140737488351232) :
    Calls Try.prog 4 #[.agg #[I n0, .slice b0 x0.length c0], .slice b1 x1.length c1] w fun e w' => e = .returned (.bool true) ∧ New w w' := by
  by_cases he : netErr n0 x0 = 0
  · obtain ⟨n, rfl, hs⟩ := sound_of he
    exact good w n b0 c0 x0 h0 hs l0 he b1 c1 x1 h1 r1 l1 t1
  · exact bad w n0 b0 c0 x0 h0 l0 he b1 c1 _
set_option maxRecDepth 100000 in
theorem lifted (os : Os) (started : os.Started) (H : Type) (enc : TypeId × Value → H) :
    ReturnsInHanded {} Try.checked os 4 .any (Rows.netPlaysSpec.pre6 enc Try.prog Try.f4 Rows.netPlaysRow.domain false) (Rows.netPlaysSpec.post enc Try.prog Try.f4 false true false false) := by
  refine returnsInHanded_of_change_sized (C := Try.checked) own started (by kernel_rfl) Try.func4
    (ChangeSpec.witness6 (enc := enc) (C := Try.checked) false ⟨#[], #[.agg #[.int .i64 0, .slice none 0 0], .slice none 0 0], []⟩ 8 (by kernel_rfl) (by kernel_rfl) (by kernel_rfl) (by kernel_rfl)) ?_
  intro W base args ds gs before hval0 hW hcnd hsz0 _
  have hval : ∀ (j : Nat) t v, Try.f4.params[j]? = some t → args[j]? = some v → Value.okWide Try.prog W .any base t v := hval0
  have hsz : (DataW.weightsEach Try.prog (Try.f4.params.toList ++ Rows.netPlaysSpec.plain.varTypes Try.prog) (ds ++ gs)).all (· ≤ reachBytes) = true := hsz0
  clear hsz0
  have hW' := hW
  obtain ⟨p, q, hA0, hV, rfl, hfz, hnd⟩ := hW
  have hA : DataW.TrodAll enc Try.prog W 0 (fun _ => true) true Try.f4.params.toList args.toList ds p := hA0
  rw [Try.params4] at hA hval hsz
  obtain ⟨v0, vs0, d0, ds0, p0, q0, hargs, rfl, rfl, h0, r0'⟩ := trodAll_cons hA
  obtain ⟨v1, vs1, d1, ds1, p1, q1, rfl, rfl, rfl, h1, r1'⟩ := trodAll_cons r0'
  obtain ⟨rfl, rfl, rfl⟩ := trodAll_nil r1'
  obtain rfl : args = #[v0, v1] := by cases args; simp_all
  obtain ⟨rfl, rfl⟩ := trodVars_none hV
  have k0 := h0
  have lt0 : ∀ x ∈ p0, x.block < W.heap.size := by obtain ⟨m, hm⟩ := k0; exact DataW.trod_lt m _ _ _ hm
  have k1 := h1
  have lt1 : ∀ x ∈ p1, x.block < W.heap.size := by obtain ⟨m, hm⟩ := k1; exact DataW.trod_lt m _ _ _ hm
  obtain ⟨n0, b0, c0, x0, rfl, w0, sl0, l0, e00, e01, rfl, dd0⟩ := read_net (hval 0 24 v0 rfl rfl) h0
  have l0' : x0.length * 40 ≤ 140737488351232 := by
    rcases dd0 with ⟨_, rfl⟩ | ⟨es, sp, rfl, hes⟩
    · simp
    · have := of_decide_eq_true (List.all_eq_true.1 hsz ((es.length + sp.length) * Try.prog.bytesOf 36) (DataW.weights_mem_each (j := 0) (t := 24) rfl rfl _ (by simp [DataW.weights, DataW.weightsEach, Try.underlying24, Try.underlying22])))
      rw [show Try.prog.bytesOf 36 = 40 by kernel_rfl, hes] at this
      have hr : reachBytes = 140737488351232 := rfl
      rw [hr] at this
      omega
  obtain ⟨b1, n1, c1, rfl⟩ := okWide_slice Try.underlying34 (hval 1 34 v1 rfl rfl)
  obtain ⟨x1, rfl, sl1, r1, l1, dd1⟩ := read_ops h1
  have t1' : ∀ o ∈ x1, o.xs.length * 8 ≤ 140737488351232 := dd1 _ (fun m hm => of_decide_eq_true (List.all_eq_true.1 hsz m (DataW.weights_mem_each (j := 1) (t := 34) rfl rfl _ hm)))
  clear hA0 hval0
  refine (walk W n0 b0 c0 x0 sl0 l0' b1 c1 x1 sl1 r1 l1 t1').mono fun e W' ⟨he, hnew⟩ => ?_
  have bel := hnew.below
  subst he
  exact ⟨_, rfl, _, _, _, [], _, [], hW', trodAll_mk1 (shut_bool Try.underlying4 _), (trodAll_cons_mk (Below.trod laidOut (by kernel_rfl) (of_decide_eq_true (by kernel_rfl)) k0 bel lt0) (trodAll_cons_mk (Below.trod laidOut (by kernel_rfl) (of_decide_eq_true (by kernel_rfl)) k1 bel lt1) trodAll_mk0)), rfl, bel.frame _, fun h => by cases h⟩

theorem over : Rows.netPlaysRow.holds Try.pinned (OpenSpec.ofChange Rows.netPlaysSpec) :=
  OpenClaim.holds_of_wide 4 Try.f4 rfl rfl rfl rfl rfl rfl rfl ⟨rfl, rfl, rfl, rfl, rfl⟩ rfl rfl rfl rfl rfl (by kernel_rfl) Try.func4 (by kernel_rfl)
    (of_decide_eq_true (by kernel_rfl)) (by unfold Func.isWrapper; first | (rw [if_pos (by decide +kernel)]; kernel_rfl) | (rw [if_neg (by decide +kernel)]; exact ⟨rfl, rfl⟩))
    (fun os started H enc _ => lifted os started H enc)

/-- THE STATEMENT. -/
theorem proved : Rows.NetPlaysSaid := over
end Go.Proofs.Ytijlgcbnoekmeaa.netPlays
