/-
  Layer 20: the document's reader, at a spot of any kind: a byte, a count, how many, an integer, a row of integers.
-/
import Derived.Test.YtfmpjbiaamkobaaCodeW2
namespace Go.Proofs.Ytfmpjbiaamkobaa
open Go Go.RowKit Go.Joins
set_option linter.all false

/-- A spot after so much was read. -/
def SpotOf (s : ByteArray) (at_ : Nat) (c a : Int) {β : Type} (q : Rd β) : Prop := match q with
  | .ok _ r => c = 0 ∧ a = 0 ∧ at_ ≤ s.size ∧ (bytesOf s).drop at_ = r
  | .bad e k => c = e ∧ e ≠ 0 ∧ a = (s.size : Int) - k ∧ at_ ≤ s.size
/-- What was read is x. -/
def Got {α : Type} (q : Rd α) (x : α) : Prop := ∀ y r, q = .ok y r → y = x
/-- A call's end: a spot and a number. -/
def UniI (w : World) (s : ByteArray) (lo hi : Int) (res : Rd Int) (e : Ending) (w' : World) : Prop :=
  ∃ (at_ : Nat) (c a x : Int), e = .returned (.tuple #[Sp s at_ c a, I x]) ∧ Hid (SpotOf s at_ c a res ∧ Got res x) ∧ (lo ≤ x ∧ x ≤ hi) ∧ New w w'
def UniN (w : World) (s : ByteArray) (hi : Nat) (res : Rd Nat) (e : Ending) (w' : World) : Prop :=
  ∃ (at_ : Nat) (c a : Int) (x : Nat), e = .returned (.tuple #[Sp s at_ c a, I x]) ∧ Hid (SpotOf s at_ c a res ∧ Got res x) ∧ x ≤ hi ∧ New w w'

theorem uniI_of {w : World} {s : ByteArray} {lo hi : Int} (h0 : lo ≤ 0 ∧ 0 ≤ hi) {res : Rd Int} (hb : ∀ y r, res = .ok y r → lo ≤ y ∧ y ≤ hi) {e : Ending} {w' : World} (h : RefAs w s I (I 0) res e w') : UniI w s lo hi res e w' := by
  cases res with
  | ok x r =>
    obtain ⟨at_, h1, h2, h3, h4⟩ := h
    exact ⟨at_, 0, 0, x, h3, Lib.hid ⟨⟨rfl, rfl, h1, h2⟩, fun y r h => by cases h; rfl⟩, hb x r rfl, h4⟩
  | bad c k =>
    obtain ⟨at_, h1, h2, h3, h4⟩ := h
    exact ⟨at_, c, (s.size : Int) - k, 0, h3, Lib.hid ⟨⟨rfl, h2, rfl, h1⟩, fun y r h => by cases h⟩, h0, h4⟩
theorem uniN_of {w : World} {s : ByteArray} {hi : Nat} {res : Rd Nat} (hb : ∀ y r, res = .ok y r → y ≤ hi) {e : Ending} {w' : World} (h : RefAs w s (fun n : Nat => I n) (I 0) res e w') : UniN w s hi res e w' := by
  cases res with
  | ok x r =>
    obtain ⟨at_, h1, h2, h3, h4⟩ := h
    exact ⟨at_, 0, 0, x, h3, Lib.hid ⟨⟨rfl, rfl, h1, h2⟩, fun y r h => by cases h; rfl⟩, hb x r rfl, h4⟩
  | bad c k =>
    obtain ⟨at_, h1, h2, h3, h4⟩ := h
    exact ⟨at_, c, (s.size : Int) - k, 0, h3, Lib.hid ⟨⟨rfl, h2, rfl, h1⟩, fun y r h => by cases h⟩, Nat.zero_le _, h4⟩

theorem drop_rng {s : ByteArray} {at_ : Nat} {r : List Int} (h : (bytesOf s).drop at_ = r) : ∀ b ∈ r, 0 ≤ b ∧ b ≤ 255 := fun b hb => bytesOf_rng s b (List.mem_of_mem_drop (by rw [h]; exact hb))

theorem rone_uni (w : World) (s : ByteArray) (at_ : Nat) (c a : Int) {β : Type} (q : Rd β) (hq : SpotOf s at_ c a q) (hs : s.size ≤ 9223372036854775807) :
    Calls Try.prog 60 #[Sp s at_ c a] w (UniI w s 0 255 (q.bind fun _ r => nextR r)) := by
  cases q with
  | ok x r =>
    obtain ⟨rfl, rfl, h1, h2⟩ := hq
    refine (rone_any w s at_ r hs h1 h2).mono fun e w' h => uniI_of (by omega) ?_ h
    intro y r' he
    have := drop_rng h2
    cases r with
    | nil => cases he
    | cons b r => cases he; exact this _ (by simp)
  | bad e k =>
    obtain ⟨rfl, h0, rfl, h1⟩ := hq
    refine (rone_bad w s at_ c _ h0).mono ?_
    rintro e w' ⟨rfl, k1⟩
    exact ⟨at_, c, (s.size : Int) - k, 0, rfl, Lib.hid ⟨⟨rfl, h0, rfl, h1⟩, fun y r h => by cases h⟩, by omega, k1⟩
theorem rnumber_uni (w : World) (s : ByteArray) (at_ : Nat) (c a : Int) {β : Type} (q : Rd β) (hq : SpotOf s at_ c a q) (hs : s.size ≤ 9223372036854775807) :
    Calls Try.prog 40 #[Sp s at_ c a] w (UniN w s 2097151 (q.bind fun _ r => countR r)) := by
  cases q with
  | ok x r =>
    obtain ⟨rfl, rfl, h1, h2⟩ := hq
    refine (rnumber_any w s at_ r hs h1 h2).mono fun e w' h => uniN_of ?_ h
    intro y r' he
    have := count_lt (drop_rng h2) he
    omega
  | bad e k =>
    obtain ⟨rfl, h0, rfl, h1⟩ := hq
    refine (rnumber_bad w s at_ c _ h0).mono ?_
    rintro e w' ⟨rfl, k1⟩
    exact ⟨at_, c, (s.size : Int) - k, 0, rfl, Lib.hid ⟨⟨rfl, h0, rfl, h1⟩, fun y r h => by cases h⟩, by omega, k1⟩
theorem rmany_uni (w : World) (s : ByteArray) (at_ : Nat) (c a : Int) {β : Type} (q : Rd β) (hq : SpotOf s at_ c a q) (hs : s.size ≤ 9223372036854775807) (m : Nat) :
    Calls Try.prog 59 #[Sp s at_ c a, I m] w (UniN w s m (q.bind fun _ r => manyR m r)) := by
  cases q with
  | ok x r =>
    obtain ⟨rfl, rfl, h1, h2⟩ := hq
    refine (rmany_any w s at_ r hs h1 h2 m).mono fun e w' h => uniN_of ?_ h
    intro y r' he
    exact many_le he
  | bad e k =>
    obtain ⟨rfl, h0, rfl, h1⟩ := hq
    refine (rmany_bad w s at_ c _ h0 m).mono ?_
    rintro e w' ⟨rfl, k1⟩
    exact ⟨at_, c, (s.size : Int) - k, 0, rfl, Lib.hid ⟨⟨rfl, h0, rfl, h1⟩, fun y r h => by cases h⟩, by omega, k1⟩
/-- A call's end: a spot and any number. -/
def UniX (w : World) (s : ByteArray) (res : Rd Int) (e : Ending) (w' : World) : Prop :=
  ∃ (at_ : Nat) (c a x : Int), e = .returned (.tuple #[Sp s at_ c a, I x]) ∧ Hid (SpotOf s at_ c a res ∧ Got res x) ∧ New w w'
theorem rsigned_uni (w : World) (s : ByteArray) (at_ : Nat) (c a : Int) {β : Type} (q : Rd β) (hq : SpotOf s at_ c a q) (hs : s.size ≤ 9223372036854775807) :
    Calls Try.prog 70 #[Sp s at_ c a] w (UniX w s (q.bind fun _ r => sintR r)) := by
  cases q with
  | ok x r =>
    obtain ⟨rfl, rfl, h1, h2⟩ := hq
    refine (rsigned_any w s at_ r hs h1 h2).mono fun e w' h => ?_
    simp only [Rd.bind_ok]
    generalize sintR r = res at h ⊢
    cases res with
    | ok x r =>
      obtain ⟨at_, h1, h2, h3, h4⟩ := h
      exact ⟨at_, 0, 0, x, h3, Lib.hid ⟨⟨rfl, rfl, h1, h2⟩, fun y r h => by cases h; rfl⟩, h4⟩
    | bad c k =>
      obtain ⟨at_, h1, h2, h3, h4⟩ := h
      exact ⟨at_, c, (s.size : Int) - k, 0, h3, Lib.hid ⟨⟨rfl, h2, rfl, h1⟩, fun y r h => by cases h⟩, h4⟩
  | bad e k =>
    obtain ⟨rfl, h0, rfl, h1⟩ := hq
    refine (rsigned_bad w s at_ c _ h0).mono ?_
    rintro e w' ⟨rfl, k1⟩
    exact ⟨at_, c, (s.size : Int) - k, 0, rfl, Lib.hid ⟨⟨rfl, h0, rfl, h1⟩, fun y r h => by cases h⟩, k1⟩

/-- What a loop of readings has come to: so many are left, so many were read. -/
def Left {α : Type} (f : List Int → Rd α) (s : ByteArray) (at_ : Nat) (c a : Int) (left : Nat) (acc : List α) (res : Rd (List α)) : Prop :=
  ∃ q : Rd Unit, SpotOf s at_ c a q ∧ (q.bind fun _ r => (timesR f left r).bind fun l r' => .ok (acc ++ l) r') = res
theorem left_start {α : Type} {f : List Int → Rd α} {s : ByteArray} {at_ : Nat} {c a : Int} {q1 : Rd Nat} {n : Nat} (h : SpotOf s at_ c a q1) (hg : Got q1 n) : Left f s at_ c a n [] (q1.bind fun n r => timesR f n r) := by
  refine ⟨q1.bind fun _ r => .ok () r, ?_, ?_⟩
  · cases q1 <;> exact h
  · cases q1 with
    | bad e k => rfl
    | ok x r =>
      obtain rfl := hg x r rfl
      simp only [Rd.bind_ok]
      cases timesR f x r <;> rfl
theorem left_good {α : Type} {f : List Int → Rd α} {s : ByteArray} {at_ : Nat} {a : Int} {n : Nat} {acc : List α} {res : Rd (List α)} (h : Left f s at_ 0 a n acc res) : a = 0 ∧ ∃ q : Rd Unit, SpotOf s at_ 0 0 q ∧ (q.bind fun _ r => (timesR f n r).bind fun l r' => .ok (acc ++ l) r') = res := by
  obtain ⟨q, hq, he⟩ := h
  cases q with
  | bad e k => obtain ⟨h1, h2, _⟩ := hq; exact absurd h1.symm h2
  | ok x r =>
    obtain ⟨h1, rfl, h3, h4⟩ := hq
    exact ⟨rfl, .ok x r, ⟨rfl, rfl, h3, h4⟩, he⟩
theorem left_next {α : Type} {f : List Int → Rd α} {s : ByteArray} {at_ : Nat} {c a : Int} {n k : Nat} {acc : List α} {res : Rd (List α)} {q : Rd Unit} (hk : k < n) (he : (q.bind fun _ r => (timesR f (n - k) r).bind fun l r' => .ok (acc ++ l) r') = res)
    {x : α} (hq : SpotOf s at_ c a (q.bind fun _ r => f r)) (hx : Got (q.bind fun _ r => f r) x) : Left f s at_ c a (n - (k + 1)) (acc ++ [x]) res := by
  obtain ⟨m, hm⟩ : ∃ m, n - k = m + 1 := ⟨n - k - 1, by omega⟩
  rw [show n - (k + 1) = m by omega]
  rw [hm] at he
  refine ⟨(q.bind fun _ r => f r).bind fun _ r => .ok () r, ?_, ?_⟩
  · revert hq; cases (q.bind fun _ r => f r) <;> exact fun h => h
  · rw [← he]
    cases q with
    | bad e k => rfl
    | ok u r =>
      simp only [Rd.bind_ok] at hx ⊢
      show _ = ((f r).bind fun x r' => (timesR f m r').bind fun l r'' => .ok (x :: l) r'').bind _
      cases hf : f r with
      | bad e k => rfl
      | ok y r' =>
        obtain rfl := hx y r' hf
        simp only [Rd.bind_ok]
        cases timesR f m r' with
        | bad e k => rfl
        | ok l r'' => simp
theorem left_end {α : Type} {f : List Int → Rd α} {s : ByteArray} {at_ : Nat} {c a : Int} {n : Nat} {acc : List α} {res : Rd (List α)} (h : Left f s at_ c a n acc res) (h0 : n = 0 ∨ c ≠ 0) : SpotOf s at_ c a res ∧ Got res acc := by
  obtain ⟨q, hq, rfl⟩ := h
  cases q with
  | bad e k => exact ⟨hq, fun y r h => by cases h⟩
  | ok u r =>
    rcases h0 with rfl | h0
    · refine ⟨?_, fun y r' h => ?_⟩
      · exact hq
      · simp only [Rd.bind_ok, timesR] at h
        cases h; simp
    · exact absurd hq.1 h0

theorem lit_at (w : World) (cs : Array Value) (e : TypeId) {b : Nat} (h : w.heap.size = b) : SlAt (w.alloc (.cells cs e)) (some ⟨b, 0, none⟩) cs.toList := by
  subst h; exact SlAt.lit w cs e
theorem sp_size (w : World) (B : Nat) (u0 u1 u2 u3 : Value) : ((((w.setCell ⟨B, 0, none⟩ u0).setCell ⟨B, 1, none⟩ u1).setCell ⟨B, 2, none⟩ u2).setCell ⟨B, 3, none⟩ u3).heap.size = w.heap.size := by simp

set_option maxRecDepth 100000 in
set_option maxHeartbeats 4000000 in
theorem rints_uni (w : World) (s : ByteArray) (at0 : Nat) (c0 a0 : Int) {β : Type} (q0 : Rd β) (hq : SpotOf s at0 c0 a0 q0) (m : Nat) (hm : m ≤ 1024) (hs : s.size ≤ 9223372036854775807) :
    Calls Try.prog 61 #[Sp s at0 c0 a0, I m] w fun e w' => ∃ (at_ : Nat) (c a : Int) (ao : Option Addr) (cc : Nat) (xs : List Int), e = .returned (.tuple #[Sp s at_ c a, .slice ao xs.length cc]) ∧
      Hid (SpotOf s at_ c a (q0.bind fun _ r => intsR m r) ∧ Got (q0.bind fun _ r => intsR m r) xs) ∧ xs.length ≤ m ∧ OwnI w' w.heap.size ao cc xs ∧ New w w' := by
  obtain ⟨i0, hi, hz0, hz1, hz2⟩ := info_parts Try.infoInt
  have hw := fun W => rmany_uni W s at0 c0 a0 q0 hq hs m
  have hres : (q0.bind fun _ r => intsR m r) = (q0.bind fun _ r => manyR m r).bind fun n r => timesR sintR n r := by rw [Rd.bind_assoc]; rfl
  rw [hres]
  generalize (q0.bind fun _ r => manyR m r) = q1 at hw ⊢
  obtain ⟨RES, hRES⟩ : ∃ RES, (q1.bind fun n r => timesR sintR n r) = RES := ⟨_, rfl⟩
  rw [hRES]
  have HRES := Lib.hid hRES
  clear hq hres hRES
  have HW := Lib.hid hw
  clear hw
  go_enter Try.func61, Try.ntmps61
  go_wp2_with fail
  have hR : ((w.alloc (.cells (SpC s at0 c0 a0) 74)).alloc (.cells #[.string ⟨#[]⟩, I 0, I 0, I 0] 74)).heap[w.heap.size + 1]? = some (.cells (SpC ⟨#[]⟩ 0 0 0) 74 (0, 0)) := by
    have := heap_alloc_new (w.alloc (.cells (SpC s at0 c0 a0) 74)) (.cells #[.string ⟨#[]⟩, I 0, I 0, I 0] 74)
    simpa using this
  have hN : New w ((w.alloc (.cells (SpC s at0 c0 a0) 74)).alloc (.cells #[.string ⟨#[]⟩, I 0, I 0, I 0] 74)) := ((New.refl w).alloc _).alloc _
  generalize ((w.alloc (.cells (SpC s at0 c0 a0) 74)).alloc (.cells #[.string ⟨#[]⟩, I 0, I 0, I 0] 74)) = wT at hR hN ⊢
  refine (HW.out _).mono ?_
  rintro e w2 ⟨at1, c1, a1, n, rfl, HQ1, hnm, k2⟩
  replace hR := Keeps.heap k2 hR (fun h => h)
  replace hN := hN.trans k2
  clear k2
  have HST0 : Hid (Left sintR s at1 c1 a1 n [] RES) := Lib.hid (by rw [← HRES.out]; exact left_start HQ1.out.1 HQ1.out.2)
  clear HQ1 HW HRES
  go_wp2_with fail
  have hB : (w2.alloc (.cells (SpC s at1 c1 a1) 74)).heap[w2.heap.size]? = some (.cells (SpC s at1 c1 a1) 74 (0, 0)) := heap_alloc_new w2 _
  have hB1 : w.heap.size + 1 < w2.heap.size := (Array.getElem?_eq_some_iff.1 hR).1
  replace hR := Keeps.heap ((New.refl w2).alloc (.cells (SpC s at1 c1 a1) 74)) hR (fun h => h)
  replace hN := New.alloc hN (.cells (SpC s at1 c1 a1) 74)
  generalize (w2.alloc (.cells (SpC s at1 c1 a1) 74)) = wS at hB hR hN ⊢
  obtain ⟨B, hBe⟩ : ∃ B, B = w2.heap.size := ⟨_, rfl⟩
  rw [← hBe] at hB hB1 ⊢
  clear hBe w2
  have hBl : B < wS.heap.size := (Array.getElem?_eq_some_iff.1 hB).1
  go_loopw [8, 9, 10] (fun out i _ wr => ∃ (k : Nat) (acc : List Int) (a : Option Addr) (c : Nat) (at_ : Nat) (cd aa : Int), k ≤ n ∧ i = .int .i64 k ∧ out = .slice a acc.length c ∧ OwnI wr wS.heap.size a c acc ∧ acc.length = k ∧ wr.heap[B]? = some (.cells (SpC s at_ cd aa) 74 (0, 0)) ∧ Keeps (fun k => k = B) wS wr ∧
    Hid (Left sintR s at_ cd aa (n - k) acc RES)) (fun _ i _ _ => n - (intOf i).toNat)
  case atStart => exact ⟨0, [], none, 0, at1, c1, a1, by omega, rfl, rfl, OwnI.nil _ _, rfl, hB, Keeps.refl _ _, HST0⟩
  case round =>
    clear hB HST0
    obtain ⟨k, acc, a, c, at_, cd, aa, hk, rfl, rfl, hown, hal, hB, hkr, HST⟩ := hrel
    have HAL := Lib.hid hal
    have hal1 : acc.length ≤ k := by omega
    clear hal
    replace hR := hkr.heap hR (by show w.heap.size + 1 ≠ B; omega)
    have hN2 := hN.keeps hkr (fun i hi e => by omega)
    obtain ⟨b0, b1, b2, b3, z0, z1, z2, z3⟩ := sp_cells hB
    have hBw : B < wr.heap.size := (Array.getElem?_eq_some_iff.1 hB).1
    have hsz : w.heap.size + 1 < wr.heap.size := by omega
    have hsz0 : w.heap.size < wr.heap.size := by omega
    by_cases hgo : k < n ∧ cd = 0
    · obtain ⟨hkn, rfl⟩ := hgo
      obtain ⟨rfl, q, hq, he⟩ := left_good HST.out
      have hk1 : decide (k < n) = true := decide_eq_true hkn
      have HSG := Lib.hid (fun W => rsigned_uni W s at_ 0 0 q hq hs)
      have HNX : Hid (∀ (at2 : Nat) (c2 a2 x : Int), SpotOf s at2 c2 a2 (q.bind fun _ r => sintR r) → Got (q.bind fun _ r => sintR r) x → Left sintR s at2 c2 a2 (n - (k + 1)) (acc ++ [x]) RES) := Lib.hid fun at2 c2 a2 x h1 h2 => left_next hkn he h1 h2
      clear hq he HST hR hN2 hsz hsz0
      go_wp2_with fail
      refine (HSG.out _).mono ?_
      rintro e w3 ⟨at2, cd2, aa2, x, rfl, HX, k3⟩
      clear b0 b1 b2 b3 z0 z1 z2 z3
      have HST2 := Lib.hid (HNX.out at2 cd2 aa2 x HX.out.1 HX.out.2)
      clear HNX HX HSG
      replace hB := Keeps.heap k3 hB (fun h => h)
      obtain ⟨b0, b1, b2, b3, z0, z1, z2, z3⟩ := sp_cells hB
      obtain ⟨hB4, hk4⟩ := sp_set hB s at2 cd2 aa2
      have hkr4 := (hkr.trans (Keeps.mono k3 (fun _ _ h => h.elim)) (fun _ _ h => h)).trans hk4 (fun _ _ h => h)
      have hown3 := hown.new k3
      have hown4 : OwnI _ wS.heap.size a c acc := hk4.owns hown3 (fun i hi e => by have := (World.ownsRow.lt hown3 i hi).1; omega)
      have hsz4 := hkr4.size
      have HS4 := Lib.hid hsz4
      have HZ4 := Lib.hid (sp_size w3 B (.string s) (I (at2 : Int)) (I cd2) (I aa2))
      have HO4 := Lib.hid hown4
      have HB4 := Lib.hid hB4
      have HK4 := Lib.hid hkr4
      clear hown hown3 hkr hB hk4 k3 hown4 hB4 hkr4 hsz4
      go_wp2_with (at_builtin; generalize ((((w3.setCell ⟨B, 0, none⟩ (.string s)).setCell ⟨B, 1, none⟩ (I (at2 : Int))).setCell ⟨B, 2, none⟩ (I cd2)).setCell ⟨B, 3, none⟩ (I aa2)) = w4 at HS4 HO4 HB4 HK4 HZ4 ⊢; refine wpList_app rfl _ _ 43 rfl wS.heap.size 3 i0 (.int .i64 0) 1 8 Try.underlying43 hi hz0 hz1 hz2 rfl (by decide) a acc.length c (Is acc) rfl (OwnI.new HO4.out (Keeps.alloc _ _)) _ 1 1 [I x] rfl rfl (lit_at _ _ _ HZ4.out) (oneCell_ints .i64 [x]) (by unfold maxLen; omega) (by omega) (Nat.le_trans HS4.out (by simp)) ?_)
      intro a' c' w5 hown5 hk5 _ _
      have hno : ∀ i, blk a i → wS.heap.size ≤ i := fun i hb => (own_of_blk HO4.out hb).1
      have hB5 := hk5.heap (Keeps.heap (S := fun _ => False) (Keeps.alloc _ (.cells #[I x] 3)) HB4.out (fun h => h)) (fun hb => absurd (show wS.heap.size ≤ B from hno _ hb) (by omega))
      have hkr5 := (HK4.out.trans (Keeps.alloc (S := fun k => k = B) _ (.cells #[I x] 3)) (fun _ _ h => h)).trans hk5 (fun i hi hb => by have := hno _ hb; omega)
      have hown6 : OwnI w5 wS.heap.size a' c' (acc ++ [x]) := by unfold OwnI; simpa using hown5
      clear hown5 hk5 HO4 HB4 HK4 b0 b1 b2 b3 z0 z1 z2 z3
      go_wp2
      go_roundw
      case rel => exact ⟨k + 1, acc ++ [x], a', c', at2, cd2, aa2, by omega, by go_num, by simp, hown6, by have := HAL.out; simp; omega, hB5, hkr5, HST2⟩
      case measure => simp [intOf]; omega
    · have hend : SpotOf s at_ cd aa RES ∧ Got RES acc := left_end HST.out (by omega)
      have HE := Lib.hid hend
      obtain ⟨r0, r1, r2, r3, y0, y1, y2, y3⟩ := sp_cells hR
      obtain ⟨hf, hkf⟩ := sp_set hR s at_ cd aa
      have hownf : OwnI _ w.heap.size a c acc := OwnI.rebase (hkf.owns hown (fun i hi e => by have := (World.ownsRow.lt hown i hi).1; omega)) (by omega)
      have hNf := Lib.hid (hN2.keeps hkf (fun i hi e => by omega))
      have HOF := Lib.hid hownf
      have hln : acc.length ≤ m := by omega
      clear hend HST hf hkf hown hownf hR hB hkr hN2
      by_cases hkn : k < n
      · have hd9 : decide (k < n) = true := decide_eq_true hkn
        have hcd1 : (cd == 0) = false := by
          have : cd ≠ 0 := fun e => hgo ⟨hkn, e⟩
          simpa using this
        clear hgo
        go_wp2_with fail
        exact bodyPost_ret (v := .tuple #[Sp s at_ cd aa, .slice a acc.length c]) (by simp [results, Try.results61, go_sem, r0, r1, r2, r3, y0, y1, y2, y3, hsz, hsz0]) rfl ⟨at_, cd, aa, a, c, acc, rfl, HE, hln, HOF.out, hNf.out⟩
      · have hd9 : decide (k < n) = false := decide_eq_false hkn
        clear hgo hkn
        go_wp2_with fail
        exact bodyPost_ret (v := .tuple #[Sp s at_ cd aa, .slice a acc.length c]) (by simp [results, Try.results61, go_sem, r0, r1, r2, r3, y0, y1, y2, y3, hsz, hsz0]) rfl ⟨at_, cd, aa, a, c, acc, rfl, HE, hln, HOF.out, hNf.out⟩
end Go.Proofs.Ytfmpjbiaamkobaa
