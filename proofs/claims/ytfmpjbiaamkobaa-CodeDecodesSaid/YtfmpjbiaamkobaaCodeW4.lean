/-
  Layer 20: the document's reader: parts, lines, operations.
-/
import Derived.Test.YtfmpjbiaamkobaaCodeW3
namespace Go.Proofs.Ytfmpjbiaamkobaa
open Go Go.RowKit Go.Joins
set_option linter.all false

/-- Parts (lines, operations) in memory of the call's own. -/
structure PartsOwn (w : World) (B : Nat) (a : Option Addr) (c : Nat) (l : List PartD) : Prop where
  row : w.ownsRow B 45 2 (.slice a l.length c) l.length (l.flatMap partCells)
  inn : ∀ x ∈ l, OwnI w B x.a x.c x.xs
structure LinesOwn (w : World) (B : Nat) (a : Option Addr) (c : Nat) (l : List LineD) : Prop where
  row : w.ownsRow B 49 3 (.slice a l.length c) l.length (l.flatMap lineCells)
  inn : ∀ x ∈ l, OwnI w B x.a x.c x.xs
structure OpsOwn (w : World) (B : Nat) (a : Option Addr) (c : Nat) (l : List OpD) : Prop where
  row : w.ownsRow B 53 3 (.slice a l.length c) l.length (l.flatMap opCells)

theorem owns_past {S : Nat → Prop} {w w' : World} {B e size n : Nat} {v : Value} {xs : List Value} (h : w.ownsRow B e size v n xs) (k : Keeps S w w') (hS : ∀ i, B ≤ i → ¬ S i) : w'.ownsRow B e size v n xs :=
  k.owns h (fun i hi hs => hS i (World.ownsRow.lt h i hi).1 hs)
theorem PartsOwn.keeps {S : Nat → Prop} {w w' : World} {B : Nat} {a : Option Addr} {c : Nat} {l : List PartD} (h : PartsOwn w B a c l) (k : Keeps S w w') (hS : ∀ i, B ≤ i → ¬ S i) : PartsOwn w' B a c l :=
  ⟨owns_past h.row k hS, fun x hx => owns_past (h.inn x hx) k hS⟩
theorem LinesOwn.keeps {S : Nat → Prop} {w w' : World} {B : Nat} {a : Option Addr} {c : Nat} {l : List LineD} (h : LinesOwn w B a c l) (k : Keeps S w w') (hS : ∀ i, B ≤ i → ¬ S i) : LinesOwn w' B a c l :=
  ⟨owns_past h.row k hS, fun x hx => owns_past (h.inn x hx) k hS⟩
theorem OpsOwn.keeps {S : Nat → Prop} {w w' : World} {B : Nat} {a : Option Addr} {c : Nat} {l : List OpD} (h : OpsOwn w B a c l) (k : Keeps S w w') (hS : ∀ i, B ≤ i → ¬ S i) : OpsOwn w' B a c l :=
  ⟨owns_past h.row k hS⟩
theorem PartsOwn.nil (w : World) (B : Nat) : PartsOwn w B none 0 [] := ⟨World.ownsRow_nil _ _ _ _, fun x hx => by cases hx⟩
theorem LinesOwn.nil (w : World) (B : Nat) : LinesOwn w B none 0 [] := ⟨World.ownsRow_nil _ _ _ _, fun x hx => by cases hx⟩
theorem OpsOwn.nil (w : World) (B : Nat) : OpsOwn w B none 0 [] := ⟨World.ownsRow_nil _ _ _ _⟩
theorem PartsOwn.rebase {w : World} {B B' : Nat} {a : Option Addr} {c : Nat} {l : List PartD} (h : PartsOwn w B a c l) (hb : B' ≤ B) : PartsOwn w B' a c l := ⟨ownsRow_le h.row hb, fun x hx => ownsRow_le (h.inn x hx) hb⟩
theorem LinesOwn.rebase {w : World} {B B' : Nat} {a : Option Addr} {c : Nat} {l : List LineD} (h : LinesOwn w B a c l) (hb : B' ≤ B) : LinesOwn w B' a c l := ⟨ownsRow_le h.row hb, fun x hx => ownsRow_le (h.inn x hx) hb⟩
theorem OpsOwn.rebase {w : World} {B B' : Nat} {a : Option Addr} {c : Nat} {l : List OpD} (h : OpsOwn w B a c l) (hb : B' ≤ B) : OpsOwn w B' a c l := ⟨ownsRow_le h.row hb⟩
theorem PartsOwn.push {w2 w3 : World} {B : Nat} {a : Option Addr} {c : Nat} {l : List PartD} (h : PartsOwn w2 B a c l) (x : PartD) (hx : OwnI w2 B x.a x.c x.xs) {a' : Option Addr} {c' : Nat}
    (ho : w3.ownsRow B 45 2 (.slice a' (l.length + 1) c') (l.length + 1) (l.flatMap partCells ++ partCells x)) (hk : Keeps (blk a) w2 w3) : PartsOwn w3 B a' c' (l ++ [x]) := by
  have ht : Tagged (blk a) w2 (fun t => t ≠ 3) := Tagged.own h.row (by decide)
  refine ⟨by simpa using ho, fun y hy => ?_⟩
  rcases List.mem_append.1 hy with hy | hy
  · exact own_other (h.inn y hy) hk ht
  · rw [List.mem_singleton.1 hy]; exact own_other hx hk ht
theorem LinesOwn.push {w2 w3 : World} {B : Nat} {a : Option Addr} {c : Nat} {l : List LineD} (h : LinesOwn w2 B a c l) (x : LineD) (hx : OwnI w2 B x.a x.c x.xs) {a' : Option Addr} {c' : Nat}
    (ho : w3.ownsRow B 49 3 (.slice a' (l.length + 1) c') (l.length + 1) (l.flatMap lineCells ++ lineCells x)) (hk : Keeps (blk a) w2 w3) : LinesOwn w3 B a' c' (l ++ [x]) := by
  have ht : Tagged (blk a) w2 (fun t => t ≠ 3) := Tagged.own h.row (by decide)
  refine ⟨by simpa using ho, fun y hy => ?_⟩
  rcases List.mem_append.1 hy with hy | hy
  · exact own_other (h.inn y hy) hk ht
  · rw [List.mem_singleton.1 hy]; exact own_other hx hk ht
theorem OpsOwn.push {w3 : World} {B : Nat} {l : List OpD} (x : OpD) {a' : Option Addr} {c' : Nat}
    (ho : w3.ownsRow B 53 3 (.slice a' (l.length + 1) c') (l.length + 1) (l.flatMap opCells ++ opCells x)) : OpsOwn w3 B a' c' (l ++ [x]) := ⟨by simpa using ho⟩

/-- One part (line, operation) is read when its pieces are. -/
theorem part_of {q : Rd Unit} {t : Int} {xs : List Int} (h1 : Got (q.bind fun _ r => nextR r) t) (h2 : Got ((q.bind fun _ r => nextR r).bind fun _ r => intsR 16 r) xs) {s : ByteArray} {at_ : Nat} {c a : Int}
    (h3 : SpotOf s at_ c a ((q.bind fun _ r => nextR r).bind fun _ r => intsR 16 r)) : SpotOf s at_ c a (q.bind fun _ r => partR r) ∧ Got (q.bind fun _ r => partR r) ⟨t, none, 0, xs⟩ := by
  cases q with
  | bad e k => exact ⟨h3, fun y r h => by cases h⟩
  | ok u r =>
    simp only [Rd.bind_ok] at h1 h2 h3 ⊢
    unfold partR
    cases hn : nextR r with
    | bad e k => rw [hn] at h3; exact ⟨h3, fun y r h => by cases h⟩
    | ok t' r1 =>
      obtain rfl := h1 t' r1 hn
      rw [hn] at h2 h3
      simp only [Rd.bind_ok] at h2 h3 ⊢
      cases hm : intsR 16 r1 with
      | bad e k => rw [hm] at h3; exact ⟨h3, fun y r h => by cases h⟩
      | ok xs' r2 =>
        obtain rfl := h2 xs' r2 hm
        rw [hm] at h3
        exact ⟨h3, fun y r h => by simp only [Rd.bind_ok] at h; cases h; rfl⟩
theorem line_of {q : Rd Unit} {b z : Nat} {xs : List Int} (h1 : Got (q.bind fun _ r => countR r) b) (h2 : Got ((q.bind fun _ r => countR r).bind fun _ r => countR r) z) (h4 : Got (((q.bind fun _ r => countR r).bind fun _ r => countR r).bind fun _ r => intsR 1024 r) xs)
    {s : ByteArray} {at_ : Nat} {c a : Int} (h3 : SpotOf s at_ c a (((q.bind fun _ r => countR r).bind fun _ r => countR r).bind fun _ r => intsR 1024 r)) :
    SpotOf s at_ c a (q.bind fun _ r => lineR r) ∧ Got (q.bind fun _ r => lineR r) ⟨b, z, none, 0, xs⟩ := by
  cases q with
  | bad e k => exact ⟨h3, fun y r h => by cases h⟩
  | ok u r =>
    simp only [Rd.bind_ok] at h1 h2 h3 h4 ⊢
    unfold lineR
    cases hn : countR r with
    | bad e k => rw [hn] at h3; exact ⟨h3, fun y r h => by cases h⟩
    | ok t' r1 =>
      obtain rfl := h1 t' r1 hn
      rw [hn] at h2 h3 h4
      simp only [Rd.bind_ok] at h2 h3 h4 ⊢
      cases hm : countR r1 with
      | bad e k => rw [hm] at h3; exact ⟨h3, fun y r h => by cases h⟩
      | ok z' r2 =>
        obtain rfl := h2 z' r2 hm
        rw [hm] at h3 h4
        simp only [Rd.bind_ok] at h3 h4 ⊢
        cases hl : intsR 1024 r2 with
        | bad e k => rw [hl] at h3; exact ⟨h3, fun y r h => by cases h⟩
        | ok xs' r3 =>
          obtain rfl := h4 xs' r3 hl
          rw [hl] at h3
          exact ⟨h3, fun y r h => by simp only [Rd.bind_ok] at h; cases h; rfl⟩
theorem op_of {q : Rd Unit} {t : Int} {x y : Nat} (h1 : Got (q.bind fun _ r => nextR r) t) (h2 : Got ((q.bind fun _ r => nextR r).bind fun _ r => countR r) x) (h4 : Got (((q.bind fun _ r => nextR r).bind fun _ r => countR r).bind fun _ r => countR r) y)
    {s : ByteArray} {at_ : Nat} {c a : Int} (h3 : SpotOf s at_ c a (((q.bind fun _ r => nextR r).bind fun _ r => countR r).bind fun _ r => countR r)) :
    SpotOf s at_ c a (q.bind fun _ r => opR r) ∧ Got (q.bind fun _ r => opR r) ⟨t, x, y⟩ := by
  cases q with
  | bad e k => exact ⟨h3, fun y r h => by cases h⟩
  | ok u r =>
    simp only [Rd.bind_ok] at h1 h2 h3 h4 ⊢
    unfold opR
    cases hn : nextR r with
    | bad e k => rw [hn] at h3; exact ⟨h3, fun y r h => by cases h⟩
    | ok t' r1 =>
      obtain rfl := h1 t' r1 hn
      rw [hn] at h2 h3 h4
      simp only [Rd.bind_ok] at h2 h3 h4 ⊢
      cases hm : countR r1 with
      | bad e k => rw [hm] at h3; exact ⟨h3, fun y r h => by cases h⟩
      | ok z' r2 =>
        obtain rfl := h2 z' r2 hm
        rw [hm] at h3 h4
        simp only [Rd.bind_ok] at h3 h4 ⊢
        cases hl : countR r2 with
        | bad e k => rw [hl] at h3; exact ⟨h3, fun y r h => by cases h⟩
        | ok xs' r3 =>
          obtain rfl := h4 xs' r3 hl
          rw [hl] at h3
          exact ⟨h3, fun y r h => by simp only [Rd.bind_ok] at h; cases h; rfl⟩
set_option maxRecDepth 100000 in
set_option maxHeartbeats 8000000 in
theorem rparts_uni (w : World) (s : ByteArray) (at0 : Nat) (c0 a0 : Int) {β : Type} (q0 : Rd β) (hq : SpotOf s at0 c0 a0 q0) (hs : s.size ≤ 9223372036854775807) :
    Calls Try.prog 41 #[Sp s at0 c0 a0] w fun e w' => ∃ (at_ : Nat) (c a : Int) (ao : Option Addr) (cc : Nat) (l : List PartD), e = .returned (.tuple #[Sp s at_ c a, .slice ao l.length cc]) ∧
      Hid (SpotOf s at_ c a (q0.bind fun _ r => listR partR 32 r) ∧ Got (q0.bind fun _ r => listR partR 32 r) (l.map PartD.bare)) ∧ l.length ≤ 32 ∧ (∀ x ∈ l, x.xs.length ≤ 16) ∧ PartsOwn w' w.heap.size ao cc l ∧ New w w' := by
  obtain ⟨i0, hi, hz0, hz1, hz2⟩ := info_parts Try.infoPart
  have hw := fun W => rmany_uni W s at0 c0 a0 q0 hq hs 32
  have hres : (q0.bind fun _ r => listR partR 32 r) = (q0.bind fun _ r => manyR 32 r).bind fun n r => timesR partR n r := by rw [Rd.bind_assoc]; rfl
  rw [hres]
  generalize (q0.bind fun _ r => manyR 32 r) = q1 at hw ⊢
  obtain ⟨RES, hRES⟩ : ∃ RES, (q1.bind fun n r => timesR partR n r) = RES := ⟨_, rfl⟩
  rw [hRES]
  have HRES := Lib.hid hRES
  clear hq hres hRES
  have HW := Lib.hid hw
  clear hw
  go_enter Try.func41, Try.ntmps41
  go_wp2_with fail
  have hB : ((w.alloc (.cells (SpC s at0 c0 a0) 74)).alloc (.cells #[.string ⟨#[]⟩, I 0, I 0, I 0] 74)).heap[w.heap.size]? = some (.cells (SpC s at0 c0 a0) 74 (0, 0)) := Keeps.heap (S := fun _ => False) (Keeps.alloc _ _) (heap_alloc_new w _) (fun h => h)
  have hR : ((w.alloc (.cells (SpC s at0 c0 a0) 74)).alloc (.cells #[.string ⟨#[]⟩, I 0, I 0, I 0] 74)).heap[w.heap.size + 1]? = some (.cells (SpC ⟨#[]⟩ 0 0 0) 74 (0, 0)) := by
    have := heap_alloc_new (w.alloc (.cells (SpC s at0 c0 a0) 74)) (.cells #[.string ⟨#[]⟩, I 0, I 0, I 0] 74)
    simpa using this
  have hN : New w ((w.alloc (.cells (SpC s at0 c0 a0) 74)).alloc (.cells #[.string ⟨#[]⟩, I 0, I 0, I 0] 74)) := ((New.refl w).alloc _).alloc _
  generalize ((w.alloc (.cells (SpC s at0 c0 a0) 74)).alloc (.cells #[.string ⟨#[]⟩, I 0, I 0, I 0] 74)) = wT at hB hR hN ⊢
  refine (HW.out _).mono ?_
  rintro e w2 ⟨at1, c1, a1, n, rfl, HQ1, hnm, k2⟩
  replace hB := Keeps.heap k2 hB (fun h => h)
  replace hR := Keeps.heap k2 hR (fun h => h)
  replace hN := hN.trans k2
  clear k2
  have HST0 : Hid (Left partR s at1 c1 a1 n [] RES) := Lib.hid (by rw [← HRES.out]; exact left_start HQ1.out.1 HQ1.out.2)
  clear HQ1 HW HRES
  obtain ⟨b0, b1, b2, b3, z0, z1, z2, z3⟩ := sp_cells hB
  obtain ⟨hB2, hk2⟩ := sp_set hB s at1 c1 a1
  have hsz : w.heap.size + 1 < w2.heap.size := (Array.getElem?_eq_some_iff.1 hR).1
  have hR2 := hk2.heap hR (by show w.heap.size + 1 ≠ w.heap.size; omega)
  have hN2 := hN.keeps hk2 (fun i hi e => by omega)
  have hsz0 : w.heap.size < w2.heap.size := by omega
  have HB2 := Lib.hid hB2
  have HR2 := Lib.hid hR2
  have HN2 := Lib.hid hN2
  have HZ2 := Lib.hid (sp_size w2 w.heap.size (.string s) (I (at1 : Int)) (I c1) (I a1))
  clear hB hR hN hB2 hk2 hR2 hN2
  go_wp2_with fail
  clear b0 b1 b2 b3 z0 z1 z2 z3
  obtain ⟨B, hBe⟩ : ∃ B, B = w.heap.size := ⟨_, rfl⟩
  generalize ((((w2.setCell ⟨w.heap.size, 0, none⟩ (.string s)).setCell ⟨w.heap.size, 1, none⟩ (I (at1 : Int))).setCell ⟨w.heap.size, 2, none⟩ (I c1)).setCell ⟨w.heap.size, 3, none⟩ (I a1)) = wS at HB2 HR2 HN2 HZ2 ⊢
  have hB := HB2.out
  have hR := HR2.out
  have hN := HN2.out
  have hsS : w.heap.size + 1 < wS.heap.size := by have := HZ2.out; omega
  clear HB2 HR2 HN2 HZ2 hsz hsz0
  rw [← hBe] at hB ⊢
  have hBe2 := Lib.hid hBe
  have hBl : B + 1 < wS.heap.size := by omega
  rw [← hBe] at hR
  clear hBe hsS
  go_loopw [5, 6, 7, 8] (fun out i _ _ wr => ∃ (k : Nat) (acc : List PartD) (a : Option Addr) (c : Nat) (at_ : Nat) (cd aa : Int), k ≤ n ∧ i = .int .i64 k ∧ out = .slice a acc.length c ∧ PartsOwn wr wS.heap.size a c acc ∧ (∀ x ∈ acc, x.xs.length ≤ 16) ∧ acc.length = k ∧ wr.heap[B]? = some (.cells (SpC s at_ cd aa) 74 (0, 0)) ∧ Keeps (fun k => k = B) wS wr ∧
    Hid (Left partR s at_ cd aa (n - k) (acc.map PartD.bare) RES)) (fun _ i _ _ _ => n - (intOf i).toNat)
  case atStart => exact ⟨0, [], none, 0, at1, c1, a1, by omega, rfl, rfl, PartsOwn.nil _ _, (fun x hx => by cases hx), rfl, hB, Keeps.refl _ _, HST0⟩
  case round =>
    clear hB HST0
    obtain ⟨k, acc, a, c, at_, cd, aa, hk, rfl, rfl, hown, hinn, hal, hB, hkr, HST⟩ := hrel
    have HAL := Lib.hid hal
    have HIN := Lib.hid hinn
    have hal1 : acc.length ≤ k := by omega
    clear hal hinn
    replace hR := hkr.heap hR (by show B + 1 ≠ B; omega)
    have hN2 := hN.keeps hkr (fun i hi e => by have := hBe2.out; omega)
    obtain ⟨b0, b1, b2, b3, z0, z1, z2, z3⟩ := sp_cells hB
    have hBw : B < wr.heap.size := (Array.getElem?_eq_some_iff.1 hB).1
    have hsz : B + 1 < wr.heap.size := (Array.getElem?_eq_some_iff.1 hR).1
    by_cases hgo : k < n ∧ cd = 0
    · obtain ⟨hkn, rfl⟩ := hgo
      obtain ⟨rfl, q, hq, he⟩ := left_good HST.out
      have hk1 : decide (k < n) = true := decide_eq_true hkn
      have HHQ := Lib.hid hq
      have HHE := Lib.hid he
      have HO := Lib.hid hown
      have HK := Lib.hid hkr
      clear hq he HST hR hN2 hsz hown hkr
      go_wp2_with fail
      refine (rone_uni wr s at_ 0 0 q HHQ.out hs).mono ?_
      rintro e w3 ⟨at2, cd2, aa2, t, rfl, HX0, hrng0, k3⟩
      clear b0 b1 b2 b3 z0 z1 z2 z3
      replace hB := Keeps.heap k3 hB (fun h => h)
      obtain ⟨b0, b1, b2, b3, z0, z1, z2, z3⟩ := sp_cells hB
      obtain ⟨hB4, hk4⟩ := sp_set hB s at2 cd2 aa2
      have HKA := Lib.hid ((HK.out.trans (Keeps.mono k3 (fun _ _ h => h.elim)) (fun _ _ h => h)).trans hk4 (fun _ _ h => h))
      have HOA : Hid (PartsOwn _ wS.heap.size a c acc) := Lib.hid ((HO.out.keeps k3 (fun _ _ h => h)).keeps hk4 (fun i hi e => by omega))
      have HB4 := Lib.hid hB4
      have HZ4 := Lib.hid (sp_size w3 B (.string s) (I (at2 : Int)) (I cd2) (I aa2))
      clear HO HK hB hB4 hk4 k3 hBw
      have hBw : B < w3.heap.size := World.block_lt_of_cell? w3 _ b0
      go_wp2_with fail
      clear b0 b1 b2 b3 z0 z1 z2 z3 hBw
      generalize ((((w3.setCell ⟨B, 0, none⟩ (.string s)).setCell ⟨B, 1, none⟩ (I (at2 : Int))).setCell ⟨B, 2, none⟩ (I cd2)).setCell ⟨B, 3, none⟩ (I aa2)) = v3 at HKA HOA HB4 HZ4 ⊢
      have hB := HB4.out
      have HK := HKA
      have HO := HOA
      obtain ⟨b0, b1, b2, b3, z0, z1, z2, z3⟩ := sp_cells hB
      have hBw : B < v3.heap.size := World.block_lt_of_cell? v3 _ b0
      clear HB4 HKA HOA HZ4
      refine (rints_uni v3 s at2 cd2 aa2 (q.bind fun _ r => nextR r) HX0.out.1 16 (by omega) hs).mono ?_
      rintro e w4 ⟨at3, cd3, aa3, ao, cc, xs, rfl, HX1, hlen, hox, k4⟩
      clear b0 b1 b2 b3 z0 z1 z2 z3
      replace hB := Keeps.heap k4 hB (fun h => h)
      obtain ⟨b0, b1, b2, b3, z0, z1, z2, z3⟩ := sp_cells hB
      obtain ⟨hB4, hk4⟩ := sp_set hB s at3 cd3 aa3
      have HKA := Lib.hid ((HK.out.trans (Keeps.mono k4 (fun _ _ h => h.elim)) (fun _ _ h => h)).trans hk4 (fun _ _ h => h))
      have HOA : Hid (PartsOwn _ wS.heap.size a c acc) := Lib.hid ((HO.out.keeps k4 (fun _ _ h => h)).keeps hk4 (fun i hi e => by omega))
      have hso := HK.out.size
      have HOX : Hid (OwnI _ wS.heap.size ao cc xs) := Lib.hid (owns_past (OwnI.rebase hox hso) hk4 (fun i hi e => by omega))
      clear hox hso
      have HB4 := Lib.hid hB4
      have HZ4 := Lib.hid (sp_size w4 B (.string s) (I (at3 : Int)) (I cd3) (I aa3))
      clear HO HK hB hB4 hk4 k4 hBw
      have hBw : B < w4.heap.size := World.block_lt_of_cell? w4 _ b0
      have hwt : IntKind.u8.wrap t = t := IntWalk.u8_in t hrng0
      have HNX : Hid (Left partR s at3 cd3 aa3 (n - (k + 1)) ((acc.map PartD.bare) ++ [(⟨t, none, 0, xs⟩ : PartD)]) RES) := Lib.hid (by
        have h := part_of HX0.out.2 HX1.out.2 HX1.out.1
        exact left_next hkn HHE.out h.1 h.2)
      clear HX0 HX1 HHQ HHE
      have hsz4 := HKA.out.size
      have HS4 := Lib.hid hsz4
      clear hsz4
      go_wp2_with (at_builtin; generalize ((((w4.setCell ⟨B, 0, none⟩ (.string s)).setCell ⟨B, 1, none⟩ (I (at3 : Int))).setCell ⟨B, 2, none⟩ (I cd3)).setCell ⟨B, 3, none⟩ (I aa3)) = w9 at HS4 HKA HOA HB4 HZ4 HOX ⊢; refine wpList_app rfl _ _ 22 rfl wS.heap.size 45 i0 (.agg #[.int .u8 0, .slice none 0 0]) 2 32 Try.underlying22 hi hz0 hz1 hz2 rfl (by decide) a acc.length c (acc.flatMap partCells) rfl (New.owns (Keeps.alloc _ _) HOA.out.row) _ 1 1 (partCells ⟨t, ao, cc, xs⟩) rfl rfl (lit_at _ _ _ HZ4.out) (one_part _) (by unfold maxLen; omega) (by omega) (Nat.le_trans HS4.out (by simp)) ?_)
      intro a' c' w5 hown5 hk5 _ _
      have hno : ∀ i, blk a i → wS.heap.size ≤ i := fun i hb => (own_of_blk HOA.out.row hb).1
      have hB5 := hk5.heap (Keeps.heap (S := fun _ => False) (Keeps.alloc _ (.cells #[.int .u8 t, .slice ao xs.length cc] 45)) HB4.out (fun h => h)) (fun hb => absurd (show wS.heap.size ≤ B from hno _ hb) (by omega))
      have hkr5 := (HKA.out.trans (Keeps.alloc (S := fun k => k = B) _ (.cells #[.int .u8 t, .slice ao xs.length cc] 45)) (fun _ _ h => h)).trans hk5 (fun i hi hb => by have := hno _ hb; omega)
      have hown6 := PartsOwn.push (HOA.out.keeps (Keeps.alloc (S := fun _ => False) _ (.cells #[.int .u8 t, .slice ao xs.length cc] 45)) (fun _ _ h => h)) ⟨t, ao, cc, xs⟩ (OwnI.new HOX.out (Keeps.alloc _ _)) hown5 hk5
      clear hown5 hk5 HOA HB4 HKA HZ4 HS4 HOX b0 b1 b2 b3 z0 z1 z2 z3
      go_wp2
      go_roundw
      case rel => exact ⟨k + 1, acc ++ [⟨t, ao, cc, xs⟩], a', c', at3, cd3, aa3, by omega, by go_num, by simp, hown6, (fun x hx => (List.mem_append.1 hx).elim (fun h => HIN.out x h) (fun h => by rw [List.mem_singleton.1 h]; exact hlen)), by have := HAL.out; simp; omega, hB5, hkr5, Lib.hid (by have := HNX.out; simpa [List.map_append, PartD.bare] using this)⟩
      case measure => simp [intOf]; omega
    · have hend := left_end HST.out (by omega)
      have HE := Lib.hid hend
      obtain ⟨r0, r1, r2, r3, y0, y1, y2, y3⟩ := sp_cells hR
      obtain ⟨hf, hkf⟩ := sp_set hR s at_ cd aa
      have hBE := hBe2.out
      have HOF := Lib.hid ((hown.keeps hkf (fun i hi e => by omega)).rebase (B' := w.heap.size) (by omega))
      have hNf := Lib.hid (hN2.keeps hkf (fun i hi e => by omega))
      have hln : acc.length ≤ 32 := by omega
      clear hend HST hf hkf hown hR hB hkr hN2 hBE
      by_cases hkn : k < n
      · have hd9 : decide (k < n) = true := decide_eq_true hkn
        have hcd1 : (cd == 0) = false := by
          have : cd ≠ 0 := fun e => hgo ⟨hkn, e⟩
          simpa using this
        clear hgo
        go_wp2_with fail
        exact bodyPost_ret (v := .tuple #[Sp s at_ cd aa, .slice a acc.length c]) (by simp [results, Try.results41, go_sem, r0, r1, r2, r3, y0, y1, y2, y3, hsz, hBw]) rfl ⟨at_, cd, aa, a, c, acc, rfl, HE, hln, HIN.out, HOF.out, hNf.out⟩
      · have hd9 : decide (k < n) = false := decide_eq_false hkn
        clear hgo hkn
        go_wp2_with fail
        exact bodyPost_ret (v := .tuple #[Sp s at_ cd aa, .slice a acc.length c]) (by simp [results, Try.results41, go_sem, r0, r1, r2, r3, y0, y1, y2, y3, hsz, hBw]) rfl ⟨at_, cd, aa, a, c, acc, rfl, HE, hln, HIN.out, HOF.out, hNf.out⟩
set_option maxRecDepth 100000 in
set_option maxHeartbeats 8000000 in
theorem rlines_uni (w : World) (s : ByteArray) (at0 : Nat) (c0 a0 : Int) {β : Type} (q0 : Rd β) (hq : SpotOf s at0 c0 a0 q0) (hs : s.size ≤ 9223372036854775807) :
    Calls Try.prog 42 #[Sp s at0 c0 a0] w fun e w' => ∃ (at_ : Nat) (c a : Int) (ao : Option Addr) (cc : Nat) (l : List LineD), e = .returned (.tuple #[Sp s at_ c a, .slice ao l.length cc]) ∧
      Hid (SpotOf s at_ c a (q0.bind fun _ r => listR lineR 96 r) ∧ Got (q0.bind fun _ r => listR lineR 96 r) (l.map LineD.bare)) ∧ l.length ≤ 96 ∧ (∀ x ∈ l, x.xs.length ≤ 1024) ∧ LinesOwn w' w.heap.size ao cc l ∧ New w w' := by
  obtain ⟨i0, hi, hz0, hz1, hz2⟩ := info_parts Try.infoLine
  have hw := fun W => rmany_uni W s at0 c0 a0 q0 hq hs 96
  have hres : (q0.bind fun _ r => listR lineR 96 r) = (q0.bind fun _ r => manyR 96 r).bind fun n r => timesR lineR n r := by rw [Rd.bind_assoc]; rfl
  rw [hres]
  generalize (q0.bind fun _ r => manyR 96 r) = q1 at hw ⊢
  obtain ⟨RES, hRES⟩ : ∃ RES, (q1.bind fun n r => timesR lineR n r) = RES := ⟨_, rfl⟩
  rw [hRES]
  have HRES := Lib.hid hRES
  clear hq hres hRES
  have HW := Lib.hid hw
  clear hw
  go_enter Try.func42, Try.ntmps42
  go_wp2_with fail
  have hB : ((w.alloc (.cells (SpC s at0 c0 a0) 74)).alloc (.cells #[.string ⟨#[]⟩, I 0, I 0, I 0] 74)).heap[w.heap.size]? = some (.cells (SpC s at0 c0 a0) 74 (0, 0)) := Keeps.heap (S := fun _ => False) (Keeps.alloc _ _) (heap_alloc_new w _) (fun h => h)
  have hR : ((w.alloc (.cells (SpC s at0 c0 a0) 74)).alloc (.cells #[.string ⟨#[]⟩, I 0, I 0, I 0] 74)).heap[w.heap.size + 1]? = some (.cells (SpC ⟨#[]⟩ 0 0 0) 74 (0, 0)) := by
    have := heap_alloc_new (w.alloc (.cells (SpC s at0 c0 a0) 74)) (.cells #[.string ⟨#[]⟩, I 0, I 0, I 0] 74)
    simpa using this
  have hN : New w ((w.alloc (.cells (SpC s at0 c0 a0) 74)).alloc (.cells #[.string ⟨#[]⟩, I 0, I 0, I 0] 74)) := ((New.refl w).alloc _).alloc _
  generalize ((w.alloc (.cells (SpC s at0 c0 a0) 74)).alloc (.cells #[.string ⟨#[]⟩, I 0, I 0, I 0] 74)) = wT at hB hR hN ⊢
  refine (HW.out _).mono ?_
  rintro e w2 ⟨at1, c1, a1, n, rfl, HQ1, hnm, k2⟩
  replace hB := Keeps.heap k2 hB (fun h => h)
  replace hR := Keeps.heap k2 hR (fun h => h)
  replace hN := hN.trans k2
  clear k2
  have HST0 : Hid (Left lineR s at1 c1 a1 n [] RES) := Lib.hid (by rw [← HRES.out]; exact left_start HQ1.out.1 HQ1.out.2)
  clear HQ1 HW HRES
  obtain ⟨b0, b1, b2, b3, z0, z1, z2, z3⟩ := sp_cells hB
  obtain ⟨hB2, hk2⟩ := sp_set hB s at1 c1 a1
  have hsz : w.heap.size + 1 < w2.heap.size := (Array.getElem?_eq_some_iff.1 hR).1
  have hR2 := hk2.heap hR (by show w.heap.size + 1 ≠ w.heap.size; omega)
  have hN2 := hN.keeps hk2 (fun i hi e => by omega)
  have hsz0 : w.heap.size < w2.heap.size := by omega
  have HB2 := Lib.hid hB2
  have HR2 := Lib.hid hR2
  have HN2 := Lib.hid hN2
  have HZ2 := Lib.hid (sp_size w2 w.heap.size (.string s) (I (at1 : Int)) (I c1) (I a1))
  clear hB hR hN hB2 hk2 hR2 hN2
  go_wp2_with fail
  clear b0 b1 b2 b3 z0 z1 z2 z3
  obtain ⟨B, hBe⟩ : ∃ B, B = w.heap.size := ⟨_, rfl⟩
  generalize ((((w2.setCell ⟨w.heap.size, 0, none⟩ (.string s)).setCell ⟨w.heap.size, 1, none⟩ (I (at1 : Int))).setCell ⟨w.heap.size, 2, none⟩ (I c1)).setCell ⟨w.heap.size, 3, none⟩ (I a1)) = wS at HB2 HR2 HN2 HZ2 ⊢
  have hB := HB2.out
  have hR := HR2.out
  have hN := HN2.out
  have hsS : w.heap.size + 1 < wS.heap.size := by have := HZ2.out; omega
  clear HB2 HR2 HN2 HZ2 hsz hsz0
  rw [← hBe] at hB ⊢
  have hBe2 := Lib.hid hBe
  have hBl : B + 1 < wS.heap.size := by omega
  rw [← hBe] at hR
  clear hBe hsS
  go_loopw [5, 6, 7, 8, 9] (fun out i _ _ _ wr => ∃ (k : Nat) (acc : List LineD) (a : Option Addr) (c : Nat) (at_ : Nat) (cd aa : Int), k ≤ n ∧ i = .int .i64 k ∧ out = .slice a acc.length c ∧ LinesOwn wr wS.heap.size a c acc ∧ (∀ x ∈ acc, x.xs.length ≤ 1024) ∧ acc.length = k ∧ wr.heap[B]? = some (.cells (SpC s at_ cd aa) 74 (0, 0)) ∧ Keeps (fun k => k = B) wS wr ∧
    Hid (Left lineR s at_ cd aa (n - k) (acc.map LineD.bare) RES)) (fun _ i _ _ _ _ => n - (intOf i).toNat)
  case atStart => exact ⟨0, [], none, 0, at1, c1, a1, by omega, rfl, rfl, LinesOwn.nil _ _, (fun x hx => by cases hx), rfl, hB, Keeps.refl _ _, HST0⟩
  case round =>
    clear hB HST0
    obtain ⟨k, acc, a, c, at_, cd, aa, hk, rfl, rfl, hown, hinn, hal, hB, hkr, HST⟩ := hrel
    have HAL := Lib.hid hal
    have HIN := Lib.hid hinn
    have hal1 : acc.length ≤ k := by omega
    clear hal hinn
    replace hR := hkr.heap hR (by show B + 1 ≠ B; omega)
    have hN2 := hN.keeps hkr (fun i hi e => by have := hBe2.out; omega)
    obtain ⟨b0, b1, b2, b3, z0, z1, z2, z3⟩ := sp_cells hB
    have hBw : B < wr.heap.size := (Array.getElem?_eq_some_iff.1 hB).1
    have hsz : B + 1 < wr.heap.size := (Array.getElem?_eq_some_iff.1 hR).1
    by_cases hgo : k < n ∧ cd = 0
    · obtain ⟨hkn, rfl⟩ := hgo
      obtain ⟨rfl, q, hq, he⟩ := left_good HST.out
      have hk1 : decide (k < n) = true := decide_eq_true hkn
      have HHQ := Lib.hid hq
      have HHE := Lib.hid he
      have HO := Lib.hid hown
      have HK := Lib.hid hkr
      clear hq he HST hR hN2 hsz hown hkr
      go_wp2_with fail
      refine (rnumber_uni wr s at_ 0 0 q HHQ.out hs).mono ?_
      rintro e w3 ⟨at2, cd2, aa2, b, rfl, HX0, hrng0, k3⟩
      clear b0 b1 b2 b3 z0 z1 z2 z3
      replace hB := Keeps.heap k3 hB (fun h => h)
      obtain ⟨b0, b1, b2, b3, z0, z1, z2, z3⟩ := sp_cells hB
      obtain ⟨hB4, hk4⟩ := sp_set hB s at2 cd2 aa2
      have HKA := Lib.hid ((HK.out.trans (Keeps.mono k3 (fun _ _ h => h.elim)) (fun _ _ h => h)).trans hk4 (fun _ _ h => h))
      have HOA : Hid (LinesOwn _ wS.heap.size a c acc) := Lib.hid ((HO.out.keeps k3 (fun _ _ h => h)).keeps hk4 (fun i hi e => by omega))
      have HB4 := Lib.hid hB4
      have HZ4 := Lib.hid (sp_size w3 B (.string s) (I (at2 : Int)) (I cd2) (I aa2))
      clear HO HK hB hB4 hk4 k3 hBw
      have hBw : B < w3.heap.size := World.block_lt_of_cell? w3 _ b0
      go_wp2_with fail
      clear b0 b1 b2 b3 z0 z1 z2 z3 hBw
      generalize ((((w3.setCell ⟨B, 0, none⟩ (.string s)).setCell ⟨B, 1, none⟩ (I (at2 : Int))).setCell ⟨B, 2, none⟩ (I cd2)).setCell ⟨B, 3, none⟩ (I aa2)) = v3 at HKA HOA HB4 HZ4 ⊢
      have hB := HB4.out
      have HK := HKA
      have HO := HOA
      obtain ⟨b0, b1, b2, b3, z0, z1, z2, z3⟩ := sp_cells hB
      have hBw : B < v3.heap.size := World.block_lt_of_cell? v3 _ b0
      clear HB4 HKA HOA HZ4
      refine (rnumber_uni v3 s at2 cd2 aa2 (q.bind fun _ r => countR r) HX0.out.1 hs).mono ?_
      rintro e w4 ⟨at3, cd3, aa3, z, rfl, HX1, hrng1, k4⟩
      clear b0 b1 b2 b3 z0 z1 z2 z3
      replace hB := Keeps.heap k4 hB (fun h => h)
      obtain ⟨b0, b1, b2, b3, z0, z1, z2, z3⟩ := sp_cells hB
      obtain ⟨hB4, hk4⟩ := sp_set hB s at3 cd3 aa3
      have HKA := Lib.hid ((HK.out.trans (Keeps.mono k4 (fun _ _ h => h.elim)) (fun _ _ h => h)).trans hk4 (fun _ _ h => h))
      have HOA : Hid (LinesOwn _ wS.heap.size a c acc) := Lib.hid ((HO.out.keeps k4 (fun _ _ h => h)).keeps hk4 (fun i hi e => by omega))
      have HB4 := Lib.hid hB4
      have HZ4 := Lib.hid (sp_size w4 B (.string s) (I (at3 : Int)) (I cd3) (I aa3))
      clear HO HK hB hB4 hk4 k4 hBw
      have hBw : B < w4.heap.size := World.block_lt_of_cell? w4 _ b0
      go_wp2_with fail
      clear b0 b1 b2 b3 z0 z1 z2 z3 hBw
      generalize ((((w4.setCell ⟨B, 0, none⟩ (.string s)).setCell ⟨B, 1, none⟩ (I (at3 : Int))).setCell ⟨B, 2, none⟩ (I cd3)).setCell ⟨B, 3, none⟩ (I aa3)) = v4 at HKA HOA HB4 HZ4 ⊢
      have hB := HB4.out
      have HK := HKA
      have HO := HOA
      obtain ⟨b0, b1, b2, b3, z0, z1, z2, z3⟩ := sp_cells hB
      have hBw : B < v4.heap.size := World.block_lt_of_cell? v4 _ b0
      clear HB4 HKA HOA HZ4
      refine (rints_uni v4 s at3 cd3 aa3 ((q.bind fun _ r => countR r).bind fun _ r => countR r) HX1.out.1 1024 (by omega) hs).mono ?_
      rintro e w5 ⟨at4, cd4, aa4, ao, cc, xs, rfl, HX2, hlen, hox, k5⟩
      clear b0 b1 b2 b3 z0 z1 z2 z3
      replace hB := Keeps.heap k5 hB (fun h => h)
      obtain ⟨b0, b1, b2, b3, z0, z1, z2, z3⟩ := sp_cells hB
      obtain ⟨hB4, hk4⟩ := sp_set hB s at4 cd4 aa4
      have HKA := Lib.hid ((HK.out.trans (Keeps.mono k5 (fun _ _ h => h.elim)) (fun _ _ h => h)).trans hk4 (fun _ _ h => h))
      have HOA : Hid (LinesOwn _ wS.heap.size a c acc) := Lib.hid ((HO.out.keeps k5 (fun _ _ h => h)).keeps hk4 (fun i hi e => by omega))
      have hso := HK.out.size
      have HOX : Hid (OwnI _ wS.heap.size ao cc xs) := Lib.hid (owns_past (OwnI.rebase hox hso) hk4 (fun i hi e => by omega))
      clear hox hso
      have HB4 := Lib.hid hB4
      have HZ4 := Lib.hid (sp_size w5 B (.string s) (I (at4 : Int)) (I cd4) (I aa4))
      clear HO HK hB hB4 hk4 k5 hBw
      have hBw : B < w5.heap.size := World.block_lt_of_cell? w5 _ b0
      have HNX : Hid (Left lineR s at4 cd4 aa4 (n - (k + 1)) ((acc.map LineD.bare) ++ [(⟨(b : Int), (z : Int), none, 0, xs⟩ : LineD)]) RES) := Lib.hid (by
        have h := line_of HX0.out.2 HX1.out.2 HX2.out.2 HX2.out.1
        exact left_next hkn HHE.out h.1 h.2)
      clear HX0 HX1 HX2 HHQ HHE
      have hsz4 := HKA.out.size
      have HS4 := Lib.hid hsz4
      clear hsz4
      go_wp2_with (at_builtin; generalize ((((w5.setCell ⟨B, 0, none⟩ (.string s)).setCell ⟨B, 1, none⟩ (I (at4 : Int))).setCell ⟨B, 2, none⟩ (I cd4)).setCell ⟨B, 3, none⟩ (I aa4)) = w9 at HS4 HKA HOA HB4 HZ4 HOX ⊢; refine wpList_app rfl _ _ 23 rfl wS.heap.size 49 i0 (.agg #[.int .i64 0, .int .i64 0, .slice none 0 0]) 3 40 Try.underlying23 hi hz0 hz1 hz2 rfl (by decide) a acc.length c (acc.flatMap lineCells) rfl (New.owns (Keeps.alloc _ _) HOA.out.row) _ 1 1 (lineCells ⟨(b : Int), (z : Int), ao, cc, xs⟩) rfl rfl (lit_at _ _ _ HZ4.out) (one_line _) (by unfold maxLen; omega) (by omega) (Nat.le_trans HS4.out (by simp)) ?_)
      intro a' c' w5 hown5 hk5 _ _
      have hno : ∀ i, blk a i → wS.heap.size ≤ i := fun i hb => (own_of_blk HOA.out.row hb).1
      have hB5 := hk5.heap (Keeps.heap (S := fun _ => False) (Keeps.alloc _ (.cells #[I (b : Int), I (z : Int), .slice ao xs.length cc] 49)) HB4.out (fun h => h)) (fun hb => absurd (show wS.heap.size ≤ B from hno _ hb) (by omega))
      have hkr5 := (HKA.out.trans (Keeps.alloc (S := fun k => k = B) _ (.cells #[I (b : Int), I (z : Int), .slice ao xs.length cc] 49)) (fun _ _ h => h)).trans hk5 (fun i hi hb => by have := hno _ hb; omega)
      have hown6 := LinesOwn.push (HOA.out.keeps (Keeps.alloc (S := fun _ => False) _ (.cells #[I (b : Int), I (z : Int), .slice ao xs.length cc] 49)) (fun _ _ h => h)) ⟨(b : Int), (z : Int), ao, cc, xs⟩ (OwnI.new HOX.out (Keeps.alloc _ _)) hown5 hk5
      clear hown5 hk5 HOA HB4 HKA HZ4 HS4 HOX b0 b1 b2 b3 z0 z1 z2 z3
      go_wp2
      go_roundw
      case rel => exact ⟨k + 1, acc ++ [⟨(b : Int), (z : Int), ao, cc, xs⟩], a', c', at4, cd4, aa4, by omega, by go_num, by simp, hown6, (fun x hx => (List.mem_append.1 hx).elim (fun h => HIN.out x h) (fun h => by rw [List.mem_singleton.1 h]; exact hlen)), by have := HAL.out; simp; omega, hB5, hkr5, Lib.hid (by have := HNX.out; simpa [List.map_append, LineD.bare] using this)⟩
      case measure => simp [intOf]; omega
    · have hend := left_end HST.out (by omega)
      have HE := Lib.hid hend
      obtain ⟨r0, r1, r2, r3, y0, y1, y2, y3⟩ := sp_cells hR
      obtain ⟨hf, hkf⟩ := sp_set hR s at_ cd aa
      have hBE := hBe2.out
      have HOF := Lib.hid ((hown.keeps hkf (fun i hi e => by omega)).rebase (B' := w.heap.size) (by omega))
      have hNf := Lib.hid (hN2.keeps hkf (fun i hi e => by omega))
      have hln : acc.length ≤ 96 := by omega
      clear hend HST hf hkf hown hR hB hkr hN2 hBE
      by_cases hkn : k < n
      · have hd9 : decide (k < n) = true := decide_eq_true hkn
        have hcd1 : (cd == 0) = false := by
          have : cd ≠ 0 := fun e => hgo ⟨hkn, e⟩
          simpa using this
        clear hgo
        go_wp2_with fail
        exact bodyPost_ret (v := .tuple #[Sp s at_ cd aa, .slice a acc.length c]) (by simp [results, Try.results42, go_sem, r0, r1, r2, r3, y0, y1, y2, y3, hsz, hBw]) rfl ⟨at_, cd, aa, a, c, acc, rfl, HE, hln, HIN.out, HOF.out, hNf.out⟩
      · have hd9 : decide (k < n) = false := decide_eq_false hkn
        clear hgo hkn
        go_wp2_with fail
        exact bodyPost_ret (v := .tuple #[Sp s at_ cd aa, .slice a acc.length c]) (by simp [results, Try.results42, go_sem, r0, r1, r2, r3, y0, y1, y2, y3, hsz, hBw]) rfl ⟨at_, cd, aa, a, c, acc, rfl, HE, hln, HIN.out, HOF.out, hNf.out⟩
set_option maxRecDepth 100000 in
set_option maxHeartbeats 8000000 in
theorem rops_uni (w : World) (s : ByteArray) (at0 : Nat) (c0 a0 : Int) {β : Type} (q0 : Rd β) (hq : SpotOf s at0 c0 a0 q0) (hs : s.size ≤ 9223372036854775807) :
    Calls Try.prog 43 #[Sp s at0 c0 a0] w fun e w' => ∃ (at_ : Nat) (c a : Int) (ao : Option Addr) (cc : Nat) (l : List OpD), e = .returned (.tuple #[Sp s at_ c a, .slice ao l.length cc]) ∧
      Hid (SpotOf s at_ c a (q0.bind fun _ r => listR opR 131072 r) ∧ Got (q0.bind fun _ r => listR opR 131072 r) l) ∧ l.length ≤ 131072 ∧ OpsOwn w' w.heap.size ao cc l ∧ New w w' := by
  obtain ⟨i0, hi, hz0, hz1, hz2⟩ := info_parts Try.infoOp
  have hw := fun W => rmany_uni W s at0 c0 a0 q0 hq hs 131072
  have hres : (q0.bind fun _ r => listR opR 131072 r) = (q0.bind fun _ r => manyR 131072 r).bind fun n r => timesR opR n r := by rw [Rd.bind_assoc]; rfl
  rw [hres]
  generalize (q0.bind fun _ r => manyR 131072 r) = q1 at hw ⊢
  obtain ⟨RES, hRES⟩ : ∃ RES, (q1.bind fun n r => timesR opR n r) = RES := ⟨_, rfl⟩
  rw [hRES]
  have HRES := Lib.hid hRES
  clear hq hres hRES
  have HW := Lib.hid hw
  clear hw
  go_enter Try.func43, Try.ntmps43
  go_wp2_with fail
  have hB : ((w.alloc (.cells (SpC s at0 c0 a0) 74)).alloc (.cells #[.string ⟨#[]⟩, I 0, I 0, I 0] 74)).heap[w.heap.size]? = some (.cells (SpC s at0 c0 a0) 74 (0, 0)) := Keeps.heap (S := fun _ => False) (Keeps.alloc _ _) (heap_alloc_new w _) (fun h => h)
  have hR : ((w.alloc (.cells (SpC s at0 c0 a0) 74)).alloc (.cells #[.string ⟨#[]⟩, I 0, I 0, I 0] 74)).heap[w.heap.size + 1]? = some (.cells (SpC ⟨#[]⟩ 0 0 0) 74 (0, 0)) := by
    have := heap_alloc_new (w.alloc (.cells (SpC s at0 c0 a0) 74)) (.cells #[.string ⟨#[]⟩, I 0, I 0, I 0] 74)
    simpa using this
  have hN : New w ((w.alloc (.cells (SpC s at0 c0 a0) 74)).alloc (.cells #[.string ⟨#[]⟩, I 0, I 0, I 0] 74)) := ((New.refl w).alloc _).alloc _
  generalize ((w.alloc (.cells (SpC s at0 c0 a0) 74)).alloc (.cells #[.string ⟨#[]⟩, I 0, I 0, I 0] 74)) = wT at hB hR hN ⊢
  refine (HW.out _).mono ?_
  rintro e w2 ⟨at1, c1, a1, n, rfl, HQ1, hnm, k2⟩
  replace hB := Keeps.heap k2 hB (fun h => h)
  replace hR := Keeps.heap k2 hR (fun h => h)
  replace hN := hN.trans k2
  clear k2
  have HST0 : Hid (Left opR s at1 c1 a1 n [] RES) := Lib.hid (by rw [← HRES.out]; exact left_start HQ1.out.1 HQ1.out.2)
  clear HQ1 HW HRES
  obtain ⟨b0, b1, b2, b3, z0, z1, z2, z3⟩ := sp_cells hB
  obtain ⟨hB2, hk2⟩ := sp_set hB s at1 c1 a1
  have hsz : w.heap.size + 1 < w2.heap.size := (Array.getElem?_eq_some_iff.1 hR).1
  have hR2 := hk2.heap hR (by show w.heap.size + 1 ≠ w.heap.size; omega)
  have hN2 := hN.keeps hk2 (fun i hi e => by omega)
  have hsz0 : w.heap.size < w2.heap.size := by omega
  have HB2 := Lib.hid hB2
  have HR2 := Lib.hid hR2
  have HN2 := Lib.hid hN2
  have HZ2 := Lib.hid (sp_size w2 w.heap.size (.string s) (I (at1 : Int)) (I c1) (I a1))
  clear hB hR hN hB2 hk2 hR2 hN2
  go_wp2_with fail
  clear b0 b1 b2 b3 z0 z1 z2 z3
  obtain ⟨B, hBe⟩ : ∃ B, B = w.heap.size := ⟨_, rfl⟩
  generalize ((((w2.setCell ⟨w.heap.size, 0, none⟩ (.string s)).setCell ⟨w.heap.size, 1, none⟩ (I (at1 : Int))).setCell ⟨w.heap.size, 2, none⟩ (I c1)).setCell ⟨w.heap.size, 3, none⟩ (I a1)) = wS at HB2 HR2 HN2 HZ2 ⊢
  have hB := HB2.out
  have hR := HR2.out
  have hN := HN2.out
  have hsS : w.heap.size + 1 < wS.heap.size := by have := HZ2.out; omega
  clear HB2 HR2 HN2 HZ2 hsz hsz0
  rw [← hBe] at hB ⊢
  have hBe2 := Lib.hid hBe
  have hBl : B + 1 < wS.heap.size := by omega
  rw [← hBe] at hR
  clear hBe hsS
  go_loopw [5, 6, 7, 8, 9] (fun out i _ _ _ wr => ∃ (k : Nat) (acc : List OpD) (a : Option Addr) (c : Nat) (at_ : Nat) (cd aa : Int), k ≤ n ∧ i = .int .i64 k ∧ out = .slice a acc.length c ∧ OpsOwn wr wS.heap.size a c acc ∧ acc.length = k ∧ wr.heap[B]? = some (.cells (SpC s at_ cd aa) 74 (0, 0)) ∧ Keeps (fun k => k = B) wS wr ∧
    Hid (Left opR s at_ cd aa (n - k) acc RES)) (fun _ i _ _ _ _ => n - (intOf i).toNat)
  case atStart => exact ⟨0, [], none, 0, at1, c1, a1, by omega, rfl, rfl, OpsOwn.nil _ _, rfl, hB, Keeps.refl _ _, HST0⟩
  case round =>
    clear hB HST0
    obtain ⟨k, acc, a, c, at_, cd, aa, hk, rfl, rfl, hown, hal, hB, hkr, HST⟩ := hrel
    have HAL := Lib.hid hal
    skip
    have hal1 : acc.length ≤ k := by omega
    clear hal
    replace hR := hkr.heap hR (by show B + 1 ≠ B; omega)
    have hN2 := hN.keeps hkr (fun i hi e => by have := hBe2.out; omega)
    obtain ⟨b0, b1, b2, b3, z0, z1, z2, z3⟩ := sp_cells hB
    have hBw : B < wr.heap.size := (Array.getElem?_eq_some_iff.1 hB).1
    have hsz : B + 1 < wr.heap.size := (Array.getElem?_eq_some_iff.1 hR).1
    by_cases hgo : k < n ∧ cd = 0
    · obtain ⟨hkn, rfl⟩ := hgo
      obtain ⟨rfl, q, hq, he⟩ := left_good HST.out
      have hk1 : decide (k < n) = true := decide_eq_true hkn
      have HHQ := Lib.hid hq
      have HHE := Lib.hid he
      have HO := Lib.hid hown
      have HK := Lib.hid hkr
      clear hq he HST hR hN2 hsz hown hkr
      go_wp2_with fail
      refine (rone_uni wr s at_ 0 0 q HHQ.out hs).mono ?_
      rintro e w3 ⟨at2, cd2, aa2, t, rfl, HX0, hrng0, k3⟩
      clear b0 b1 b2 b3 z0 z1 z2 z3
      replace hB := Keeps.heap k3 hB (fun h => h)
      obtain ⟨b0, b1, b2, b3, z0, z1, z2, z3⟩ := sp_cells hB
      obtain ⟨hB4, hk4⟩ := sp_set hB s at2 cd2 aa2
      have HKA := Lib.hid ((HK.out.trans (Keeps.mono k3 (fun _ _ h => h.elim)) (fun _ _ h => h)).trans hk4 (fun _ _ h => h))
      have HOA : Hid (OpsOwn _ wS.heap.size a c acc) := Lib.hid ((HO.out.keeps k3 (fun _ _ h => h)).keeps hk4 (fun i hi e => by omega))
      have HB4 := Lib.hid hB4
      have HZ4 := Lib.hid (sp_size w3 B (.string s) (I (at2 : Int)) (I cd2) (I aa2))
      clear HO HK hB hB4 hk4 k3 hBw
      have hBw : B < w3.heap.size := World.block_lt_of_cell? w3 _ b0
      go_wp2_with fail
      clear b0 b1 b2 b3 z0 z1 z2 z3 hBw
      generalize ((((w3.setCell ⟨B, 0, none⟩ (.string s)).setCell ⟨B, 1, none⟩ (I (at2 : Int))).setCell ⟨B, 2, none⟩ (I cd2)).setCell ⟨B, 3, none⟩ (I aa2)) = v3 at HKA HOA HB4 HZ4 ⊢
      have hB := HB4.out
      have HK := HKA
      have HO := HOA
      obtain ⟨b0, b1, b2, b3, z0, z1, z2, z3⟩ := sp_cells hB
      have hBw : B < v3.heap.size := World.block_lt_of_cell? v3 _ b0
      clear HB4 HKA HOA HZ4
      refine (rnumber_uni v3 s at2 cd2 aa2 (q.bind fun _ r => nextR r) HX0.out.1 hs).mono ?_
      rintro e w4 ⟨at3, cd3, aa3, x, rfl, HX1, hrng1, k4⟩
      clear b0 b1 b2 b3 z0 z1 z2 z3
      replace hB := Keeps.heap k4 hB (fun h => h)
      obtain ⟨b0, b1, b2, b3, z0, z1, z2, z3⟩ := sp_cells hB
      obtain ⟨hB4, hk4⟩ := sp_set hB s at3 cd3 aa3
      have HKA := Lib.hid ((HK.out.trans (Keeps.mono k4 (fun _ _ h => h.elim)) (fun _ _ h => h)).trans hk4 (fun _ _ h => h))
      have HOA : Hid (OpsOwn _ wS.heap.size a c acc) := Lib.hid ((HO.out.keeps k4 (fun _ _ h => h)).keeps hk4 (fun i hi e => by omega))
      have HB4 := Lib.hid hB4
      have HZ4 := Lib.hid (sp_size w4 B (.string s) (I (at3 : Int)) (I cd3) (I aa3))
      clear HO HK hB hB4 hk4 k4 hBw
      have hBw : B < w4.heap.size := World.block_lt_of_cell? w4 _ b0
      go_wp2_with fail
      clear b0 b1 b2 b3 z0 z1 z2 z3 hBw
      generalize ((((w4.setCell ⟨B, 0, none⟩ (.string s)).setCell ⟨B, 1, none⟩ (I (at3 : Int))).setCell ⟨B, 2, none⟩ (I cd3)).setCell ⟨B, 3, none⟩ (I aa3)) = v4 at HKA HOA HB4 HZ4 ⊢
      have hB := HB4.out
      have HK := HKA
      have HO := HOA
      obtain ⟨b0, b1, b2, b3, z0, z1, z2, z3⟩ := sp_cells hB
      have hBw : B < v4.heap.size := World.block_lt_of_cell? v4 _ b0
      clear HB4 HKA HOA HZ4
      refine (rnumber_uni v4 s at3 cd3 aa3 ((q.bind fun _ r => nextR r).bind fun _ r => countR r) HX1.out.1 hs).mono ?_
      rintro e w5 ⟨at4, cd4, aa4, y, rfl, HX2, hrng2, k5⟩
      clear b0 b1 b2 b3 z0 z1 z2 z3
      replace hB := Keeps.heap k5 hB (fun h => h)
      obtain ⟨b0, b1, b2, b3, z0, z1, z2, z3⟩ := sp_cells hB
      obtain ⟨hB4, hk4⟩ := sp_set hB s at4 cd4 aa4
      have HKA := Lib.hid ((HK.out.trans (Keeps.mono k5 (fun _ _ h => h.elim)) (fun _ _ h => h)).trans hk4 (fun _ _ h => h))
      have HOA : Hid (OpsOwn _ wS.heap.size a c acc) := Lib.hid ((HO.out.keeps k5 (fun _ _ h => h)).keeps hk4 (fun i hi e => by omega))
      have HB4 := Lib.hid hB4
      have HZ4 := Lib.hid (sp_size w5 B (.string s) (I (at4 : Int)) (I cd4) (I aa4))
      clear HO HK hB hB4 hk4 k5 hBw
      have hBw : B < w5.heap.size := World.block_lt_of_cell? w5 _ b0
      have hwt : IntKind.u8.wrap t = t := IntWalk.u8_in t hrng0
      have HNX : Hid (Left opR s at4 cd4 aa4 (n - (k + 1)) (acc ++ [(⟨t, (x : Int), (y : Int)⟩ : OpD)]) RES) := Lib.hid (by
        have h := op_of HX0.out.2 HX1.out.2 HX2.out.2 HX2.out.1
        exact left_next hkn HHE.out h.1 h.2)
      clear HX0 HX1 HX2 HHQ HHE
      have hsz4 := HKA.out.size
      have HS4 := Lib.hid hsz4
      clear hsz4
      go_wp2_with (at_builtin; generalize ((((w5.setCell ⟨B, 0, none⟩ (.string s)).setCell ⟨B, 1, none⟩ (I (at4 : Int))).setCell ⟨B, 2, none⟩ (I cd4)).setCell ⟨B, 3, none⟩ (I aa4)) = w9 at HS4 HKA HOA HB4 HZ4 ⊢; refine wpList_app rfl _ _ 24 rfl wS.heap.size 53 i0 (.agg #[.int .u8 0, .int .i64 0, .int .i64 0]) 3 24 Try.underlying24 hi hz0 hz1 hz2 rfl (by decide) a acc.length c (acc.flatMap opCells) rfl (New.owns (Keeps.alloc _ _) HOA.out.row) _ 1 1 (opCells ⟨t, (x : Int), (y : Int)⟩) rfl rfl (lit_at _ _ _ HZ4.out) (one_op _) (by unfold maxLen; omega) (by omega) (Nat.le_trans HS4.out (by simp)) ?_)
      intro a' c' w5 hown5 hk5 _ _
      have hno : ∀ i, blk a i → wS.heap.size ≤ i := fun i hb => (own_of_blk HOA.out.row hb).1
      have hB5 := hk5.heap (Keeps.heap (S := fun _ => False) (Keeps.alloc _ (.cells #[.int .u8 t, I (x : Int), I (y : Int)] 53)) HB4.out (fun h => h)) (fun hb => absurd (show wS.heap.size ≤ B from hno _ hb) (by omega))
      have hkr5 := (HKA.out.trans (Keeps.alloc (S := fun k => k = B) _ (.cells #[.int .u8 t, I (x : Int), I (y : Int)] 53)) (fun _ _ h => h)).trans hk5 (fun i hi hb => by have := hno _ hb; omega)
      have hown6 := OpsOwn.push (l := acc) ⟨t, (x : Int), (y : Int)⟩ hown5
      clear hown5 hk5 HOA HB4 HKA HZ4 HS4 b0 b1 b2 b3 z0 z1 z2 z3
      go_wp2
      go_roundw
      case rel => exact ⟨k + 1, acc ++ [⟨t, (x : Int), (y : Int)⟩], a', c', at4, cd4, aa4, by omega, by go_num, by simp, hown6, by have := HAL.out; simp; omega, hB5, hkr5, Lib.hid (by have := HNX.out; exact this)⟩
      case measure => simp [intOf]; omega
    · have hend := left_end HST.out (by omega)
      have HE := Lib.hid hend
      obtain ⟨r0, r1, r2, r3, y0, y1, y2, y3⟩ := sp_cells hR
      obtain ⟨hf, hkf⟩ := sp_set hR s at_ cd aa
      have hBE := hBe2.out
      have HOF := Lib.hid ((hown.keeps hkf (fun i hi e => by omega)).rebase (B' := w.heap.size) (by omega))
      have hNf := Lib.hid (hN2.keeps hkf (fun i hi e => by omega))
      have hln : acc.length ≤ 131072 := by omega
      clear hend HST hf hkf hown hR hB hkr hN2 hBE
      by_cases hkn : k < n
      · have hd9 : decide (k < n) = true := decide_eq_true hkn
        have hcd1 : (cd == 0) = false := by
          have : cd ≠ 0 := fun e => hgo ⟨hkn, e⟩
          simpa using this
        clear hgo
        go_wp2_with fail
        exact bodyPost_ret (v := .tuple #[Sp s at_ cd aa, .slice a acc.length c]) (by simp [results, Try.results43, go_sem, r0, r1, r2, r3, y0, y1, y2, y3, hsz, hBw]) rfl ⟨at_, cd, aa, a, c, acc, rfl, HE, hln, HOF.out, hNf.out⟩
      · have hd9 : decide (k < n) = false := decide_eq_false hkn
        clear hgo hkn
        go_wp2_with fail
        exact bodyPost_ret (v := .tuple #[Sp s at_ cd aa, .slice a acc.length c]) (by simp [results, Try.results43, go_sem, r0, r1, r2, r3, y0, y1, y2, y3, hsz, hBw]) rfl ⟨at_, cd, aa, a, c, acc, rfl, HE, hln, HOF.out, hNf.out⟩
end Go.Proofs.Ytfmpjbiaamkobaa
