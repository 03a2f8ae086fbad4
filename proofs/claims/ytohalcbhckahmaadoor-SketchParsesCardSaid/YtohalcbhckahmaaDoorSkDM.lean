/-
  SkDa, SkDb, SkDc, SkDd in one.
-/
import Derived.Test.YtohalcbhckahmaaDoorSkSm
import Derived.Test.YtohalcbhckahmaaDoorLexM
import Derived.Test.YtohalcbhckahmaaDoorSkQ
namespace Go.Proofs.YtohalcbhckahmaaDoor
open Go Go.RowKit Go.Joins
set_option linter.all false

/-- A state of the document's reader: the next token, and whether all was well. -/
abbrev RS := Nat × Bool
def onS {α : Type} (z : α) (f : Nat → PR α) : RS → α × RS
  | (k, true) => match f k with
    | .good x m => (x, (m, true))
    | .bad j => (z, (j, false))
  | (k, false) => (z, (k, false))
def wordP (l : List LTok) (k : Nat) : PR (List UInt8) := (takeP 1 l k).bind fun t m => .good t.text m
def numbP (l : List LTok) (k : Nat) : PR Int := (takeP 2 l k).bind fun t m => .good t.num m
def wordS (l : List LTok) : RS → List UInt8 × RS := onS [] (wordP l)
def numbS (l : List LTok) : RS → Int × RS := onS 0 (numbP l)
def mustS (l : List LTok) (so : Int) (b : List UInt8) (s : RS) : RS := (onS () (mustP so b l) s).2
def numsS (l : List LTok) : RS → List Int × RS := onS [] (numsP l)
def placeS (l : List LTok) (s : RS) : LPl × RS :=
  let r1 := wordS l s
  let s2 := mustS l 3 [46] r1.2
  let r3 := numbS l s2
  (⟨r1.1, r3.1, atT l s.1⟩, r3.2)
theorem onS_good {α : Type} {z : α} {f : Nat → PR α} {k m : Nat} {x : α} (h : f k = .good x m) : onS z f (k, true) = (x, (m, true)) := by simp only [onS, h]
theorem onS_bad {α : Type} {z : α} {f : Nat → PR α} {k j : Nat} (h : f k = .bad j) : onS z f (k, true) = (z, (j, false)) := by simp only [onS, h]
theorem onS_dead {α : Type} {z : α} {f : Nat → PR α} {k : Nat} : onS z f (k, false) = (z, (k, false)) := rfl
theorem wordS_yes {l : List LTok} {k : Nat} {t : LTok} (h : l[k]? = some t) (hs : t.sort = 1) : wordS l (k, true) = (t.text, (k + 1, true)) :=
  onS_good (by unfold wordP; rw [takeP_some h, if_pos hs]; rfl)
theorem wordS_no {l : List LTok} {k : Nat} {t : LTok} (h : l[k]? = some t) (hs : t.sort ≠ 1) : wordS l (k, true) = ([], (k, false)) :=
  onS_bad (by unfold wordP; rw [takeP_some h, if_neg hs]; rfl)
theorem numbS_yes {l : List LTok} {k : Nat} {t : LTok} (h : l[k]? = some t) (hs : t.sort = 2) : numbS l (k, true) = (t.num, (k + 1, true)) :=
  onS_good (by unfold numbP; rw [takeP_some h, if_pos hs]; rfl)
theorem numbS_no {l : List LTok} {k : Nat} {t : LTok} (h : l[k]? = some t) (hs : t.sort ≠ 2) : numbS l (k, true) = (0, (k, false)) :=
  onS_bad (by unfold numbP; rw [takeP_some h, if_neg hs]; rfl)
theorem mustS_yes {l : List LTok} {k : Nat} {so : Int} {b : List UInt8} (h : lookP so b l k = true) : mustS l so b (k, true) = (k + 1, true) := by
  unfold mustS; rw [onS_good (x := ()) (m := k + 1) (by unfold mustP; rw [if_pos h])]
theorem mustS_no {l : List LTok} {k : Nat} {so : Int} {b : List UInt8} (h : lookP so b l k = false) : mustS l so b (k, true) = (k, false) := by
  unfold mustS; rw [onS_bad (j := k) (by unfold mustP; rw [if_neg (by rw [h]; simp)])]
/-- The reader in memory, at block G. -/
structure RAt (w : World) (G : Nat) (l : List LTok) (a : Option Addr) (c : Nat) (s : RS) : Prop where
  bk : w.heap[G]? = some (.cells #[.slice a l.length c, I s.1, .bool s.2] 63 (0, 0))
  sl : SlAt w a (l.flatMap tokCells)
  ne : ¬ blk a G
  le : l.length ≤ 2000000
  lt : s.1 < l.length
abbrev KR (G : Nat) (w w' : World) : Prop := Keeps (fun k => k = G) w w'
theorem kr_new {G : Nat} {w w' : World} (n : New w w') : KR G w w' := Keeps.mono n (fun _ _ h => h.elim)
theorem KR.trans {G : Nat} {a b c : World} (h : KR G a b) (k : KR G b c) : KR G a c := Keeps.trans h k (fun _ _ h => h)
theorem RAt.keeps {S : Nat → Prop} {w w' : World} {G : Nat} {l : List LTok} {a : Option Addr} {c : Nat} {s : RS} (h : RAt w G l a c s) (ks : Keeps S w w') (hG : ¬ S G) (ha : ∀ g, blk a g → ¬ S g) : RAt w' G l a c s :=
  ⟨ks.heap h.bk hG, sl_keeps h.sl ks ha, h.ne, h.le, h.lt⟩
theorem RAt.new {w w' : World} {G : Nat} {l : List LTok} {a : Option Addr} {c : Nat} {s : RS} (h : RAt w G l a c s) (n : New w w') : RAt w' G l a c s := ⟨Keeps.heap n h.bk (fun h => h), h.sl.new n, h.ne, h.le, h.lt⟩
theorem RAt.cells {w : World} {G : Nat} {l : List LTok} {a : Option Addr} {c : Nat} {s : RS} (h : RAt w G l a c s) :
    w.cell? ⟨G, 0, none⟩ = some (.slice a l.length c) ∧ w.cell? ⟨G, 1, none⟩ = some (I s.1) ∧ w.cell? ⟨G, 2, none⟩ = some (.bool s.2) ∧ w.frozen? ⟨G, 1, none⟩ = false ∧ w.frozen? ⟨G, 2, none⟩ = false ∧ G < w.heap.size := by
  refine ⟨?_, ?_, ?_, unfrozen_of_block h.bk 1, unfrozen_of_block h.bk 2, (Array.getElem?_eq_some_iff.1 h.bk).1⟩
  · rw [cell_of_block h.bk 0]; simp
  · rw [cell_of_block h.bk 1]; simp
  · rw [cell_of_block h.bk 2]; simp
theorem RAt.out0 {w : World} {G : Nat} {l : List LTok} {a : Option Addr} {c R : Nat} {s : RS} (h : RAt w G l a c s) (hR : w.heap.size ≤ R) : ¬ blk a R := by
  obtain ⟨b, o, e, q, -⟩ := toks_at h.sl (Nat.lt_of_le_of_lt (Nat.zero_le _) h.lt)
  have := World.block_lt_of_cell? w _ q
  rintro ⟨x, hx, rfl⟩
  rw [e] at hx
  cases hx
  simp only at this hR
  omega
theorem RAt.set1 {w : World} {G : Nat} {l : List LTok} {a : Option Addr} {c : Nat} {s : RS} (h : RAt w G l a c s) (j : Nat) (hj : j < l.length) : RAt (w.setCell ⟨G, 1, none⟩ (I j)) G l a c (j, s.2) ∧ KR G w (w.setCell ⟨G, 1, none⟩ (I j)) := by
  have ks : KR G w (w.setCell ⟨G, 1, none⟩ (I j)) := Keeps.setCell w _ _ rfl
  refine ⟨⟨?_, sl_keeps h.sl ks (fun g hg e => h.ne (e ▸ hg)), h.ne, h.le, hj⟩, ks⟩
  rw [block_setCell h.bk]; simp
theorem RAt.set2 {w : World} {G : Nat} {l : List LTok} {a : Option Addr} {c : Nat} {s : RS} (h : RAt w G l a c s) (b : Bool) : RAt (w.setCell ⟨G, 2, none⟩ (.bool b)) G l a c (s.1, b) ∧ KR G w (w.setCell ⟨G, 2, none⟩ (.bool b)) := by
  have ks : KR G w (w.setCell ⟨G, 2, none⟩ (.bool b)) := Keeps.setCell w _ _ rfl
  refine ⟨⟨?_, sl_keeps h.sl ks (fun g hg e => h.ne (e ▸ hg)), h.ne, h.le, h.lt⟩, ks⟩
  rw [block_setCell h.bk]; simp
theorem RAt.tok {w : World} {G : Nat} {l : List LTok} {a : Option Addr} {c : Nat} {s : RS} (h : RAt w G l a c s) : ∃ t, l[s.1]? = some t ∧ ∃ b off, a = some ⟨b, off, none⟩ ∧ w.cell? ⟨b, off + s.1 * 4, none⟩ = some (.int .u8 t.sort) ∧ w.cell? ⟨b, off + s.1 * 4 + 1, none⟩ = some (.string ⟨t.text.toArray⟩) ∧ w.cell? ⟨b, off + s.1 * 4 + 2, none⟩ = some (I t.num) ∧ w.cell? ⟨b, off + s.1 * 4 + 3, none⟩ = some (I t.at_) :=
  ⟨_, List.getElem?_eq_getElem h.lt, toks_at h.sl h.lt⟩
theorem tok_at {w : World} {a : Option Addr} {l : List LTok} (h : SlAt w a (l.flatMap tokCells)) {k : Nat} {t : LTok} (ht : l[k]? = some t) : ∃ b off, a = some ⟨b, off, none⟩ ∧ w.cell? ⟨b, off + k * 4, none⟩ = some (.int .u8 t.sort) ∧ w.cell? ⟨b, off + k * 4 + 1, none⟩ = some (.string ⟨t.text.toArray⟩) ∧ w.cell? ⟨b, off + k * 4 + 2, none⟩ = some (I t.num) ∧ w.cell? ⟨b, off + k * 4 + 3, none⟩ = some (I t.at_) := by
  obtain ⟨hk, rfl⟩ := List.getElem?_eq_some_iff.1 ht
  exact toks_at h hk
set_option maxRecDepth 100000 in
set_option maxHeartbeats 4000000 in
theorem ris_any (w : World) (G : Nat) (l : List LTok) (a : Option Addr) (c k : Nat) (ok : Bool) (h : RAt w G l a c (k, ok)) (so : Int) (B : ByteArray) :
    Calls Tryd.prog 34 #[.pointer (some ⟨G, 0, none⟩), .int .u8 so, .string B] w fun e w' => e = .returned (.bool (lookP so B.data.toList l k)) ∧ New w w' := by
  obtain ⟨c0, c1, c2, -, -, hG⟩ := h.cells
  obtain ⟨t, ht, b1, o1, e1, q0, q1, q2, q3⟩ := h.tok
  have hle := h.le
  have hlt := h.lt
  subst e1
  have hb1 := World.block_lt_of_cell? _ _ q0
  rw [lookP_some ht]
  obtain ⟨n, hn⟩ : ∃ n, l.length = n := ⟨_, rfl⟩
  rw [hn] at c0 hle hlt
  simp only at c1 c2 q0 q1 q2 q3 hlt
  have hkI : (k : Int) < (n : Int) := by omega
  obtain ⟨so', tx, nu, at_⟩ := t
  obtain ⟨T, hT⟩ : ∃ T : ByteArray, (⟨tx.toArray⟩ : ByteArray) = T := ⟨_, rfl⟩
  simp only [hT] at q0 q1 q2 q3 ⊢
  have hTl : T.data.toList = tx := by rw [← hT]
  clear h hn ht hT
  by_cases hs : so' = so
  · have e1 : (so' == so) = true := by simpa using hs
    by_cases htx : T = B
    · have hx : decide (so' = so ∧ tx = B.data.toList) = true := decide_eq_true ⟨hs, by rw [← hTl, htx]⟩
      rw [hx]
      subst htx hs
      clear hx hTl
      go_enter Tryd.func34, Tryd.ntmps34
      go_wp2_with fail
      go_quiet (fail)
      go_wp2_with fail
      (try go_ret)
      exact ⟨by simp, (New.refl w).drewN _⟩
    · have hx : decide (so' = so ∧ tx = B.data.toList) = false := decide_eq_false (fun h => htx (by
        apply ByteArray.ext
        apply Array.toList_inj.1
        rw [hTl]; exact h.2))
      rw [hx]
      have e2 : (T.toList == B.toList) = false := by
        rw [beq_eq_false_iff_ne]
        intro h
        apply htx
        apply ByteArray.ext
        apply Array.toList_inj.1
        rwa [ByteArray.toList_eq, ByteArray.toList_eq] at h
      subst hs
      clear hx hTl htx
      go_enter Tryd.func34, Tryd.ntmps34
      go_wp2_with fail
      go_quiet (fail)
      go_wp2_with fail
      (try go_ret)
      exact ⟨by first | rfl | simpa using e2 | simp, (New.refl w).drewN _⟩
  · have hx : decide (so' = so ∧ tx = B.data.toList) = false := decide_eq_false (fun h => hs h.1)
    rw [hx]
    have e1 : (so' == so) = false := by simpa using hs
    clear hx hs hTl
    go_enter Tryd.func34, Tryd.ntmps34
    go_wp2_with fail
    go_quiet (fail)
    go_wp2_with fail
    (try go_ret)
    exact ⟨by simp, (New.refl w).drewN _⟩
set_option maxRecDepth 100000 in
set_option maxHeartbeats 4000000 in
theorem rmust_any (w : World) (G : Nat) (l : List LTok) (a : Option Addr) (c : Nat) (s : RS) (he : Ends l) (h : RAt w G l a c s) (so : Int) (hso : so ≠ 0) (B : ByteArray) (b : List UInt8) (hB : B.data.toList = b) :
    Calls Tryd.prog 32 #[.pointer (some ⟨G, 0, none⟩), .int .u8 so, .string B] w fun e w' => e = .returned (.tuple #[]) ∧ RAt w' G l a c (mustS l so b s) ∧ KR G w w' := by
  obtain ⟨k, ok⟩ := s
  obtain ⟨c0, c1, c2, f1, f2, hG⟩ := h.cells
  have hle := h.le
  have hlt := h.lt
  have H := Lib.hid h
  cases ok with
  | false =>
    have hm : mustS l so b (k, false) = (k, false) := rfl
    rw [hm]
    clear h hm hB
    go_enter Tryd.func32, Tryd.ntmps32
    go_wp2_with fail
    (first | go_end0 | refine bodyPost_ret (results_none (by kernel_rfl) _ _ _) rfl ?_ | skip)
    exact ⟨rfl, (H.out.set2 false).1, (H.out.set2 false).2⟩
  | true =>
    have hi := ris_any w G l a c k true h so B
    rw [hB] at hi
    cases hl : lookP so b l k with
    | true =>
      rw [hl] at hi
      have hm : mustS l so b (k, true) = (k + 1, true) := mustS_yes hl
      rw [hm]
      have hk2 : k + 1 < l.length := (he.must (m := k + 1) (u := ()) (so := so) (b := b) (by unfold mustP; rw [if_pos hl]) hso).1
      have HK2 := Lib.hid hk2
      clear h hm hB hl hk2
      simp only at hlt
      go_enter Tryd.func32, Tryd.ntmps32
      go_wp2_with fail
      refine hi.mono ?_
      rintro e w1 ⟨rfl, n1⟩
      have H1 := H.out.new n1
      obtain ⟨d0, d1, d2, g1, g2, hG1⟩ := H1.cells
      have HH := Lib.hid (H1.set1 (k + 1) HK2.out)
      have N1 := Lib.hid n1
      clear H1 c0 c1 c2 f1 f2 hG hi n1
      go_wp2_with fail
      (first | go_end0 | refine bodyPost_ret (results_none (by kernel_rfl) _ _ _) rfl ?_ | skip)
      exact ⟨rfl, HH.out.1, (kr_new N1.out).trans HH.out.2⟩
    | false =>
      rw [hl] at hi
      have hm : mustS l so b (k, true) = (k, false) := mustS_no hl
      rw [hm]
      clear h hm hB hl
      go_enter Tryd.func32, Tryd.ntmps32
      go_wp2_with fail
      refine hi.mono ?_
      rintro e w1 ⟨rfl, n1⟩
      have H1 := H.out.new n1
      obtain ⟨d0, d1, d2, g1, g2, hG1⟩ := H1.cells
      have HH := Lib.hid (H1.set2 false)
      have N1 := Lib.hid n1
      clear H1 c0 c1 c2 f1 f2 hG hi n1
      go_wp2_with fail
      (first | go_end0 | refine bodyPost_ret (results_none (by kernel_rfl) _ _ _) rfl ?_ | skip)
      exact ⟨rfl, HH.out.1, (kr_new N1.out).trans HH.out.2⟩
set_option maxRecDepth 100000 in
set_option maxHeartbeats 4000000 in
theorem rword_any (w : World) (G : Nat) (l : List LTok) (a : Option Addr) (c : Nat) (s : RS) (he : Ends l) (h : RAt w G l a c s) :
    Calls Tryd.prog 33 #[.pointer (some ⟨G, 0, none⟩)] w fun e w' => e = .returned (.string ⟨(wordS l s).1.toArray⟩) ∧ RAt w' G l a c (wordS l s).2 ∧ KR G w w' := by
  obtain ⟨k, ok⟩ := s
  obtain ⟨c0, c1, c2, f1, f2, hG⟩ := h.cells
  obtain ⟨t, ht, b1, o1, e1, q0, q1, q2, q3⟩ := h.tok
  have hle := h.le
  have hlt := h.lt
  subst e1
  have hb1 := World.block_lt_of_cell? _ _ q0
  have H := Lib.hid h
  have HE := Lib.hid he
  cases ok with
  | false =>
    have hm : wordS l (k, false) = ([], (k, false)) := rfl
    rw [hm]
    clear h hm ht
    go_enter Tryd.func33, Tryd.ntmps33
    go_wp2_with fail
    go_quiet (fail)
    have hn := H.out.new ((New.refl w).drewN nq)
    have HH := Lib.hid (hn.set2 false)
    clear hn
    go_wp2_with fail
    (try go_ret)
    exact ⟨rfl, HH.out.1, (kr_new ((New.refl w).drewN nq)).trans HH.out.2⟩
  | true =>
    by_cases hs : t.sort = 1
    · have hm := wordS_yes ht hs
      rw [hm]
      have hk2 : k + 1 < l.length := HE.out.next ht (by omega)
      have HK2 := Lib.hid hk2
      obtain ⟨n, hn⟩ : ∃ n, l.length = n := ⟨_, rfl⟩
      rw [hn] at c0 hle hlt
      have HLN := Lib.hid hn
      have hkI : (k : Int) < (n : Int) := by simp only at hlt; omega
      have w1' : IntKind.i64.wrap (((k + 1 : Nat) : Int) - 1) = (k : Int) := by rw [IntWalk.i64_in _ (by simp only at hlt; omega)]; omega
      obtain ⟨so', tx, nu, at_⟩ := t
      obtain ⟨T, hT⟩ : ∃ T : ByteArray, (⟨tx.toArray⟩ : ByteArray) = T := ⟨_, rfl⟩
      simp only [hT] at q0 q1 q2 q3 ⊢
      simp only at hs c1 c2 q0 q1 q2 q3 hlt
      rw [hs] at q0
      have hk2n : ((k + 1 : Nat) : Int) ≤ (n : Int) := by omega
      have HTK := Lib.hid ht
      have HTT := Lib.hid hT
      clear h hm ht hT hs hk2 hn he
      go_enter Tryd.func33, Tryd.ntmps33
      go_wp2_with fail
      go_quiet (fail)
      have hn := H.out.new ((New.refl w).drewN nq)
      have ND := Lib.hid ((New.refl w).drewN nq)
      have hh := hn.set1 (k + 1) HK2.out
      rw [show ((k + 1 : Nat) : Int) = (k : Int) + 1 by omega] at hh
      have HH := Lib.hid hh
      clear hn hh
      go_wp2_with fail
      go_upto_region 3 with (fail)
      clear c0 c1 c2 f1 f2 hG q0 q1 q2 q3 hb1
      generalize ((w.drewN nq).setCell ⟨G, 1, none⟩ (I ((k : Int) + 1))) = w2 at HH ⊢
      obtain ⟨c0, c1, c2, f1, f2, hG⟩ := HH.out.1.cells
      rw [HLN.out] at c0
      simp only at c1 c2
      obtain ⟨b1', o1', e1', q0, q1, q2, q3⟩ := tok_at HH.out.1.sl HTK.out
      cases e1'
      simp only [HTT.out] at q0 q1 q2 q3
      have hb1 := World.block_lt_of_cell? _ _ q0
      go_quiet (fail)
      go_wp2_with fail
      (try go_ret)
      exact ⟨rfl, HH.out.1.new ((New.refl _).drewN _), ((kr_new ND.out).trans HH.out.2).trans (kr_new ((New.refl _).drewN _))⟩
    · have hm := wordS_no ht hs
      rw [hm]
      obtain ⟨n, hn⟩ : ∃ n, l.length = n := ⟨_, rfl⟩
      rw [hn] at c0 hle hlt
      have hkI : (k : Int) < (n : Int) := by simp only at hlt; omega
      obtain ⟨so', tx, nu, at_⟩ := t
      obtain ⟨T, hT⟩ : ∃ T : ByteArray, (⟨tx.toArray⟩ : ByteArray) = T := ⟨_, rfl⟩
      simp only [hT] at q0 q1 q2 q3
      simp only at hs c1 c2 q0 q1 q2 q3 hlt
      have e1 : (so' == 1) = false := by simpa using hs
      clear h hm ht hT hs hn he
      go_enter Tryd.func33, Tryd.ntmps33
      go_wp2_with fail
      go_quiet (fail)
      have hn := H.out.new ((New.refl w).drewN nq)
      have HH := Lib.hid (hn.set2 false)
      clear hn
      go_wp2_with fail
      (try go_ret)
      exact ⟨rfl, HH.out.1, (kr_new ((New.refl w).drewN nq)).trans HH.out.2⟩
set_option maxRecDepth 100000 in
set_option maxHeartbeats 4000000 in
theorem rnumber_any (w : World) (G : Nat) (l : List LTok) (a : Option Addr) (c : Nat) (s : RS) (he : Ends l) (h : RAt w G l a c s) :
    Calls Tryd.prog 61 #[.pointer (some ⟨G, 0, none⟩)] w fun e w' => e = .returned (I (numbS l s).1) ∧ RAt w' G l a c (numbS l s).2 ∧ KR G w w' := by
  obtain ⟨k, ok⟩ := s
  obtain ⟨c0, c1, c2, f1, f2, hG⟩ := h.cells
  obtain ⟨t, ht, b1, o1, e1, q0, q1, q2, q3⟩ := h.tok
  have hle := h.le
  have hlt := h.lt
  subst e1
  have hb1 := World.block_lt_of_cell? _ _ q0
  have H := Lib.hid h
  have HE := Lib.hid he
  cases ok with
  | false =>
    have hm : numbS l (k, false) = (0, (k, false)) := rfl
    rw [hm]
    clear h hm ht
    go_enter Tryd.func61, Tryd.ntmps61
    go_wp2_with fail
    go_quiet (fail)
    have hn := H.out.new ((New.refl w).drewN nq)
    have HH := Lib.hid (hn.set2 false)
    clear hn
    go_wp2_with fail
    (try go_ret)
    exact ⟨rfl, HH.out.1, (kr_new ((New.refl w).drewN nq)).trans HH.out.2⟩
  | true =>
    by_cases hs : t.sort = 2
    · have hm := numbS_yes ht hs
      rw [hm]
      have hk2 : k + 1 < l.length := HE.out.next ht (by omega)
      have HK2 := Lib.hid hk2
      obtain ⟨n, hn⟩ : ∃ n, l.length = n := ⟨_, rfl⟩
      rw [hn] at c0 hle hlt
      have HLN := Lib.hid hn
      have hkI : (k : Int) < (n : Int) := by simp only at hlt; omega
      have w1' : IntKind.i64.wrap (((k + 1 : Nat) : Int) - 1) = (k : Int) := by rw [IntWalk.i64_in _ (by simp only at hlt; omega)]; omega
      obtain ⟨so', tx, nu, at_⟩ := t
      obtain ⟨T, hT⟩ : ∃ T : ByteArray, (⟨tx.toArray⟩ : ByteArray) = T := ⟨_, rfl⟩
      simp only [hT] at q0 q1 q2 q3 ⊢
      simp only at hs c1 c2 q0 q1 q2 q3 hlt
      rw [hs] at q0
      have hk2n : ((k + 1 : Nat) : Int) ≤ (n : Int) := by omega
      have HTK := Lib.hid ht
      have HTT := Lib.hid hT
      clear h hm ht hT hs hk2 hn he
      go_enter Tryd.func61, Tryd.ntmps61
      go_wp2_with fail
      go_quiet (fail)
      have hn := H.out.new ((New.refl w).drewN nq)
      have ND := Lib.hid ((New.refl w).drewN nq)
      have hh := hn.set1 (k + 1) HK2.out
      rw [show ((k + 1 : Nat) : Int) = (k : Int) + 1 by omega] at hh
      have HH := Lib.hid hh
      clear hn hh
      go_wp2_with fail
      go_upto_region 3 with (fail)
      clear c0 c1 c2 f1 f2 hG q0 q1 q2 q3 hb1
      generalize ((w.drewN nq).setCell ⟨G, 1, none⟩ (I ((k : Int) + 1))) = w2 at HH ⊢
      obtain ⟨c0, c1, c2, f1, f2, hG⟩ := HH.out.1.cells
      rw [HLN.out] at c0
      simp only at c1 c2
      obtain ⟨b1', o1', e1', q0, q1, q2, q3⟩ := tok_at HH.out.1.sl HTK.out
      cases e1'
      simp only [HTT.out] at q0 q1 q2 q3
      have hb1 := World.block_lt_of_cell? _ _ q0
      go_quiet (fail)
      go_wp2_with fail
      (try go_ret)
      exact ⟨rfl, HH.out.1.new ((New.refl _).drewN _), ((kr_new ND.out).trans HH.out.2).trans (kr_new ((New.refl _).drewN _))⟩
    · have hm := numbS_no ht hs
      rw [hm]
      obtain ⟨n, hn⟩ : ∃ n, l.length = n := ⟨_, rfl⟩
      rw [hn] at c0 hle hlt
      have hkI : (k : Int) < (n : Int) := by simp only at hlt; omega
      obtain ⟨so', tx, nu, at_⟩ := t
      obtain ⟨T, hT⟩ : ∃ T : ByteArray, (⟨tx.toArray⟩ : ByteArray) = T := ⟨_, rfl⟩
      simp only [hT] at q0 q1 q2 q3
      simp only at hs c1 c2 q0 q1 q2 q3 hlt
      have e1 : (so' == 2) = false := by simpa using hs
      clear h hm ht hT hs hn he
      go_enter Tryd.func61, Tryd.ntmps61
      go_wp2_with fail
      go_quiet (fail)
      have hn := H.out.new ((New.refl w).drewN nq)
      have HH := Lib.hid (hn.set2 false)
      clear hn
      go_wp2_with fail
      (try go_ret)
      exact ⟨rfl, HH.out.1, (kr_new ((New.refl w).drewN nq)).trans HH.out.2⟩
end Go.Proofs.YtohalcbhckahmaaDoor
namespace Go.Proofs.YtohalcbhckahmaaDoor
open Go Go.RowKit Go.Joins
set_option linter.all false

theorem numsS_alive (l : List LTok) (k : Nat) : numsS l (k, true) = (numsL l k, (k + (numsL l k).length, true)) := onS_good rfl
theorem RAt.old {w : World} {G : Nat} {l : List LTok} {a : Option Addr} {c : Nat} {s : RS} (h : RAt w G l a c s) {g : Nat} (hg : blk a g) : g < w.heap.size := by
  rcases Nat.lt_or_ge g w.heap.size with h1 | h1
  · exact h1
  · exact absurd hg (h.out0 h1)
set_option maxRecDepth 100000 in
set_option maxHeartbeats 8000000 in
theorem rnums_any (w : World) (G : Nat) (l : List LTok) (a : Option Addr) (c : Nat) (s : RS) (he : Ends l) (h : RAt w G l a c s) :
    Calls Tryd.prog 59 #[.pointer (some ⟨G, 0, none⟩)] w fun e w' => ∃ ao co, e = .returned (.slice ao (numsS l s).1.length co) ∧ OwnI w' w.heap.size ao co (numsS l s).1 ∧ RAt w' G l a c (numsS l s).2 ∧ KR G w w' := by
  obtain ⟨k, ok⟩ := s
  obtain ⟨i0, hi, hz0, hz1, hz2⟩ := info_parts Tryd.infoInt
  have hGl := h.cells.2.2.2.2.2
  have hle := h.le
  have hlt := h.lt
  have H := Lib.hid h
  cases ok with
  | false =>
    have hm : numsS l (k, false) = ([], (k, false)) := rfl
    rw [hm]
    clear h hm
    go_enter Tryd.func59, Tryd.ntmps59
    go_wp2_with fail
    go_loopw [3] (fun y wr => y = .slice none 0 0 ∧ Hid (New w wr)) (fun y _ => 0)
    case atStart => exact ⟨rfl, Lib.hid (New.refl _)⟩
    case round =>
      obtain ⟨rfl, HN⟩ := hrel
      have hr := H.out.new HN.out
      obtain ⟨c0, c1, c2, f1, f2, hG⟩ := hr.cells
      simp only at c1 c2
      clear hr
      go_wp2_with fail
      go_quiet (fail)
      go_wp2_with fail
      (try go_ret)
      exact ⟨none, 0, rfl, OwnI.nil _ _, H.out.new (HN.out.trans ((New.refl _).drewN _)), kr_new (HN.out.trans ((New.refl _).drewN _))⟩
  | true =>
    rw [numsS_alive]
    obtain ⟨L, hL⟩ : ∃ L, numsL l k = L := ⟨_, rfl⟩
    rw [hL]
    have HL := Lib.hid hL
    obtain ⟨N, hN⟩ : ∃ N, L.length = N := ⟨_, rfl⟩
    have HN0 := Lib.hid hN
    have hnil : w.ownsRow w.heap.size 3 1 (.slice none 0 0) 0 [] := World.ownsRow_nil _ _ _ _
    clear h hL
    go_enter Tryd.func59, Tryd.ntmps59
    go_wp2_with fail
    go_loopw [3] (fun y wr => ∃ (acc : List Int) (nn : Nat) (ao : Option Addr) (co : Nat), y = .slice ao nn co ∧ Hid (acc.length = nn) ∧ k + nn < l.length ∧ Hid (acc ++ numsL l (k + nn) = L) ∧ Hid (wr.ownsRow w.heap.size 3 1 (.slice ao nn co) nn (Is acc)) ∧ Hid (RAt wr G l a c (k + nn, true)) ∧ Hid (KR G w wr)) (fun y _ => l.length - slLen y)
    case atStart => exact ⟨[], 0, none, 0, rfl, Lib.hid rfl, hlt, Lib.hid (by rw [← HL.out]; rfl), Lib.hid hnil, H, Lib.hid (Keeps.refl _ w)⟩
    case round =>
      clear hnil
      obtain ⟨acc, nn, ao, co, rfl, HA, hk', HE, HO, HP, HK⟩ := hrel
      obtain ⟨c0, c1, c2, f1, f2, hG⟩ := HP.out.cells
      obtain ⟨t, ht, b1, o1, e1, q0, q1, q2, q3⟩ := HP.out.tok
      subst e1
      have hb1 := World.block_lt_of_cell? _ _ q0
      simp only at ht c1 c2 q0 q1 q2 q3
      have hsm := numsL_some ht
      obtain ⟨n, hn⟩ : ∃ n, l.length = n := ⟨_, rfl⟩
      rw [hn] at c0 hle hk'
      have HLN := Lib.hid hn
      have hkI : ((k + nn : Nat) : Int) < (n : Int) := by omega
      obtain ⟨so', tx, nu, at_⟩ := t
      obtain ⟨T, hT⟩ : ∃ T : ByteArray, (⟨tx.toArray⟩ : ByteArray) = T := ⟨_, rfl⟩
      simp only [hT] at q0 q1 q2 q3 hsm
      have HTK := Lib.hid ht
      by_cases hs : so' = 2
      · subst hs
        rw [if_pos rfl] at hsm
        have hm := numbS_yes (l := l) ht rfl
        have hnm := fun W (n : New wr W) => rnumber_any W G l _ c (k + nn, true) he (HP.out.new n)
        rw [hm] at hnm
        simp only at hnm
        have hk2 : k + nn + 1 < l.length := he.next ht (by simp)
        have HSM := Lib.hid hsm
        have HK2' := Lib.hid hk2
        clear hsm hm hT ht hn hk2
        go_wp2_with fail
        go_quiet (fail)
        obtain ⟨Wd, hWd⟩ : ∃ W, W = wr.drewN nq := ⟨_, rfl⟩
        have nd : New wr Wd := by rw [hWd]; exact (New.refl _).drewN _
        rw [← hWd]
        clear hWd
        go_wp2_with fail
        refine (hnm _ nd).mono ?_
        rintro e w2 ⟨rfl, H2, k2⟩
        have kk : KR G wr w2 := (kr_new nd).trans k2
        have ho2 := kk.owns HO.out (fun g hg e => by have := (own_of_blk HO.out (blk_of_own hg)).1; omega)
        have na : New w2 (w2.alloc (.cells #[I nu] 3)) := (New.refl _).alloc _
        have hz : w.heap.size ≤ w2.heap.size := (HK.out.trans kk).size
        have HK2 := Lib.hid (HK.out.trans kk)
        have H2' := Lib.hid H2
        have hone : ∀ u ∈ [I nu], u.oneCell' = true := by intro u hu; simp only [List.mem_cons, List.not_mem_nil, or_false] at hu; rcases hu with rfl; rfl
        have ho3 := na.owns ho2
        clear hnm nd k2 H2 kk ho2 c0 c1 c2 f1 f2 hG q0 q1 q2 q3 hb1
        go_wp2_with (at_builtin; refine wpList_app rfl _ _ 38 rfl w.heap.size 3 i0 (.int .i64 0) 1 8 Tryd.underlying38 hi hz0 hz1 hz2 rfl (by decide) ao nn co (Is acc) rfl ho3 _ 1 1 [I nu] rfl rfl (SlAt.lit _ _ _) hone (by unfold maxLen; omega) (by omega) (Nat.le_trans hz na.size) ?_)
        intro a3 c3 w3 hown3 hk3 _ _
        have hob : ∀ g, blk ao g → w.heap.size ≤ g := fun g hg => (own_of_blk ho3 hg).1
        have H3 : RAt w3 G l _ c (k + nn + 1, true) := (H2'.out.new na).keeps hk3 (fun hg => by have := hob _ hg; omega) (fun g hg hg2 => by have h1 := H.out.old hg; have h2 := hob _ hg2; omega)
        have HK3 : Hid (KR G w w3) := Lib.hid (Keeps.trans (HK2.out.trans (kr_new na)) hk3 (fun i hi hx => by have := hob _ hx; omega))
        have HO3 : Hid (w3.ownsRow w.heap.size 3 1 (.slice a3 (nn + 1) c3) (nn + 1) (Is (acc ++ [nu]))) := Lib.hid (by rw [show Is (acc ++ [nu]) = Is acc ++ [I nu] by simp [Is]]; exact hown3)
        have HE3 : Hid ((acc ++ [nu]) ++ numsL l (k + (nn + 1)) = L) := Lib.hid (by rw [← HE.out, HSM.out]; simp [Nat.add_assoc])
        have HA3 : Hid ((acc ++ [nu]).length = nn + 1) := Lib.hid (by rw [List.length_append, HA.out]; rfl)
        have HP3 := Lib.hid H3
        clear hown3 hk3 ho3 H3
        go_wp2_with fail
        go_roundw
        case rel => exact ⟨acc ++ [nu], nn + 1, a3, c3, rfl, HA3, HK2'.out, HE3, HO3, HP3, HK3⟩
        case measure => simp only [slLen]; have := HLN.out; omega
      · rw [if_neg hs] at hsm
        have d1 : (so' == 2) = false := by simpa using hs
        have HSM := Lib.hid hsm
        clear hsm hs hT ht hn
        go_wp2_with fail
        go_quiet (fail)
        obtain ⟨Wd, hWd⟩ : ∃ W, W = wr.drewN nq := ⟨_, rfl⟩
        have nd : New wr Wd := by rw [hWd]; exact (New.refl _).drewN _
        rw [← hWd]
        clear hWd
        have eL : acc = L := by have := HE.out; rw [HSM.out, List.append_nil] at this; exact this
        have eN : nn = N := by rw [← HA.out, eL, HN0.out]
        subst eN eL
        have hfin : OwnI Wd w.heap.size ao co acc := by have := nd.owns HO.out; unfold OwnI; rw [HA.out]; exact this
        have H1 := HP.out.new nd
        have k1 := HK.out.trans (kr_new nd)
        have HFIN := Lib.hid (And.intro hfin (And.intro H1 k1))
        clear hfin H1 k1
        go_wp2_with fail
        (try go_ret)
        rw [HN0.out]
        exact ⟨ao, co, rfl, HFIN.out.1, HFIN.out.2.1, HFIN.out.2.2⟩
/-- A walk of the reader with a block of its own at P and the answer's at R. -/
structure LocS (w : World) (G P R : Nat) (l : List LTok) (a : Option Addr) (c : Nat) (T : TypeId) (zs : Array Value) (s : RS) (cs : Array Value) (w' : World) : Prop where
  r : RAt w' G l a c s
  k : KR G w w'
  bp : w'.heap[P]? = some (.cells cs T (0, 0))
  bR : w'.heap[R]? = some (.cells zs T (0, 0))
  hp : w.heap.size ≤ P
  hR : w.heap.size ≤ R
  ne : P ≠ R
  np : ¬ blk a P
  nR : ¬ blk a R
  hG : G < w.heap.size
section
variable {w : World} {G P R : Nat} {l : List LTok} {a : Option Addr} {c : Nat} {T : TypeId} {zs : Array Value} {s : RS} {cs : Array Value} {w1 : World} (h : LocS w G P R l a c T zs s cs w1)
include h
theorem LocS.call {w2 : World} {s' : RS} (r' : RAt w2 G l a c s') (k' : KR G w1 w2) : LocS w G P R l a c T zs s' cs w2 :=
  ⟨r', h.k.trans k', k'.heap h.bp (by have := h.hp; have := h.hG; omega), k'.heap h.bR (by have := h.hR; have := h.hG; omega), h.hp, h.hR, h.ne, h.np, h.nR, h.hG⟩
theorem LocS.new {w2 : World} (n : New w1 w2) : LocS w G P R l a c T zs s cs w2 := h.call (h.r.new n) (kr_new n)
theorem LocS.set (i : Nat) (u : Value) : LocS w G P R l a c T zs s (cs.setIfInBounds i u) (w1.setCell ⟨P, i, none⟩ u) := by
  have ks : Keeps (fun k => k = P) w1 (w1.setCell ⟨P, i, none⟩ u) := Keeps.setCell w1 _ _ rfl
  have hpG := h.hp
  have hGl := h.hG
  refine ⟨h.r.keeps ks (by omega) (fun g hg e => h.np (e ▸ hg)), Keeps.trans h.k ks (fun i hi e => by omega), ?_, ks.heap h.bR (Ne.symm h.ne), h.hp, h.hR, h.ne, h.np, h.nR, h.hG⟩
  rw [block_setCell h.bp]
theorem LocS.seto {S : Nat → Prop} {w2 : World} (ks : Keeps S w1 w2) (hS : ∀ k, S k → w.heap.size ≤ k ∧ k ≠ P ∧ k ≠ R ∧ ¬ blk a k) : LocS w G P R l a c T zs s cs w2 := by
  have hGl := h.hG
  refine ⟨h.r.keeps ks (fun hx => by have := (hS _ hx).1; omega) (fun g hg hx => (hS _ hx).2.2.2 hg), Keeps.trans h.k ks (fun i hi hx => by have := (hS _ hx).1; omega), ks.heap h.bp (fun hx => (hS _ hx).2.1 rfl), ks.heap h.bR (fun hx => (hS _ hx).2.2.1 rfl), h.hp, h.hR, h.ne, h.np, h.nR, h.hG⟩
/-- The answer written. -/
theorem LocS.done {w2 : World} (ks : Keeps (fun k => k = R) w1 w2) : RAt w2 G l a c s ∧ KR G w w2 := by
  have hRG := h.hR
  have hGl := h.hG
  exact ⟨h.r.keeps ks (by omega) (fun g hg e => h.nR (e ▸ hg)), Keeps.trans h.k ks (fun i hi e => by omega)⟩
end
theorem locS_init {w : World} {G : Nat} {l : List LTok} {a : Option Addr} {c : Nat} {s : RS} (h : RAt w G l a c s) (T : TypeId) (zs : Array Value) :
    LocS w G (w.heap.size + 1) w.heap.size l a c T zs s zs ((w.alloc (.cells zs T)).alloc (.cells zs T)) := by
  have n1 : New w (w.alloc (.cells zs T)) := (New.refl w).alloc _
  have n2 : New (w.alloc (.cells zs T)) ((w.alloc (.cells zs T)).alloc (.cells zs T)) := (New.refl _).alloc _
  have hz : (w.alloc (.cells zs T)).heap.size = w.heap.size + 1 := by simp
  refine ⟨h.new (n1.trans n2), kr_new (n1.trans n2), ?_, Keeps.heap n2 (heap_alloc_new w _) (fun h => h), by omega, by omega, by omega, h.out0 (by omega), h.out0 (by omega), h.cells.2.2.2.2.2⟩
  have := heap_alloc_new (w.alloc (.cells zs T)) (.cells zs T)
  rwa [hz] at this
set_option maxRecDepth 100000 in
set_option maxHeartbeats 8000000 in
theorem rplace_any (w : World) (G : Nat) (l : List LTok) (a : Option Addr) (c : Nat) (s : RS) (he : Ends l) (h : RAt w G l a c s) :
    Calls Tryd.prog 60 #[.pointer (some ⟨G, 0, none⟩)] w fun e w' => e = .returned (plV (placeS l s).1) ∧ RAt w' G l a c (placeS l s).2 ∧ KR G w w' := by
  obtain ⟨r1, hr1⟩ : ∃ r, wordS l s = r := ⟨_, rfl⟩
  obtain ⟨s2, hs2⟩ : ∃ r, mustS l 3 [46] r1.2 = r := ⟨_, rfl⟩
  obtain ⟨r3, hr3⟩ : ∃ r, numbS l s2 = r := ⟨_, rfl⟩
  have hpl : placeS l s = (⟨r1.1, r3.1, atT l s.1⟩, r3.2) := by unfold placeS; simp only [hr1, hs2, hr3]
  rw [hpl]
  obtain ⟨at_, hat⟩ : ∃ n, atT l s.1 = n := ⟨_, rfl⟩
  rw [hat]
  have L0 := Lib.hid (locS_init h 40 #[.string ⟨#[]⟩, I 0, I 0])
  have hw := fun W (r : RAt W G l a c s) => rword_any W G l a c s he r
  rw [hr1] at hw
  have hmu := fun W (r : RAt W G l a c r1.2) => rmust_any W G l a c r1.2 he r 3 (by decide) ⟨#[46]⟩ [46] rfl
  rw [hs2] at hmu
  have hnu := fun W (r : RAt W G l a c s2) => rnumber_any W G l a c s2 he r
  rw [hr3] at hnu
  clear hr1 hs2 hr3 hpl
  obtain ⟨c0, c1, c2, f1, f2, hG⟩ := L0.out.r.cells
  obtain ⟨t, ht, b1, o1, e1, q0, q1, q2, q3⟩ := L0.out.r.tok
  have hq3 : at_ = t.at_ := by rw [← hat]; unfold atT; rw [ht]; rfl
  rw [← hq3] at q3
  have hle := h.le
  have hlt := h.lt
  have hkI : (s.1 : Int) < (l.length : Int) := by omega
  obtain ⟨n, hn⟩ : ∃ n, l.length = n := ⟨_, rfl⟩
  rw [hn] at c0 hle hlt hkI
  obtain ⟨k, hk⟩ : ∃ k, s.1 = k := ⟨_, rfl⟩
  rw [hk] at c1 q0 q1 q2 q3 hlt hkI
  subst e1
  have hb1 := World.block_lt_of_cell? _ _ q0
  obtain ⟨p0, p1, p2, pf, hPl⟩ := pl_get L0.out.bp
  have pf2 := pf 2
  obtain ⟨r1n, s1⟩ := r1
  obtain ⟨r3n, s3⟩ := r3
  simp only at hw hmu hnu
  obtain ⟨NM, hNM⟩ : ∃ S : ByteArray, (⟨r1n.toArray⟩ : ByteArray) = S := ⟨_, rfl⟩
  rw [hNM] at hw
  have HNM := Lib.hid hNM
  clear h hat ht hq3 q0 q1 q2 hn hk pf c2 f1 f2 hNM
  go_enter Tryd.func60, Tryd.ntmps60
  go_wp2_with fail
  generalize ((w.alloc (.cells #[.string ⟨#[]⟩, I 0, I 0] 40)).alloc (.cells #[.string ⟨#[]⟩, I 0, I 0] 40)) = W at *
  have hS0 : (fun w' : World => w'.cell? ⟨G, 0, none⟩ = some (.slice (some ⟨b1, o1, none⟩) n c) ∧ w'.cell? ⟨G, 1, none⟩ = some (I (k : Int)) ∧ w'.cell? ⟨b1, o1 + k * 4 + 3, none⟩ = some (I (at_ : Int)) ∧ G < w'.heap.size ∧ b1 < w'.heap.size ∧ w.heap.size + 1 < w'.heap.size) W.drew := ⟨c0, c1, q3, hG, hb1, hPl⟩
  refine wp_region_X (fun w' : World => w'.cell? ⟨G, 0, none⟩ = some (.slice (some ⟨b1, o1, none⟩) n c) ∧ w'.cell? ⟨G, 1, none⟩ = some (I (k : Int)) ∧ w'.cell? ⟨b1, o1 + k * 4 + 3, none⟩ = some (I (at_ : Int)) ∧ G < w'.heap.size ∧ b1 < w'.heap.size ∧ w.heap.size + 1 < w'.heap.size) [12] (by kernel_rfl) hS0 ?_
  refine anyX_take 0 (by kernel_rfl) (by kernel_rfl) (by kernel_rfl) (by kernel_rfl) (by kernel_rfl) hS0 ?_
  intro oi ho; simp only [List.getElem?_toArray, List.getElem?_cons_succ, List.getElem?_cons_zero, Option.some.injEq] at ho; subst ho
  refine ⟨?_, fun _ _ _ h => h, Or.inl ⟨by rfl, ?_⟩, ?_⟩; rotate_left 1
  · (intro wS hSw; (try dsimp only at hSw); go_simp; try with_reducible rfl)
  simp only [Act.put, List.setIfInBounds_toArray, List.set_cons_zero, List.set_cons_succ]
  refine anyX_take 1 (by kernel_rfl) (by kernel_rfl) (by kernel_rfl) (by kernel_rfl) (by kernel_rfl) hS0 ?_
  intro oi ho; simp only [List.getElem?_toArray, List.getElem?_cons_succ, List.getElem?_cons_zero, Option.some.injEq] at ho; subst ho
  refine ⟨?_, fun _ _ _ h => h, Or.inl ⟨by rfl, ?_⟩, ?_⟩; rotate_left 1
  · (intro wS hSw; (try dsimp only at hSw); go_simp; try with_reducible rfl)
  simp only [Act.put, List.setIfInBounds_toArray, List.set_cons_zero, List.set_cons_succ]
  refine anyX_take 2 (by kernel_rfl) (by kernel_rfl) (by kernel_rfl) (by kernel_rfl) (by kernel_rfl) hS0 ?_
  intro oi ho; simp only [List.getElem?_toArray, List.getElem?_cons_succ, List.getElem?_cons_zero, Option.some.injEq] at ho; subst ho
  refine ⟨?_, fun _ _ _ h => h, Or.inl ⟨by rfl, ?_⟩, ?_⟩; rotate_left 1
  · (intro wS hSw; (try dsimp only at hSw); go_simp; try with_reducible rfl)
  simp only [Act.put, List.setIfInBounds_toArray, List.set_cons_zero, List.set_cons_succ]
  refine anyX_take 3 (by kernel_rfl) (by kernel_rfl) (by kernel_rfl) (by kernel_rfl) (by kernel_rfl) hS0 ?_
  intro oi ho; simp only [List.getElem?_toArray, List.getElem?_cons_succ, List.getElem?_cons_zero, Option.some.injEq] at ho; subst ho
  refine ⟨?_, fun _ _ _ h => h, Or.inl ⟨by rfl, ?_⟩, ?_⟩; rotate_left 1
  · (intro wS hSw; (try dsimp only at hSw); go_simp; try with_reducible rfl)
  simp only [Act.put, List.setIfInBounds_toArray, List.set_cons_zero, List.set_cons_succ]
  refine anyX_take 4 (by kernel_rfl) (by kernel_rfl) (by kernel_rfl) (by kernel_rfl) (by kernel_rfl) hS0 ?_
  intro oi ho; simp only [List.getElem?_toArray, List.getElem?_cons_succ, List.getElem?_cons_zero, Option.some.injEq] at ho; subst ho
  refine ⟨?_, fun _ _ _ h => h, Or.inl ⟨by rfl, ?_⟩, ?_⟩; rotate_left 1
  · (intro wS hSw; (try dsimp only at hSw); go_simp; try with_reducible rfl)
  simp only [Act.put, List.setIfInBounds_toArray, List.set_cons_zero, List.set_cons_succ]
  refine anyX_take 5 (by kernel_rfl) (by kernel_rfl) (by kernel_rfl) (by kernel_rfl) (by kernel_rfl) hS0 ?_
  intro oi ho; simp only [List.getElem?_toArray, List.getElem?_cons_succ, List.getElem?_cons_zero, Option.some.injEq] at ho; subst ho
  refine ⟨?_, fun _ _ _ h => h, Or.inl ⟨by rfl, ?_⟩, ?_⟩; rotate_left 1
  · (intro wS hSw; (try dsimp only at hSw); go_simp; try with_reducible rfl)
  simp only [Act.put, List.setIfInBounds_toArray, List.set_cons_zero, List.set_cons_succ]
  refine anyX_take 6 (by kernel_rfl) (by kernel_rfl) (by kernel_rfl) (by kernel_rfl) (by kernel_rfl) hS0 ?_
  intro oi ho; simp only [List.getElem?_toArray, List.getElem?_cons_succ, List.getElem?_cons_zero, Option.some.injEq] at ho; subst ho
  refine ⟨?_, fun _ _ _ h => h, Or.inl ⟨by rfl, ?_⟩, ?_⟩; rotate_left 1
  · (intro wS hSw; (try dsimp only at hSw); go_simp; try with_reducible rfl)
  simp only [Act.put, List.setIfInBounds_toArray, List.set_cons_zero, List.set_cons_succ]
  refine anyX_take 7 (by kernel_rfl) (by kernel_rfl) (by kernel_rfl) (by kernel_rfl) (by kernel_rfl) hS0 ?_
  intro oi ho; simp only [List.getElem?_toArray, List.getElem?_cons_succ, List.getElem?_cons_zero, Option.some.injEq] at ho; subst ho
  refine ⟨?_, fun _ _ _ h => h, Or.inl ⟨by rfl, ?_⟩, ?_⟩; rotate_left 1
  · (intro wS hSw; (try dsimp only at hSw); go_simp; try with_reducible rfl)
  simp only [Act.put, List.setIfInBounds_toArray, List.set_cons_zero, List.set_cons_succ]
  refine anyX_take 8 (by kernel_rfl) (by kernel_rfl) (by kernel_rfl) (by kernel_rfl) (by kernel_rfl) hS0 ?_
  intro oi ho; simp only [List.getElem?_toArray, List.getElem?_cons_succ, List.getElem?_cons_zero, Option.some.injEq] at ho; subst ho
  refine ⟨?_, fun _ _ _ h => h, Or.inl ⟨by rfl, ?_⟩, ?_⟩; rotate_left 1
  · (intro wS hSw; (try dsimp only at hSw); go_simp; try with_reducible rfl)
  simp only [Act.put, List.setIfInBounds_toArray, List.set_cons_zero, List.set_cons_succ]
  refine anyX_take 9 (by kernel_rfl) (by kernel_rfl) (by kernel_rfl) (by kernel_rfl) (by kernel_rfl) hS0 ?_
  intro oi ho; simp only [List.getElem?_toArray, List.getElem?_cons_succ, List.getElem?_cons_zero, Option.some.injEq] at ho; subst ho
  refine ⟨?_, fun _ _ _ h => h, Or.inl ⟨by rfl, ?_⟩, ?_⟩; rotate_left 1
  · (intro wS hSw; (try dsimp only at hSw); go_simp; try with_reducible rfl)
  simp only [Act.put, List.setIfInBounds_toArray, List.set_cons_zero, List.set_cons_succ]
  refine anyX_take 10 (by kernel_rfl) (by kernel_rfl) (by kernel_rfl) (by kernel_rfl) (by kernel_rfl) hS0 ?_
  intro oi ho; simp only [List.getElem?_toArray, List.getElem?_cons_succ, List.getElem?_cons_zero, Option.some.injEq] at ho; subst ho
  refine ⟨?_, fun _ _ _ h => h, Or.inl ⟨by rfl, ?_⟩, ?_⟩; rotate_left 1
  · (intro wS hSw; (try dsimp only at hSw); go_simp; try with_reducible rfl)
  simp only [Act.put, List.setIfInBounds_toArray, List.set_cons_zero, List.set_cons_succ]
  refine anyX_take 11 (by kernel_rfl) (by kernel_rfl) (by kernel_rfl) (by kernel_rfl) (by kernel_rfl) hS0 ?_
  intro oi ho; simp only [List.getElem?_toArray, List.getElem?_cons_succ, List.getElem?_cons_zero, Option.some.injEq] at ho; subst ho
  refine ⟨?_, fun _ _ _ h => h, Or.inl ⟨by rfl, ?_⟩, ?_⟩; rotate_left 1
  · (intro wS hSw; (try dsimp only at hSw); go_simp; try with_reducible rfl)
  simp only [Act.put, List.setIfInBounds_toArray, List.set_cons_zero, List.set_cons_succ]
  refine anyX_one 12 (by kernel_rfl) ?_
  intro oi ho; simp only [List.getElem?_toArray, List.getElem?_cons_succ, List.getElem?_cons_zero, Option.some.injEq] at ho; subst ho; intro K hK
  (try simp only [Act.put, List.setIfInBounds_toArray, List.set_cons_zero, List.set_cons_succ])
  go_simp
  have L1 := Lib.hid (((L0.out.new ((New.refl W).drew))).set 2 (I (at_ : Int)))
  refine hK _ _ (fun hx => by cases hx) ?_
  clear hK K hS0
  refine anyX_done (by kernel_rfl) ?_
  (try simp only [Act.put, List.setIfInBounds_toArray, List.set_cons_zero, List.set_cons_succ])
  (try simp only [Exit.then])
  clear c0 c1 q3 hG hb1 p0 p1 p2 pf2 hPl L0
  have hh := hw _ L1.out.r
  go_wp2_with fail
  refine hh.mono ?_
  rintro e w2 ⟨rfl, H2, k2⟩
  have L2 := Lib.hid (L1.out.call H2 k2)
  clear hh H2 k2 L1
  obtain ⟨p0, p1, p2, pf, hPl⟩ := pl_get L2.out.bp
  have pf0 := pf 0
  have L3 := Lib.hid (L2.out.set 0 (.string NM))
  have hh := hmu _ L3.out.r
  clear pf L2
  go_wp2_with fail
  refine hh.mono ?_
  rintro e w4 ⟨rfl, H2, k2⟩
  have L4 := Lib.hid (L3.out.call H2 k2)
  have hh2 := hnu _ L4.out.r
  clear hh H2 k2 L3 p0 p1 p2 pf0 hPl
  go_wp2_with fail
  refine hh2.mono ?_
  rintro e w5 ⟨rfl, H2, k2⟩
  have L5 := Lib.hid (L4.out.call H2 k2)
  clear hh2 H2 k2 L4
  obtain ⟨p0, p1, p2, pf, hPl⟩ := pl_get L5.out.bp
  have pf1 := pf 1
  have L6 := Lib.hid (L5.out.set 1 (I r3n))
  clear pf L5
  go_upto_region 6 with (fail)
  have L7 : Hid (LocS w G (w.heap.size + 1) w.heap.size l (some ⟨b1, o1, none⟩) c 40 #[.string ⟨#[]⟩, I 0, I 0] s3 #[.string NM, I r3n, I (at_ : Int)] (w5.setCell ⟨w.heap.size + 1, 1, none⟩ (I r3n))) := Lib.hid (by have := L6.out; simpa using this)
  generalize (w5.setCell ⟨w.heap.size + 1, 1, none⟩ (I r3n)) = w6 at L7 ⊢
  clear p0 p1 p2 pf1 hPl L6
  obtain ⟨p0, p1, p2, -, hPl⟩ := pl_get L7.out.bp
  obtain ⟨y0, y1, y2, pf, hRl⟩ := pl_get L7.out.bR
  have f0 := pf 0
  have f1 := pf 1
  have f2 := pf 2
  have hst := pl_set L7.out.bR (.string NM) (I r3n) (I (at_ : Int))
  have HD := Lib.hid (And.intro hst.1 (L7.out.done hst.2))
  clear pf hst
  go_wp2_with fail
  have hd := HD.out
  clear HD y0 y1 y2 f0 f1 f2
  generalize (((w6.setCell ⟨w.heap.size, 0, none⟩ (.string NM)).setCell ⟨w.heap.size, 1, none⟩ (I r3n)).setCell ⟨w.heap.size, 2, none⟩ (I (at_ : Int))) = Wf at hd ⊢
  obtain ⟨y0, y1, y2, -, -⟩ := pl_get hd.1
  refine bodyPost_ret (v := .agg #[.string NM, I r3n, I (at_ : Int)]) (by simp [results, Tryd.results60, go_sem, y0, y1, y2]) rfl ?_
  exact ⟨by show Ending.returned (.agg #[.string NM, I r3n, I (at_ : Int)]) = .returned (.agg #[.string ⟨r1n.toArray⟩, I r3n, I (at_ : Int)]); rw [HNM.out], hd.2.1, hd.2.2⟩
end Go.Proofs.YtohalcbhckahmaaDoor
namespace Go.Proofs.YtohalcbhckahmaaDoor
open Go Go.RowKit Go.Joins
set_option linter.all false

def withS (l : List LTok) : RS → List Int × RS
  | (k, true) => if lookP 1 withW l k = true then (let r1 := numbS l (k + 1, true); let r2 := numsS l r1.2; (r1.1 :: r2.1, r2.2)) else ([], (k, true))
  | (k, false) => ([], (k, false))
def actorS (l : List LTok) (a : Nat) (s : RS) : LIt × RS := let r1 := wordS l s; let r3 := wordS l (mustS l 3 [61] r1.2); let r4 := numsS l r3.2; (⟨1, r1.1, r3.1, r4.1, plZ, plZ, a⟩, r4.2)
def edgeS (l : List LTok) (a : Nat) (s : RS) : LIt × RS := let r1 := placeS l s; let r3 := placeS l (mustS l 3 [45, 62] r1.2); let r4 := withS l r3.2; (⟨2, [], [], r4.1, r1.1, r3.1, a⟩, r4.2)
def inS (l : List LTok) (a : Nat) (s : RS) : LIt × RS := let r1 := wordS l s; let r3 := placeS l (mustS l 3 [45, 62] r1.2); (⟨3, r1.1, [], [], plZ, r3.1, a⟩, r3.2)
def outS (l : List LTok) (a : Nat) (s : RS) : LIt × RS := let r1 := placeS l s; let r3 := wordS l (mustS l 3 [45, 62] r1.2); (⟨4, r3.1, [], [], r1.1, plZ, a⟩, r3.2)
def bodyS (l : List LTok) (k : Nat) : LIt × RS :=
  if lookP 1 actorW l k = true then actorS l (atT l k) (k + 1, true)
  else if lookP 1 edgeW l k = true then edgeS l (atT l k) (k + 1, true)
  else if lookP 1 inW l k = true then inS l (atT l k) (k + 1, true)
  else if lookP 1 outW l k = true then outS l (atT l k) (k + 1, true)
  else (⟨0, [], [], [], plZ, plZ, atT l k⟩, (k, false))
def itemS (l : List LTok) (k : Nat) : LIt × RS := ((bodyS l k).1, mustS l 3 [59] (bodyS l k).2)
/-- The document's reading and ours. -/
def Sim {α : Type} (r : α × RS) : PR α → Prop
  | .good x m => r = (x, (m, true))
  | .bad j => r.2 = (j, false)
theorem mustS_good {l : List LTok} {k m : Nat} {so : Int} {b : List UInt8} {u : Unit} (h : mustP so b l k = .good u m) : mustS l so b (k, true) = (m, true) := by unfold mustS; rw [onS_good h]
theorem mustS_bad {l : List LTok} {k j : Nat} {so : Int} {b : List UInt8} (h : mustP so b l k = .bad j) : mustS l so b (k, true) = (j, false) := by unfold mustS; rw [onS_bad h]
theorem mustS_dead {l : List LTok} {k : Nat} {so : Int} {b : List UInt8} : mustS l so b (k, false) = (k, false) := rfl
theorem wordS_dead {l : List LTok} {k : Nat} : wordS l (k, false) = ([], (k, false)) := rfl
theorem numbS_dead {l : List LTok} {k : Nat} : numbS l (k, false) = (0, (k, false)) := rfl
theorem numsS_dead {l : List LTok} {k : Nat} : numsS l (k, false) = ([], (k, false)) := rfl
theorem placeS_dead {l : List LTok} {k : Nat} : (placeS l (k, false)).2 = (k, false) := rfl
theorem withS_dead {l : List LTok} {k : Nat} : withS l (k, false) = ([], (k, false)) := rfl
theorem wordS_good {l : List LTok} {k m : Nat} {x : List UInt8} (h : wordP l k = .good x m) : wordS l (k, true) = (x, (m, true)) := onS_good h
theorem wordS_bad {l : List LTok} {k j : Nat} (h : wordP l k = .bad j) : wordS l (k, true) = ([], (j, false)) := onS_bad h
theorem place_sim (l : List LTok) (k : Nat) : Sim (placeS l (k, true)) (placeP l k) := by
  unfold placeS placeP
  cases h1 : takeP 1 l k with
  | bad j =>
    have e1 : wordS l (k, true) = ([], (j, false)) := onS_bad (by unfold wordP; rw [h1]; rfl)
    simp only [e1, mustS_dead, numbS_dead, PR.bind_bad]; rfl
  | good t k1 =>
    have e1 : wordS l (k, true) = (t.text, (k1, true)) := onS_good (by unfold wordP; rw [h1]; rfl)
    have ea : atT l k = t.at_ := by obtain ⟨h, _, _⟩ := takeP_inv h1; unfold atT; rw [h]; rfl
    cases h2 : mustP 3 [46] l k1 with
    | bad j => simp only [e1, mustS_bad h2, numbS_dead, PR.bind_good, h2, PR.bind_bad]; rfl
    | good u k2 =>
      cases h3 : takeP 2 l k2 with
      | bad j =>
        have e3 : numbS l (k2, true) = (0, (j, false)) := onS_bad (by unfold numbP; rw [h3]; rfl)
        simp only [e1, mustS_good h2, e3, PR.bind_good, h2, h3, PR.bind_bad]; rfl
      | good n k3 =>
        have e3 : numbS l (k2, true) = (n.num, (k3, true)) := onS_good (by unfold numbP; rw [h3]; rfl)
        simp only [e1, mustS_good h2, e3, PR.bind_good, h2, h3, ea]; rfl
theorem place_good {l : List LTok} {k m : Nat} {x : LPl} (h : placeP l k = .good x m) : placeS l (k, true) = (x, (m, true)) := by have := place_sim l k; rw [h] at this; exact this
theorem place_bad {l : List LTok} {k j : Nat} (h : placeP l k = .bad j) : (placeS l (k, true)).2 = (j, false) := by have := place_sim l k; rw [h] at this; exact this
theorem with_sim (l : List LTok) (k : Nat) : Sim (withS l (k, true)) (withP l k) := by
  unfold withP
  show Sim (if lookP 1 withW l k = true then (let r1 := numbS l (k + 1, true); let r2 := numsS l r1.2; (r1.1 :: r2.1, r2.2)) else ([], (k, true))) _
  by_cases hw : lookP 1 withW l k = true
  · rw [if_pos hw, if_pos hw]
    cases h3 : takeP 2 l (k + 1) with
    | bad j =>
      have e3 : numbS l (k + 1, true) = (0, (j, false)) := onS_bad (by unfold numbP; rw [h3]; rfl)
      simp only [e3, numsS_dead, PR.bind_bad]; rfl
    | good n k3 =>
      have e3 : numbS l (k + 1, true) = (n.num, (k3, true)) := onS_good (by unfold numbP; rw [h3]; rfl)
      simp only [e3, numsS_alive, PR.bind_good, numsP]; rfl
  · rw [if_neg hw, if_neg hw]; rfl
theorem actor_sim (l : List LTok) (a k : Nat) : Sim (actorS l a (k, true)) (actorP a l k) := by
  unfold actorS actorP
  cases h1 : takeP 1 l k with
  | bad j =>
    have e1 : wordS l (k, true) = ([], (j, false)) := onS_bad (by unfold wordP; rw [h1]; rfl)
    simp only [e1, mustS_dead, wordS_dead, numsS_dead, PR.bind_bad]; rfl
  | good t k1 =>
    have e1 : wordS l (k, true) = (t.text, (k1, true)) := onS_good (by unfold wordP; rw [h1]; rfl)
    cases h2 : mustP 3 [61] l k1 with
    | bad j => simp only [e1, mustS_bad h2, wordS_dead, numsS_dead, PR.bind_good, h2, PR.bind_bad]; rfl
    | good u k2 =>
      cases h3 : takeP 1 l k2 with
      | bad j =>
        have e3 : wordS l (k2, true) = ([], (j, false)) := onS_bad (by unfold wordP; rw [h3]; rfl)
        simp only [e1, mustS_good h2, e3, numsS_dead, PR.bind_good, h2, h3, PR.bind_bad]; rfl
      | good n k3 =>
        have e3 : wordS l (k2, true) = (n.text, (k3, true)) := onS_good (by unfold wordP; rw [h3]; rfl)
        simp only [e1, mustS_good h2, e3, numsS_alive, numsP, PR.bind_good, h2, h3]; rfl
theorem edge_sim (l : List LTok) (a k : Nat) : Sim (edgeS l a (k, true)) (edgeP a l k) := by
  unfold edgeS edgeP
  cases h1 : placeP l k with
  | bad j =>
    have e1 := place_bad h1
    simp only [e1, mustS_dead, placeS_dead, withS_dead, PR.bind_bad]; rfl
  | good t k1 =>
    have e1 := place_good h1
    cases h2 : mustP 3 [45, 62] l k1 with
    | bad j => simp only [e1, mustS_bad h2, placeS_dead, withS_dead, PR.bind_good, h2, PR.bind_bad]; rfl
    | good u k2 =>
      cases h3 : placeP l k2 with
      | bad j =>
        have e3 := place_bad h3
        simp only [e1, mustS_good h2, e3, withS_dead, PR.bind_good, h2, h3, PR.bind_bad]; rfl
      | good n k3 =>
        have e3 := place_good h3
        have hw := with_sim l k3
        cases h4 : withP l k3 with
        | bad j =>
          rw [h4] at hw
          have e4 : (withS l (k3, true)).2 = (j, false) := hw
          simp only [e1, mustS_good h2, e3, e4, PR.bind_good, h2, h3, h4, PR.bind_bad]; rfl
        | good xs k4 =>
          rw [h4] at hw
          have e4 : withS l (k3, true) = (xs, (k4, true)) := hw
          simp only [e1, mustS_good h2, e3, e4, PR.bind_good, h2, h3, h4]; rfl
theorem in_sim (l : List LTok) (a k : Nat) : Sim (inS l a (k, true)) (inP a l k) := by
  unfold inS inP
  cases h1 : takeP 1 l k with
  | bad j =>
    have e1 : wordS l (k, true) = ([], (j, false)) := onS_bad (by unfold wordP; rw [h1]; rfl)
    simp only [e1, mustS_dead, placeS_dead, PR.bind_bad]; rfl
  | good t k1 =>
    have e1 : wordS l (k, true) = (t.text, (k1, true)) := onS_good (by unfold wordP; rw [h1]; rfl)
    cases h2 : mustP 3 [45, 62] l k1 with
    | bad j => simp only [e1, mustS_bad h2, placeS_dead, PR.bind_good, h2, PR.bind_bad]; rfl
    | good u k2 =>
      cases h3 : placeP l k2 with
      | bad j =>
        have e3 := place_bad h3
        simp only [e1, mustS_good h2, e3, PR.bind_good, h2, h3, PR.bind_bad]; rfl
      | good n k3 =>
        have e3 := place_good h3
        simp only [e1, mustS_good h2, e3, PR.bind_good, h2, h3]; rfl
theorem out_sim (l : List LTok) (a k : Nat) : Sim (outS l a (k, true)) (outP a l k) := by
  unfold outS outP
  cases h1 : placeP l k with
  | bad j =>
    have e1 := place_bad h1
    simp only [e1, mustS_dead, wordS_dead, PR.bind_bad]; rfl
  | good t k1 =>
    have e1 := place_good h1
    cases h2 : mustP 3 [45, 62] l k1 with
    | bad j => simp only [e1, mustS_bad h2, wordS_dead, PR.bind_good, h2, PR.bind_bad]; rfl
    | good u k2 =>
      cases h3 : takeP 1 l k2 with
      | bad j =>
        have e3 : wordS l (k2, true) = ([], (j, false)) := onS_bad (by unfold wordP; rw [h3]; rfl)
        simp only [e1, mustS_good h2, e3, PR.bind_good, h2, h3, PR.bind_bad]; rfl
      | good n k3 =>
        have e3 : wordS l (k2, true) = (n.text, (k3, true)) := onS_good (by unfold wordP; rw [h3]; rfl)
        simp only [e1, mustS_good h2, e3, PR.bind_good, h2, h3]; rfl
theorem body_sim (l : List LTok) (k : Nat) (hk : k < l.length) : Sim (bodyS l k) (bodyP l k) := by
  have ht := List.getElem?_eq_getElem hk
  have ea : atT l k = l[k].at_ := by unfold atT; rw [ht]; rfl
  have hl : ∀ b, lookP 1 b l k = decide (l[k].sort = 1 ∧ l[k].text = b) := fun b => lookP_some ht
  unfold bodyS bodyP
  rw [ht]
  simp only [hl, decide_eq_true_iff, ea]
  split
  · exact actor_sim l _ _
  · split
    · exact edge_sim l _ _
    · split
      · exact in_sim l _ _
      · split
        · exact out_sim l _ _
        · rfl
theorem item_sim (l : List LTok) (k : Nat) (hk : k < l.length) : Sim (itemS l k) (itemP l k) := by
  have hb := body_sim l k hk
  unfold itemS itemP
  cases h1 : bodyP l k with
  | bad j =>
    rw [h1] at hb
    have e1 : (bodyS l k).2 = (j, false) := hb
    simp only [e1, mustS_dead, PR.bind_bad]; rfl
  | good x k1 =>
    rw [h1] at hb
    have e1 : bodyS l k = (x, (k1, true)) := hb
    cases h2 : mustP 3 [59] l k1 with
    | bad j => simp only [e1, mustS_bad h2, PR.bind_good, h2, PR.bind_bad]; rfl
    | good u k2 => simp only [e1, mustS_good h2, PR.bind_good, h2]; rfl
theorem HX6b (l : List LTok) (s : RS) (x : List Int) (s' : RS) (h : numsS l s = (x, s')) {m : Nat} (hm : x.length = m) (hl : l.length ≤ 2000000) : m ≤ 2000000 := by
  obtain ⟨k, ok⟩ := s
  cases ok with
  | false => cases h; subst hm; simp
  | true =>
    rw [numsS_alive] at h
    cases h
    subst hm
    have := numsF_len (l.drop k)
    unfold numsL
    simp only [List.length_drop] at this
    omega
theorem own_up {w0 w w' : World} {ao : Option Addr} {co : Nat} {xs : List Int} (h : OwnI w' w.heap.size ao co xs) (hs : w0.heap.size ≤ w.heap.size) : OwnI w' w0.heap.size ao co xs := by
  unfold OwnI at h ⊢
  refine ⟨h.1, h.2.imp id (fun ⟨g, cap, cur, e1, hb, rest⟩ => ⟨g, cap, cur, e1, Nat.le_trans hs hb, rest⟩)⟩
theorem own_krR {w1 w2 : World} {B G : Nat} {ao : Option Addr} {n co : Nat} {xs : List Value} (h : w1.ownsRow B 3 1 (.slice ao n co) n xs) (k : KR G w1 w2) (hG : G < B) : w2.ownsRow B 3 1 (.slice ao n co) n xs :=
  k.owns h (fun g hg e => by have := (own_of_blk h (blk_of_own hg)).1; omega)
/-- What item answers. -/
def RItem (w : World) (G : Nat) (l : List LTok) (a : Option Addr) (c : Nat) (r : LIt × RS) (e : Ending) (w' : World) : Prop := ∃ ao co, e = .returned (.agg (itA (r.1.mem ao co))) ∧ OwnI w' w.heap.size ao co r.1.xs ∧ RAt w' G l a c r.2 ∧ KR G w w'
section
variable {w : World} {G P R : Nat} {l : List LTok} {a : Option Addr} {c : Nat} {zs : Array Value} {s : RS} {cs : Array Value} {w1 : World}
theorem own_kr {w w1 w2 : World} {G : Nat} {ao : Option Addr} {co : Nat} {xs : List Int} (h : OwnI w1 w.heap.size ao co xs) (k : KR G w1 w2) (hG : G < w.heap.size) : OwnI w2 w.heap.size ao co xs := by
  unfold OwnI at h ⊢
  exact k.owns h (fun g hg e => by have := (own_of_blk h (blk_of_own hg)).1; omega)
theorem LocS.app (h : LocS w G P R l a c 42 zs s cs w1) {a1 : Option Addr} {n1 c1 : Nat} {xs : List Value} (ho : w1.ownsRow w.heap.size 3 1 (.slice a1 n1 c1) n1 xs) (hold : ∀ g, blk a g → g < w.heap.size) {w2 : World} (hk : Keeps (blk a1) w1 w2) : LocS w G P R l a c 42 zs s cs w2 :=
  h.seto hk (fun k hx => by
    obtain ⟨cur, hc⟩ := tab_tag ho (own_blk hx)
    have h1 := (own_of_blk ho hx).1
    refine ⟨h1, ?_, ?_, fun hb => ?_⟩
    · rintro rfl; rw [h.bp] at hc; simp at hc
    · rintro rfl; rw [h.bR] at hc; simp at hc
    · have := hold k hb; omega)
theorem own_loc {w w1 : World} {ao : Option Addr} {co P : Nat} {xs : List Int} {cs : Array Value} (h : OwnI w1 w.heap.size ao co xs) (hb : w1.heap[P]? = some (.cells cs 42 (0, 0))) {w2 : World} (k : Keeps (fun b => b = P) w1 w2) : OwnI w2 w.heap.size ao co xs := by
  unfold OwnI at h ⊢
  exact own_oth h k (fun g hg => ⟨_, _, _, hg ▸ hb, by decide⟩)
end
set_option maxRecDepth 100000 in
set_option maxHeartbeats 32000000 in
theorem ritem_any (w : World) (G : Nat) (l : List LTok) (a : Option Addr) (c k : Nat) (he : Ends l) (h : RAt w G l a c (k, true)) :
    Calls Tryd.prog 35 #[.pointer (some ⟨G, 0, none⟩)] w (RItem w G l a c (itemS l k)) := by
  obtain ⟨i0, hi, hz0, hz1, hz2⟩ := info_parts Tryd.infoInt
  have L0 := Lib.hid (locS_init h 42 #[.int .u8 0, .string ⟨#[]⟩, .string ⟨#[]⟩, .slice none 0 0, .string ⟨#[]⟩, I 0, I 0, .string ⟨#[]⟩, I 0, I 0, I 0])
  have hold : ∀ g, blk a g → g < w.heap.size := fun g hg => h.old hg
  have HOLD := Lib.hid hold
  have hGl := h.cells.2.2.2.2.2
  have HGL := Lib.hid hGl
  obtain ⟨c0, c1, c2, f1, f2, hG⟩ := L0.out.r.cells
  obtain ⟨t, ht, b1, o1, e1, q0, q1, q2, q3⟩ := L0.out.r.tok
  obtain ⟨at_, hat⟩ : ∃ n, atT l k = n := ⟨_, rfl⟩
  have hq3 : at_ = t.at_ := by rw [← hat]; unfold atT; rw [ht]; rfl
  rw [← hq3] at q3
  have hle := h.le
  have hlt := h.lt
  simp only at hlt ht c1 c2 q0 q1 q2 q3
  have hnx : ∀ b, lookP 1 b l k = true → k + 1 < l.length := fun b hb => by
    obtain ⟨u, hu, hs, _⟩ := lookP_inv hb
    exact he.next hu (by omega)
  have HNX := Lib.hid hnx
  have HE := Lib.hid he
  have hkI : (k : Int) < (l.length : Int) := by omega
  obtain ⟨n, hn⟩ : ∃ n, l.length = n := ⟨_, rfl⟩
  rw [hn] at c0 hle hlt hkI
  subst e1
  have hb1 := World.block_lt_of_cell? _ _ q0
  obtain ⟨⟨p0, p1, p2, p3, p4, p5, p6, p7, p8, p9, p10⟩, pf, hPl⟩ := it_get L0.out.bp
  have pf10 := pf 10
  obtain ⟨PO, hPO⟩ : ∃ PO : Ending → World → Prop, PO = RItem w G l (some ⟨b1, o1, none⟩) c (itemS l k) := ⟨_, rfl⟩
  rw [← hPO]
  have HPO := Lib.hid hPO
  have HAT := Lib.hid hat
  have HLN := Lib.hid hn
  have hia : ∀ W, RAt W G l (some ⟨b1, o1, none⟩) c (k, true) → Calls Tryd.prog 34 #[.pointer (some ⟨G, 0, none⟩), .int .u8 1, .string ⟨#[97, 99, 116, 111, 114]⟩] W fun e w' => e = .returned (.bool (lookP 1 actorW l k)) ∧ New W w' := fun W r => ris_any W G l _ c k true r 1 ⟨#[97, 99, 116, 111, 114]⟩
  have hie : ∀ W, RAt W G l (some ⟨b1, o1, none⟩) c (k, true) → Calls Tryd.prog 34 #[.pointer (some ⟨G, 0, none⟩), .int .u8 1, .string ⟨#[101, 100, 103, 101]⟩] W fun e w' => e = .returned (.bool (lookP 1 edgeW l k)) ∧ New W w' := fun W r => ris_any W G l _ c k true r 1 ⟨#[101, 100, 103, 101]⟩
  have hii : ∀ W, RAt W G l (some ⟨b1, o1, none⟩) c (k, true) → Calls Tryd.prog 34 #[.pointer (some ⟨G, 0, none⟩), .int .u8 1, .string ⟨#[105, 110]⟩] W fun e w' => e = .returned (.bool (lookP 1 inW l k)) ∧ New W w' := fun W r => ris_any W G l _ c k true r 1 ⟨#[105, 110]⟩
  have hio : ∀ W, RAt W G l (some ⟨b1, o1, none⟩) c (k, true) → Calls Tryd.prog 34 #[.pointer (some ⟨G, 0, none⟩), .int .u8 1, .string ⟨#[111, 117, 116]⟩] W fun e w' => e = .returned (.bool (lookP 1 outW l k)) ∧ New W w' := fun W r => ris_any W G l _ c k true r 1 ⟨#[111, 117, 116]⟩
  have hit0 : itemS l k = ((bodyS l k).1, mustS l 3 [59] (bodyS l k).2) := rfl
  have HIT := Lib.hid hit0
  have HLE : Hid (l.length ≤ 2000000) := Lib.hid (by rw [HLN.out]; exact hle)
  clear hPO h hat ht hq3 q0 q1 q2 hn pf c2 f1 f2 hnx hold hit0 he
  go_enter Tryd.func35, Tryd.ntmps35
  go_wp2_with fail
  generalize ((w.alloc (.cells #[.int .u8 0, .string ⟨#[]⟩, .string ⟨#[]⟩, .slice none 0 0, .string ⟨#[]⟩, I 0, I 0, .string ⟨#[]⟩, I 0, I 0, I 0] 42)).alloc (.cells #[.int .u8 0, .string ⟨#[]⟩, .string ⟨#[]⟩, .slice none 0 0, .string ⟨#[]⟩, I 0, I 0, .string ⟨#[]⟩, I 0, I 0, I 0] 42)) = W at *
  have hS0 : (fun w' : World => w'.cell? ⟨G, 0, none⟩ = some (.slice (some ⟨b1, o1, none⟩) n c) ∧ w'.cell? ⟨G, 1, none⟩ = some (I (k : Int)) ∧ w'.cell? ⟨b1, o1 + k * 4 + 3, none⟩ = some (I (at_ : Int)) ∧ G < w'.heap.size ∧ b1 < w'.heap.size ∧ w.heap.size + 1 < w'.heap.size) W.drew := ⟨c0, c1, q3, hG, hb1, hPl⟩
  refine wp_region_X (fun w' : World => w'.cell? ⟨G, 0, none⟩ = some (.slice (some ⟨b1, o1, none⟩) n c) ∧ w'.cell? ⟨G, 1, none⟩ = some (I (k : Int)) ∧ w'.cell? ⟨b1, o1 + k * 4 + 3, none⟩ = some (I (at_ : Int)) ∧ G < w'.heap.size ∧ b1 < w'.heap.size ∧ w.heap.size + 1 < w'.heap.size) [12] (by kernel_rfl) hS0 ?_
  refine anyX_take 0 (by kernel_rfl) (by kernel_rfl) (by kernel_rfl) (by kernel_rfl) (by kernel_rfl) hS0 ?_
  intro oi ho; simp only [List.getElem?_toArray, List.getElem?_cons_succ, List.getElem?_cons_zero, Option.some.injEq] at ho; subst ho
  refine ⟨?_, fun _ _ _ h => h, Or.inl ⟨by rfl, ?_⟩, ?_⟩; rotate_left 1
  · (intro wS hSw; (try dsimp only at hSw); go_simp; try with_reducible rfl)
  simp only [Act.put, List.setIfInBounds_toArray, List.set_cons_zero, List.set_cons_succ]
  refine anyX_take 1 (by kernel_rfl) (by kernel_rfl) (by kernel_rfl) (by kernel_rfl) (by kernel_rfl) hS0 ?_
  intro oi ho; simp only [List.getElem?_toArray, List.getElem?_cons_succ, List.getElem?_cons_zero, Option.some.injEq] at ho; subst ho
  refine ⟨?_, fun _ _ _ h => h, Or.inl ⟨by rfl, ?_⟩, ?_⟩; rotate_left 1
  · (intro wS hSw; (try dsimp only at hSw); go_simp; try with_reducible rfl)
  simp only [Act.put, List.setIfInBounds_toArray, List.set_cons_zero, List.set_cons_succ]
  refine anyX_take 2 (by kernel_rfl) (by kernel_rfl) (by kernel_rfl) (by kernel_rfl) (by kernel_rfl) hS0 ?_
  intro oi ho; simp only [List.getElem?_toArray, List.getElem?_cons_succ, List.getElem?_cons_zero, Option.some.injEq] at ho; subst ho
  refine ⟨?_, fun _ _ _ h => h, Or.inl ⟨by rfl, ?_⟩, ?_⟩; rotate_left 1
  · (intro wS hSw; (try dsimp only at hSw); go_simp; try with_reducible rfl)
  simp only [Act.put, List.setIfInBounds_toArray, List.set_cons_zero, List.set_cons_succ]
  refine anyX_take 3 (by kernel_rfl) (by kernel_rfl) (by kernel_rfl) (by kernel_rfl) (by kernel_rfl) hS0 ?_
  intro oi ho; simp only [List.getElem?_toArray, List.getElem?_cons_succ, List.getElem?_cons_zero, Option.some.injEq] at ho; subst ho
  refine ⟨?_, fun _ _ _ h => h, Or.inl ⟨by rfl, ?_⟩, ?_⟩; rotate_left 1
  · (intro wS hSw; (try dsimp only at hSw); go_simp; try with_reducible rfl)
  simp only [Act.put, List.setIfInBounds_toArray, List.set_cons_zero, List.set_cons_succ]
  refine anyX_take 4 (by kernel_rfl) (by kernel_rfl) (by kernel_rfl) (by kernel_rfl) (by kernel_rfl) hS0 ?_
  intro oi ho; simp only [List.getElem?_toArray, List.getElem?_cons_succ, List.getElem?_cons_zero, Option.some.injEq] at ho; subst ho
  refine ⟨?_, fun _ _ _ h => h, Or.inl ⟨by rfl, ?_⟩, ?_⟩; rotate_left 1
  · (intro wS hSw; (try dsimp only at hSw); go_simp; try with_reducible rfl)
  simp only [Act.put, List.setIfInBounds_toArray, List.set_cons_zero, List.set_cons_succ]
  refine anyX_take 5 (by kernel_rfl) (by kernel_rfl) (by kernel_rfl) (by kernel_rfl) (by kernel_rfl) hS0 ?_
  intro oi ho; simp only [List.getElem?_toArray, List.getElem?_cons_succ, List.getElem?_cons_zero, Option.some.injEq] at ho; subst ho
  refine ⟨?_, fun _ _ _ h => h, Or.inl ⟨by rfl, ?_⟩, ?_⟩; rotate_left 1
  · (intro wS hSw; (try dsimp only at hSw); go_simp; try with_reducible rfl)
  simp only [Act.put, List.setIfInBounds_toArray, List.set_cons_zero, List.set_cons_succ]
  refine anyX_take 6 (by kernel_rfl) (by kernel_rfl) (by kernel_rfl) (by kernel_rfl) (by kernel_rfl) hS0 ?_
  intro oi ho; simp only [List.getElem?_toArray, List.getElem?_cons_succ, List.getElem?_cons_zero, Option.some.injEq] at ho; subst ho
  refine ⟨?_, fun _ _ _ h => h, Or.inl ⟨by rfl, ?_⟩, ?_⟩; rotate_left 1
  · (intro wS hSw; (try dsimp only at hSw); go_simp; try with_reducible rfl)
  simp only [Act.put, List.setIfInBounds_toArray, List.set_cons_zero, List.set_cons_succ]
  refine anyX_take 7 (by kernel_rfl) (by kernel_rfl) (by kernel_rfl) (by kernel_rfl) (by kernel_rfl) hS0 ?_
  intro oi ho; simp only [List.getElem?_toArray, List.getElem?_cons_succ, List.getElem?_cons_zero, Option.some.injEq] at ho; subst ho
  refine ⟨?_, fun _ _ _ h => h, Or.inl ⟨by rfl, ?_⟩, ?_⟩; rotate_left 1
  · (intro wS hSw; (try dsimp only at hSw); go_simp; try with_reducible rfl)
  simp only [Act.put, List.setIfInBounds_toArray, List.set_cons_zero, List.set_cons_succ]
  refine anyX_take 8 (by kernel_rfl) (by kernel_rfl) (by kernel_rfl) (by kernel_rfl) (by kernel_rfl) hS0 ?_
  intro oi ho; simp only [List.getElem?_toArray, List.getElem?_cons_succ, List.getElem?_cons_zero, Option.some.injEq] at ho; subst ho
  refine ⟨?_, fun _ _ _ h => h, Or.inl ⟨by rfl, ?_⟩, ?_⟩; rotate_left 1
  · (intro wS hSw; (try dsimp only at hSw); go_simp; try with_reducible rfl)
  simp only [Act.put, List.setIfInBounds_toArray, List.set_cons_zero, List.set_cons_succ]
  refine anyX_take 9 (by kernel_rfl) (by kernel_rfl) (by kernel_rfl) (by kernel_rfl) (by kernel_rfl) hS0 ?_
  intro oi ho; simp only [List.getElem?_toArray, List.getElem?_cons_succ, List.getElem?_cons_zero, Option.some.injEq] at ho; subst ho
  refine ⟨?_, fun _ _ _ h => h, Or.inl ⟨by rfl, ?_⟩, ?_⟩; rotate_left 1
  · (intro wS hSw; (try dsimp only at hSw); go_simp; try with_reducible rfl)
  simp only [Act.put, List.setIfInBounds_toArray, List.set_cons_zero, List.set_cons_succ]
  refine anyX_take 10 (by kernel_rfl) (by kernel_rfl) (by kernel_rfl) (by kernel_rfl) (by kernel_rfl) hS0 ?_
  intro oi ho; simp only [List.getElem?_toArray, List.getElem?_cons_succ, List.getElem?_cons_zero, Option.some.injEq] at ho; subst ho
  refine ⟨?_, fun _ _ _ h => h, Or.inl ⟨by rfl, ?_⟩, ?_⟩; rotate_left 1
  · (intro wS hSw; (try dsimp only at hSw); go_simp; try with_reducible rfl)
  simp only [Act.put, List.setIfInBounds_toArray, List.set_cons_zero, List.set_cons_succ]
  refine anyX_take 11 (by kernel_rfl) (by kernel_rfl) (by kernel_rfl) (by kernel_rfl) (by kernel_rfl) hS0 ?_
  intro oi ho; simp only [List.getElem?_toArray, List.getElem?_cons_succ, List.getElem?_cons_zero, Option.some.injEq] at ho; subst ho
  refine ⟨?_, fun _ _ _ h => h, Or.inl ⟨by rfl, ?_⟩, ?_⟩; rotate_left 1
  · (intro wS hSw; (try dsimp only at hSw); go_simp; try with_reducible rfl)
  simp only [Act.put, List.setIfInBounds_toArray, List.set_cons_zero, List.set_cons_succ]
  refine anyX_one 12 (by kernel_rfl) ?_
  intro oi ho; simp only [List.getElem?_toArray, List.getElem?_cons_succ, List.getElem?_cons_zero, Option.some.injEq] at ho; subst ho; intro K hK
  (try simp only [Act.put, List.setIfInBounds_toArray, List.set_cons_zero, List.set_cons_succ])
  go_simp
  have L1 : Hid (LocS w G (w.heap.size + 1) w.heap.size l (some ⟨b1, o1, none⟩) c 42 #[.int .u8 0, .string ⟨#[]⟩, .string ⟨#[]⟩, .slice none 0 0, .string ⟨#[]⟩, I 0, I 0, .string ⟨#[]⟩, I 0, I 0, I 0] (k, true) #[.int .u8 0, .string ⟨#[]⟩, .string ⟨#[]⟩, .slice none 0 0, .string ⟨#[]⟩, I 0, I 0, .string ⟨#[]⟩, I 0, I 0, I (at_ : Int)] (W.setCell ⟨w.heap.size + 1, 10, none⟩ (I (at_ : Int))).drew) := Lib.hid (by have h := (L0.out.set 10 (I (at_ : Int))).new ((New.refl _).drew); simpa using h)
  refine hK _ _ (fun hx => by cases hx) ?_
  clear hK K hS0
  refine anyX_done (by kernel_rfl) ?_
  (try simp only [Act.put, List.setIfInBounds_toArray, List.set_cons_zero, List.set_cons_succ])
  (try simp only [Exit.then])
  clear c0 c1 q3 hG hb1 p0 p1 p2 p3 p4 p5 p6 p7 p8 p9 p10 pf10 hPl L0
  generalize (W.setCell ⟨w.heap.size + 1, 10, none⟩ (I (at_ : Int))).drew = W1 at L1 ⊢
  have hh := hia _ L1.out.r
  clear hia
  obtain ⟨bA, hbA⟩ : ∃ b, lookP 1 actorW l k = b := ⟨_, rfl⟩
  rw [hbA] at hh
  go_wp2_with fail
  refine hh.mono ?_
  rintro e W2 ⟨rfl, n2⟩
  have L2 := Lib.hid (L1.out.new n2)
  clear hh n2 L1
  cases bA with
  | true =>
    obtain ⟨r1, hr1⟩ : ∃ r, wordS l (k + 1, true) = r := ⟨_, rfl⟩
    obtain ⟨s2, hs2⟩ : ∃ r, mustS l 3 [61] r1.2 = r := ⟨_, rfl⟩
    obtain ⟨r3, hr3⟩ : ∃ r, wordS l s2 = r := ⟨_, rfl⟩
    obtain ⟨r4, hr4⟩ : ∃ r, numsS l r3.2 = r := ⟨_, rfl⟩
    obtain ⟨s9, hs9⟩ : ∃ r, mustS l 3 [59] r4.2 = r := ⟨_, rfl⟩
    have hbd : bodyS l k = (⟨1, r1.1, r3.1, r4.1, plZ, plZ, at_⟩, r4.2) := by unfold bodyS; rw [if_pos hbA, HAT.out]; unfold actorS; simp only [hr1, hs2, hr3, hr4]
    have hw1 := fun W (r : RAt W G l (some ⟨b1, o1, none⟩) c (k + 1, true)) => rword_any W G l _ c (k + 1, true) HE.out r
    rw [hr1] at hw1
    have hm2 := fun W (r : RAt W G l (some ⟨b1, o1, none⟩) c r1.2) => rmust_any W G l _ c r1.2 HE.out r 3 (by decide) ⟨#[61]⟩ [61] rfl
    rw [hs2] at hm2
    have hw3 := fun W (r : RAt W G l (some ⟨b1, o1, none⟩) c s2) => rword_any W G l _ c s2 HE.out r
    rw [hr3] at hw3
    have hn4 := fun W (r : RAt W G l (some ⟨b1, o1, none⟩) c r3.2) => rnums_any W G l _ c r3.2 HE.out r
    rw [hr4] at hn4
    have hme := fun W (r : RAt W G l (some ⟨b1, o1, none⟩) c r4.2) => rmust_any W G l _ c r4.2 HE.out r 3 (by decide) ⟨#[59]⟩ [59] rfl
    rw [hs9] at hme
    obtain ⟨N1, hN1⟩ : ∃ S : ByteArray, (⟨r1.1.toArray⟩ : ByteArray) = S := ⟨_, rfl⟩
    obtain ⟨N3, hN3⟩ : ∃ S : ByteArray, (⟨r3.1.toArray⟩ : ByteArray) = S := ⟨_, rfl⟩
    rw [hN1] at hw1
    rw [hN3] at hw3
    obtain ⟨m4, hm4⟩ : ∃ m, r4.1.length = m := ⟨_, rfl⟩
    rw [hm4] at hn4
    have HBD := Lib.hid hbd
    have HQ := Lib.hid (And.intro hs9 (And.intro hN1 (And.intro hN3 hm4)))
    have HLK := Lib.hid hbA
    clear hie hii hio hr1 hs2 hr3 hr4 hs9 hbd hN1 hN3 hm4 hbA
    have HK2 := Lib.hid (HNX.out _ HLK.out)
    obtain ⟨-, c1, -, f1, -, hG⟩ := L2.out.r.cells
    simp only at c1
    have hs1 := L2.out.r.set1 (k + 1) HK2.out
    rw [show ((k + 1 : Nat) : Int) = (k : Int) + 1 by omega] at hs1
    have L3 := Lib.hid (L2.out.call hs1.1 hs1.2)
    obtain ⟨⟨p0, p1, p2, p3, p4, p5, p6, p7, p8, p9, p10⟩, pf, hPl⟩ := it_get L2.out.bp
    have pf0 := pf 0
    obtain ⟨⟨m0, -⟩, mf, hMl⟩ := it_get L3.out.bp
    have mf0 := mf 0
    clear hs1 pf mf
    clear L2
    have L4 : Hid (LocS w G (w.heap.size + 1) w.heap.size l (some ⟨b1, o1, none⟩) c 42 #[.int .u8 0, .string ⟨#[]⟩, .string ⟨#[]⟩, .slice none 0 0, .string ⟨#[]⟩, I 0, I 0, .string ⟨#[]⟩, I 0, I 0, I 0] (k + 1, true) #[.int .u8 1, .string ⟨#[]⟩, .string ⟨#[]⟩, .slice none 0 0, .string ⟨#[]⟩, I 0, I 0, .string ⟨#[]⟩, I 0, I 0, I (at_ : Int)] ((W2.setCell ⟨G, 1, none⟩ (I ((k : Int) + 1))).setCell ⟨w.heap.size + 1, 0, none⟩ (.int .u8 1))) := Lib.hid (by have h := L3.out.set 0 (.int .u8 1); simpa using h)
    clear L3
    have hh := hw1 _ L4.out.r
    go_wp2_with fail
    clear c1 f1 hG p0 p1 p2 p3 p4 p5 p6 p7 p8 p9 p10 hPl pf0 m0 hMl mf0
    refine hh.mono ?_
    rintro e X41 ⟨rfl, H2, k2⟩
    have L5 := Lib.hid (L4.out.call H2 k2)

    clear hh H2 k2 L4
    obtain ⟨⟨p0, p1, p2, p3, p4, p5, p6, p7, p8, p9, p10⟩, pf, hPl⟩ := it_get L5.out.bp
    have pf1 := pf 1
    clear pf
    have L6 : Hid (LocS w G (w.heap.size + 1) w.heap.size l (some ⟨b1, o1, none⟩) c 42 #[.int .u8 0, .string ⟨#[]⟩, .string ⟨#[]⟩, .slice none 0 0, .string ⟨#[]⟩, I 0, I 0, .string ⟨#[]⟩, I 0, I 0, I 0] r1.2 #[.int .u8 1, .string N1, .string ⟨#[]⟩, .slice none 0 0, .string ⟨#[]⟩, I 0, I 0, .string ⟨#[]⟩, I 0, I 0, I (at_ : Int)] (X41.setCell ⟨w.heap.size + 1, 1, none⟩ (.string N1))) := Lib.hid (by have h := L5.out.set 1 (.string N1); simpa using h)
    clear L5
    have hh := hm2 _ L6.out.r
    go_wp2_with fail
    clear p0 p1 p2 p3 p4 p5 p6 p7 p8 p9 p10 hPl pf1
    refine hh.mono ?_
    rintro e X42 ⟨rfl, H2, k2⟩
    have L7 := Lib.hid (L6.out.call H2 k2)

    clear hh H2 k2 L6
    obtain ⟨⟨p0, p1, p2, p3, p4, p5, p6, p7, p8, p9, p10⟩, pf, hPl⟩ := it_get L7.out.bp
    clear pf
    have hh := hw3 _ L7.out.r
    go_wp2_with fail
    refine hh.mono ?_
    rintro e X43 ⟨rfl, H2, k2⟩
    have L8 := Lib.hid (L7.out.call H2 k2)

    clear hh H2 k2 L7
    obtain ⟨⟨p0, p1, p2, p3, p4, p5, p6, p7, p8, p9, p10⟩, pf, hPl⟩ := it_get L8.out.bp
    have pf2 := pf 2
    clear pf
    have L9 : Hid (LocS w G (w.heap.size + 1) w.heap.size l (some ⟨b1, o1, none⟩) c 42 #[.int .u8 0, .string ⟨#[]⟩, .string ⟨#[]⟩, .slice none 0 0, .string ⟨#[]⟩, I 0, I 0, .string ⟨#[]⟩, I 0, I 0, I 0] r3.2 #[.int .u8 1, .string N1, .string N3, .slice none 0 0, .string ⟨#[]⟩, I 0, I 0, .string ⟨#[]⟩, I 0, I 0, I (at_ : Int)] (X43.setCell ⟨w.heap.size + 1, 2, none⟩ (.string N3))) := Lib.hid (by have h := L8.out.set 2 (.string N3); simpa using h)
    clear L8
    have hh := hn4 _ L9.out.r
    go_wp2_with fail
    clear p0 p1 p2 p3 p4 p5 p6 p7 p8 p9 p10 hPl pf2
    refine hh.mono ?_
    rintro e X44 ⟨ao, co, rfl, how4, H2, k2⟩
    have hsz := L9.out.k.size
    have L10 := Lib.hid (L9.out.call H2 k2)
    have OWN := Lib.hid (own_up how4 hsz)
    clear hh H2 k2 how4 hsz L9
    obtain ⟨⟨p0, p1, p2, p3, p4, p5, p6, p7, p8, p9, p10⟩, pf, hPl⟩ := it_get L10.out.bp
    have pf3 := pf 3
    clear pf
    have OWB := Lib.hid L10.out.bp
    have L11 : Hid (LocS w G (w.heap.size + 1) w.heap.size l (some ⟨b1, o1, none⟩) c 42 #[.int .u8 0, .string ⟨#[]⟩, .string ⟨#[]⟩, .slice none 0 0, .string ⟨#[]⟩, I 0, I 0, .string ⟨#[]⟩, I 0, I 0, I 0] r4.2 #[.int .u8 1, .string N1, .string N3, .slice ao m4 co, .string ⟨#[]⟩, I 0, I 0, .string ⟨#[]⟩, I 0, I 0, I (at_ : Int)] (X44.setCell ⟨w.heap.size + 1, 3, none⟩ (.slice ao m4 co))) := Lib.hid (by have h := L10.out.set 3 (.slice ao m4 co); simpa using h)
    clear L10
    skip
    have OW := Lib.hid (own_loc OWN.out OWB.out (Keeps.setCell (S := fun b => b = w.heap.size + 1) X44 ⟨w.heap.size + 1, 3, none⟩ (.slice ao m4 co) rfl))
    have hh := hme _ L11.out.r
    go_wp2_with fail
    clear p0 p1 p2 p3 p4 p5 p6 p7 p8 p9 p10 hPl pf3
    refine hh.mono ?_
    rintro e X45 ⟨rfl, H2, k2⟩
    have L12 := Lib.hid (L11.out.call H2 k2)
    have OW2 := Lib.hid (own_kr OW.out k2 HGL.out)
    clear hh H2 k2 L11
    obtain ⟨⟨p0, p1, p2, p3, p4, p5, p6, p7, p8, p9, p10⟩, pf, hPl⟩ := it_get L12.out.bp
    clear pf
    obtain ⟨⟨r0, r1, r2, r3, r4, r5, r6, r7, r8, r9, r10⟩, rf, hRl⟩ := it_get L12.out.bR
    have rf0 := rf 0
    have rf1 := rf 1
    have rf2 := rf 2
    have rf3 := rf 3
    have rf4 := rf 4
    have rf5 := rf 5
    have rf6 := rf 6
    have rf7 := rf 7
    have rf8 := rf 8
    have rf9 := rf 9
    have rf10 := rf 10
    have hst := it_set11 L12.out.bR (.int .u8 1) (.string N1) (.string N3) (.slice ao m4 co) (.string ⟨#[]⟩) (I 0) (I 0) (.string ⟨#[]⟩) (I 0) (I 0) (I (at_ : Int))
    have HD := Lib.hid (And.intro hst.1 (L12.out.done hst.2))
    have OW3 := Lib.hid (own_loc OW2.out L12.out.bR hst.2)
    clear rf hst
    go_wp2_with fail
    have hd := HD.out
    have how := OW3.out
    clear HD OW3 r0 r1 r2 r3 r4 r5 r6 r7 r8 r9 r10 rf0 rf1 rf2 rf3 rf4 rf5 rf6 rf7 rf8 rf9 rf10
    generalize (((((((((((X45.setCell ⟨w.heap.size, 0, none⟩ (.int .u8 1)).setCell ⟨w.heap.size, 1, none⟩ (.string N1)).setCell ⟨w.heap.size, 2, none⟩ (.string N3)).setCell ⟨w.heap.size, 3, none⟩ (.slice ao m4 co)).setCell ⟨w.heap.size, 4, none⟩ (.string ⟨#[]⟩)).setCell ⟨w.heap.size, 5, none⟩ (I 0)).setCell ⟨w.heap.size, 6, none⟩ (I 0)).setCell ⟨w.heap.size, 7, none⟩ (.string ⟨#[]⟩)).setCell ⟨w.heap.size, 8, none⟩ (I 0)).setCell ⟨w.heap.size, 9, none⟩ (I 0)).setCell ⟨w.heap.size, 10, none⟩ (I (at_ : Int))) = Wf at hd how ⊢
    obtain ⟨⟨r0, r1, r2, r3, r4, r5, r6, r7, r8, r9, r10⟩, -, -⟩ := it_get hd.1
    refine bodyPost_ret (v := .agg #[.int .u8 1, .string N1, .string N3, .slice ao m4 co, .string ⟨#[]⟩, I 0, I 0, .string ⟨#[]⟩, I 0, I 0, I (at_ : Int)]) (by simp [results, Tryd.results35, go_sem, r0, r1, r2, r3, r4, r5, r6, r7, r8, r9, r10]) rfl ?_
    rw [HPO.out, HIT.out]
    exact ⟨ao, co, by
      have h := HQ.out
      rw [HBD.out]
      simp only [itA, LIt.mem, plZ, h.2.1, h.2.2.1, h.2.2.2]
      rfl, by rw [HBD.out]; exact how, by rw [HBD.out]; simp only; rw [HQ.out.1]; exact hd.2.1, hd.2.2⟩
  | false =>
    have hh := hie _ L2.out.r
    clear hie
    obtain ⟨bE, hbE⟩ : ∃ b, lookP 1 edgeW l k = b := ⟨_, rfl⟩
    rw [hbE] at hh
    go_wp2_with fail
    refine hh.mono ?_
    rintro e W3 ⟨rfl, n2⟩
    have L3 := Lib.hid (L2.out.new n2)
    clear hh n2 L2
    cases bE with
    | true =>
      obtain ⟨r1, hr1⟩ : ∃ r, placeS l (k + 1, true) = r := ⟨_, rfl⟩
      obtain ⟨⟨n1, q1, z1⟩, s1⟩ := r1
      obtain ⟨s2, hs2⟩ : ∃ r, mustS l 3 [45, 62] s1 = r := ⟨_, rfl⟩
      obtain ⟨r3, hr3⟩ : ∃ r, placeS l s2 = r := ⟨_, rfl⟩
      obtain ⟨⟨n3, q3, z3⟩, ⟨k3, ok3⟩⟩ := r3
      have hbd : bodyS l k = (⟨2, [], [], (withS l (k3, ok3)).1, ⟨n1, q1, z1⟩, ⟨n3, q3, z3⟩, at_⟩, (withS l (k3, ok3)).2) := by unfold bodyS; rw [if_neg (by rw [hbA]; simp), if_pos hbE, HAT.out]; unfold edgeS; simp only [hr1, hs2, hr3]
      have hp1 := fun W (r : RAt W G l (some ⟨b1, o1, none⟩) c (k + 1, true)) => rplace_any W G l _ c (k + 1, true) HE.out r
      rw [hr1] at hp1
      simp only [plV] at hp1
      have hm2 := fun W (r : RAt W G l (some ⟨b1, o1, none⟩) c s1) => rmust_any W G l _ c s1 HE.out r 3 (by decide) ⟨#[45, 62]⟩ [45, 62] rfl
      rw [hs2] at hm2
      have hp3 := fun W (r : RAt W G l (some ⟨b1, o1, none⟩) c s2) => rplace_any W G l _ c s2 HE.out r
      rw [hr3] at hp3
      simp only [plV] at hp3
      obtain ⟨B1, hB1⟩ : ∃ S : ByteArray, (⟨n1.toArray⟩ : ByteArray) = S := ⟨_, rfl⟩
      rw [hB1] at hp1
      obtain ⟨B3, hB3⟩ : ∃ S : ByteArray, (⟨n3.toArray⟩ : ByteArray) = S := ⟨_, rfl⟩
      rw [hB3] at hp3
      have HBD0 := Lib.hid hbd
      have HNB := Lib.hid (And.intro hB1 hB3)
      have HLK := Lib.hid hbE
      clear hii hio hr1 hs2 hr3 hbd hB1 hB3 hbE hbA
      have HK2 := Lib.hid (HNX.out _ HLK.out)
      obtain ⟨-, c1, -, f1, -, hG⟩ := L3.out.r.cells
      simp only at c1
      have hs1 := L3.out.r.set1 (k + 1) HK2.out
      rw [show ((k + 1 : Nat) : Int) = (k : Int) + 1 by omega] at hs1
      have L4 := Lib.hid (L3.out.call hs1.1 hs1.2)
      obtain ⟨⟨p0, p1, p2, p3, p4, p5, p6, p7, p8, p9, p10⟩, pf, hPl⟩ := it_get L3.out.bp
      have pf0 := pf 0
      obtain ⟨⟨m0, -⟩, mf, hMl⟩ := it_get L4.out.bp
      have mf0 := mf 0
      clear hs1 pf mf
      clear L3
      have L5 : Hid (LocS w G (w.heap.size + 1) w.heap.size l (some ⟨b1, o1, none⟩) c 42 #[.int .u8 0, .string ⟨#[]⟩, .string ⟨#[]⟩, .slice none 0 0, .string ⟨#[]⟩, I 0, I 0, .string ⟨#[]⟩, I 0, I 0, I 0] (k + 1, true) #[.int .u8 2, .string ⟨#[]⟩, .string ⟨#[]⟩, .slice none 0 0, .string ⟨#[]⟩, I 0, I 0, .string ⟨#[]⟩, I 0, I 0, I (at_ : Int)] ((W3.setCell ⟨G, 1, none⟩ (I ((k : Int) + 1))).setCell ⟨w.heap.size + 1, 0, none⟩ (.int .u8 2))) := Lib.hid (by have h := L4.out.set 0 (.int .u8 2); simpa using h)
      clear L4
      have hh := hp1 _ L5.out.r
      go_wp2_with fail
      clear c1 f1 hG p0 p1 p2 p3 p4 p5 p6 p7 p8 p9 p10 hPl pf0 m0 hMl mf0
      refine hh.mono ?_
      rintro e X61 ⟨rfl, H2, k2⟩
      have L6 := Lib.hid (L5.out.call H2 k2)

      clear hh H2 k2 L5
      obtain ⟨⟨p0, p1, p2, p3, p4, p5, p6, p7, p8, p9, p10⟩, pf, hPl⟩ := it_get L6.out.bp
      have pf4 := pf 4
      have pf5 := pf 5
      have pf6 := pf 6
      clear pf
      have L7 : Hid (LocS w G (w.heap.size + 1) w.heap.size l (some ⟨b1, o1, none⟩) c 42 #[.int .u8 0, .string ⟨#[]⟩, .string ⟨#[]⟩, .slice none 0 0, .string ⟨#[]⟩, I 0, I 0, .string ⟨#[]⟩, I 0, I 0, I 0] s1 #[.int .u8 2, .string ⟨#[]⟩, .string ⟨#[]⟩, .slice none 0 0, .string B1, I 0, I 0, .string ⟨#[]⟩, I 0, I 0, I (at_ : Int)] (X61.setCell ⟨w.heap.size + 1, 4, none⟩ (.string B1))) := Lib.hid (by have h := L6.out.set 4 (.string B1); simpa using h)
      clear L6
      have L8 : Hid (LocS w G (w.heap.size + 1) w.heap.size l (some ⟨b1, o1, none⟩) c 42 #[.int .u8 0, .string ⟨#[]⟩, .string ⟨#[]⟩, .slice none 0 0, .string ⟨#[]⟩, I 0, I 0, .string ⟨#[]⟩, I 0, I 0, I 0] s1 #[.int .u8 2, .string ⟨#[]⟩, .string ⟨#[]⟩, .slice none 0 0, .string B1, I q1, I 0, .string ⟨#[]⟩, I 0, I 0, I (at_ : Int)] ((X61.setCell ⟨w.heap.size + 1, 4, none⟩ (.string B1)).setCell ⟨w.heap.size + 1, 5, none⟩ (I q1))) := Lib.hid (by have h := L7.out.set 5 (I q1); simpa using h)
      clear L7
      have L9 : Hid (LocS w G (w.heap.size + 1) w.heap.size l (some ⟨b1, o1, none⟩) c 42 #[.int .u8 0, .string ⟨#[]⟩, .string ⟨#[]⟩, .slice none 0 0, .string ⟨#[]⟩, I 0, I 0, .string ⟨#[]⟩, I 0, I 0, I 0] s1 #[.int .u8 2, .string ⟨#[]⟩, .string ⟨#[]⟩, .slice none 0 0, .string B1, I q1, I (z1 : Int), .string ⟨#[]⟩, I 0, I 0, I (at_ : Int)] (((X61.setCell ⟨w.heap.size + 1, 4, none⟩ (.string B1)).setCell ⟨w.heap.size + 1, 5, none⟩ (I q1)).setCell ⟨w.heap.size + 1, 6, none⟩ (I (z1 : Int)))) := Lib.hid (by have h := L8.out.set 6 (I (z1 : Int)); simpa using h)
      clear L8
      have hh := hm2 _ L9.out.r
      go_wp2_with fail
      clear p0 p1 p2 p3 p4 p5 p6 p7 p8 p9 p10 hPl pf4 pf5 pf6
      refine hh.mono ?_
      rintro e X62 ⟨rfl, H2, k2⟩
      have L10 := Lib.hid (L9.out.call H2 k2)

      clear hh H2 k2 L9
      obtain ⟨⟨p0, p1, p2, p3, p4, p5, p6, p7, p8, p9, p10⟩, pf, hPl⟩ := it_get L10.out.bp
      clear pf
      have hh := hp3 _ L10.out.r
      go_wp2_with fail
      refine hh.mono ?_
      rintro e X63 ⟨rfl, H2, k2⟩
      have L11 := Lib.hid (L10.out.call H2 k2)

      clear hh H2 k2 L10
      obtain ⟨⟨p0, p1, p2, p3, p4, p5, p6, p7, p8, p9, p10⟩, pf, hPl⟩ := it_get L11.out.bp
      have pf7 := pf 7
      have pf8 := pf 8
      have pf9 := pf 9
      clear pf
      have L12 : Hid (LocS w G (w.heap.size + 1) w.heap.size l (some ⟨b1, o1, none⟩) c 42 #[.int .u8 0, .string ⟨#[]⟩, .string ⟨#[]⟩, .slice none 0 0, .string ⟨#[]⟩, I 0, I 0, .string ⟨#[]⟩, I 0, I 0, I 0] (k3, ok3) #[.int .u8 2, .string ⟨#[]⟩, .string ⟨#[]⟩, .slice none 0 0, .string B1, I q1, I (z1 : Int), .string B3, I 0, I 0, I (at_ : Int)] (X63.setCell ⟨w.heap.size + 1, 7, none⟩ (.string B3))) := Lib.hid (by have h := L11.out.set 7 (.string B3); simpa using h)
      clear L11
      have L13 : Hid (LocS w G (w.heap.size + 1) w.heap.size l (some ⟨b1, o1, none⟩) c 42 #[.int .u8 0, .string ⟨#[]⟩, .string ⟨#[]⟩, .slice none 0 0, .string ⟨#[]⟩, I 0, I 0, .string ⟨#[]⟩, I 0, I 0, I 0] (k3, ok3) #[.int .u8 2, .string ⟨#[]⟩, .string ⟨#[]⟩, .slice none 0 0, .string B1, I q1, I (z1 : Int), .string B3, I q3, I 0, I (at_ : Int)] ((X63.setCell ⟨w.heap.size + 1, 7, none⟩ (.string B3)).setCell ⟨w.heap.size + 1, 8, none⟩ (I q3))) := Lib.hid (by have h := L12.out.set 8 (I q3); simpa using h)
      clear L12
      have L14 : Hid (LocS w G (w.heap.size + 1) w.heap.size l (some ⟨b1, o1, none⟩) c 42 #[.int .u8 0, .string ⟨#[]⟩, .string ⟨#[]⟩, .slice none 0 0, .string ⟨#[]⟩, I 0, I 0, .string ⟨#[]⟩, I 0, I 0, I 0] (k3, ok3) #[.int .u8 2, .string ⟨#[]⟩, .string ⟨#[]⟩, .slice none 0 0, .string B1, I q1, I (z1 : Int), .string B3, I q3, I (z3 : Int), I (at_ : Int)] (((X63.setCell ⟨w.heap.size + 1, 7, none⟩ (.string B3)).setCell ⟨w.heap.size + 1, 8, none⟩ (I q3)).setCell ⟨w.heap.size + 1, 9, none⟩ (I (z3 : Int)))) := Lib.hid (by have h := L13.out.set 9 (I (z3 : Int)); simpa using h)
      clear L13
      cases ok3 with
      | false =>
        obtain ⟨s4, hs4⟩ : ∃ s : RS, (k3, false) = s := ⟨_, rfl⟩
        have HW : Hid (withS l (k3, false) = ([], s4)) := Lib.hid (by rw [← hs4]; rfl)
        obtain ⟨-, g1, g2, gf1, -, hG⟩ := L14.out.r.cells
        simp only at g1 g2
        have L15 : Hid (LocS w G (w.heap.size + 1) w.heap.size l (some ⟨b1, o1, none⟩) c 42 #[.int .u8 0, .string ⟨#[]⟩, .string ⟨#[]⟩, .slice none 0 0, .string ⟨#[]⟩, I 0, I 0, .string ⟨#[]⟩, I 0, I 0, I 0] s4 #[.int .u8 2, .string ⟨#[]⟩, .string ⟨#[]⟩, .slice none 0 0, .string B1, I q1, I (z1 : Int), .string B3, I q3, I (z3 : Int), I (at_ : Int)] (((X63.setCell ⟨w.heap.size + 1, 7, none⟩ (.string B3)).setCell ⟨w.heap.size + 1, 8, none⟩ (I q3)).setCell ⟨w.heap.size + 1, 9, none⟩ (I (z3 : Int)))) := Lib.hid (by rw [← hs4]; exact L14.out)
        clear L14 hs4
        obtain ⟨s9, hs9⟩ : ∃ r, mustS l 3 [59] s4 = r := ⟨_, rfl⟩
        have HBD : Hid (bodyS l k = (⟨2, [], [], [], ⟨n1, q1, z1⟩, ⟨n3, q3, z3⟩, at_⟩, s4)) := Lib.hid (by rw [HBD0.out, HW.out])
        have HQ := Lib.hid (And.intro hs9 HNB.out)
        have hme := fun W (r : RAt W G l (some ⟨b1, o1, none⟩) c s4) => rmust_any W G l _ c s4 HE.out r 3 (by decide) ⟨#[59]⟩ [59] rfl
        rw [hs9] at hme
        clear hs9
        have hh := hme _ L15.out.r
        go_wp2_with fail
        clear p0 p1 p2 p3 p4 p5 p6 p7 p8 p9 p10 hPl pf7 pf8 pf9
        refine hh.mono ?_
        rintro e X84 ⟨rfl, H2, k2⟩
        have L16 := Lib.hid (L15.out.call H2 k2)

        clear hh H2 k2 L15
        obtain ⟨⟨p0, p1, p2, p3, p4, p5, p6, p7, p8, p9, p10⟩, pf, hPl⟩ := it_get L16.out.bp
        clear pf
        obtain ⟨⟨r0, r1, r2, r3, r4, r5, r6, r7, r8, r9, r10⟩, rf, hRl⟩ := it_get L16.out.bR
        have rf0 := rf 0
        have rf1 := rf 1
        have rf2 := rf 2
        have rf3 := rf 3
        have rf4 := rf 4
        have rf5 := rf 5
        have rf6 := rf 6
        have rf7 := rf 7
        have rf8 := rf 8
        have rf9 := rf 9
        have rf10 := rf 10
        have hst := it_set11 L16.out.bR (.int .u8 2) (.string ⟨#[]⟩) (.string ⟨#[]⟩) (.slice none 0 0) (.string B1) (I q1) (I (z1 : Int)) (.string B3) (I q3) (I (z3 : Int)) (I (at_ : Int))
        have HD := Lib.hid (And.intro hst.1 (L16.out.done hst.2))

        clear rf hst
        go_wp2_with fail
        have hd := HD.out

        clear HD  r0 r1 r2 r3 r4 r5 r6 r7 r8 r9 r10 rf0 rf1 rf2 rf3 rf4 rf5 rf6 rf7 rf8 rf9 rf10
        generalize (((((((((((X84.setCell ⟨w.heap.size, 0, none⟩ (.int .u8 2)).setCell ⟨w.heap.size, 1, none⟩ (.string ⟨#[]⟩)).setCell ⟨w.heap.size, 2, none⟩ (.string ⟨#[]⟩)).setCell ⟨w.heap.size, 3, none⟩ (.slice none 0 0)).setCell ⟨w.heap.size, 4, none⟩ (.string B1)).setCell ⟨w.heap.size, 5, none⟩ (I q1)).setCell ⟨w.heap.size, 6, none⟩ (I (z1 : Int))).setCell ⟨w.heap.size, 7, none⟩ (.string B3)).setCell ⟨w.heap.size, 8, none⟩ (I q3)).setCell ⟨w.heap.size, 9, none⟩ (I (z3 : Int))).setCell ⟨w.heap.size, 10, none⟩ (I (at_ : Int))) = Wf at hd ⊢
        obtain ⟨⟨r0, r1, r2, r3, r4, r5, r6, r7, r8, r9, r10⟩, -, -⟩ := it_get hd.1
        refine bodyPost_ret (v := .agg #[.int .u8 2, .string ⟨#[]⟩, .string ⟨#[]⟩, .slice none 0 0, .string B1, I q1, I (z1 : Int), .string B3, I q3, I (z3 : Int), I (at_ : Int)]) (by simp [results, Tryd.results35, go_sem, r0, r1, r2, r3, r4, r5, r6, r7, r8, r9, r10]) rfl ?_
        rw [HPO.out, HIT.out]
        exact ⟨none, 0, by
          have h := HQ.out
          rw [HBD.out]
          simp only [itA, LIt.mem, plZ, h.2.1, h.2.2]
          (try rfl), by rw [HBD.out]; exact OwnI.nil _ _, by rw [HBD.out]; simp only; rw [HQ.out.1]; exact hd.2.1, hd.2.2⟩
      | true =>
        have hiw : ∀ W, RAt W G l (some ⟨b1, o1, none⟩) c (k3, true) → Calls Tryd.prog 34 #[.pointer (some ⟨G, 0, none⟩), .int .u8 1, .string ⟨#[119, 105, 116, 104]⟩] W fun e w' => e = .returned (.bool (lookP 1 withW l k3)) ∧ New W w' := fun W r => ris_any W G l _ c k3 true r 1 ⟨#[119, 105, 116, 104]⟩
        obtain ⟨bW, hbW⟩ : ∃ b, lookP 1 withW l k3 = b := ⟨_, rfl⟩
        rw [hbW] at hiw
        have hh := hiw _ L14.out.r
        obtain ⟨-, g1, g2, gf1, -, hG⟩ := L14.out.r.cells
        simp only at g1 g2
        go_wp2_with fail
        refine hh.mono ?_
        rintro e W4 ⟨rfl, n2⟩
        have L15 := Lib.hid (L14.out.new n2)
        clear hh hiw n2 L14 g1 g2 gf1 hG p0 p1 p2 p3 p4 p5 p6 p7 p8 p9 p10 hPl pf7 pf8 pf9
        cases bW with
        | false =>
          obtain ⟨s4, hs4⟩ : ∃ s : RS, (k3, true) = s := ⟨_, rfl⟩
          have HW : Hid (withS l (k3, true) = ([], s4)) := Lib.hid (by rw [← hs4]; show (if lookP 1 withW l k3 = true then _ else _) = _; rw [if_neg (by rw [hbW]; simp)])
          have L16 : Hid (LocS w G (w.heap.size + 1) w.heap.size l (some ⟨b1, o1, none⟩) c 42 #[.int .u8 0, .string ⟨#[]⟩, .string ⟨#[]⟩, .slice none 0 0, .string ⟨#[]⟩, I 0, I 0, .string ⟨#[]⟩, I 0, I 0, I 0] s4 #[.int .u8 2, .string ⟨#[]⟩, .string ⟨#[]⟩, .slice none 0 0, .string B1, I q1, I (z1 : Int), .string B3, I q3, I (z3 : Int), I (at_ : Int)] W4) := Lib.hid (by rw [← hs4]; exact L15.out)
          clear hs4 L15
          obtain ⟨s9, hs9⟩ : ∃ r, mustS l 3 [59] s4 = r := ⟨_, rfl⟩
          have HBD : Hid (bodyS l k = (⟨2, [], [], [], ⟨n1, q1, z1⟩, ⟨n3, q3, z3⟩, at_⟩, s4)) := Lib.hid (by rw [HBD0.out, HW.out])
          have HQ := Lib.hid (And.intro hs9 HNB.out)
          have hme := fun W (r : RAt W G l (some ⟨b1, o1, none⟩) c s4) => rmust_any W G l _ c s4 HE.out r 3 (by decide) ⟨#[59]⟩ [59] rfl
          rw [hs9] at hme
          clear hs9
          have hh := hme _ L16.out.r
          go_wp2_with fail
          refine hh.mono ?_
          rintro e X104 ⟨rfl, H2, k2⟩
          have L17 := Lib.hid (L16.out.call H2 k2)

          clear hh H2 k2 L16
          obtain ⟨⟨p0, p1, p2, p3, p4, p5, p6, p7, p8, p9, p10⟩, pf, hPl⟩ := it_get L17.out.bp
          clear pf
          obtain ⟨⟨r0, r1, r2, r3, r4, r5, r6, r7, r8, r9, r10⟩, rf, hRl⟩ := it_get L17.out.bR
          have rf0 := rf 0
          have rf1 := rf 1
          have rf2 := rf 2
          have rf3 := rf 3
          have rf4 := rf 4
          have rf5 := rf 5
          have rf6 := rf 6
          have rf7 := rf 7
          have rf8 := rf 8
          have rf9 := rf 9
          have rf10 := rf 10
          have hst := it_set11 L17.out.bR (.int .u8 2) (.string ⟨#[]⟩) (.string ⟨#[]⟩) (.slice none 0 0) (.string B1) (I q1) (I (z1 : Int)) (.string B3) (I q3) (I (z3 : Int)) (I (at_ : Int))
          have HD := Lib.hid (And.intro hst.1 (L17.out.done hst.2))

          clear rf hst
          go_wp2_with fail
          have hd := HD.out

          clear HD  r0 r1 r2 r3 r4 r5 r6 r7 r8 r9 r10 rf0 rf1 rf2 rf3 rf4 rf5 rf6 rf7 rf8 rf9 rf10
          generalize (((((((((((X104.setCell ⟨w.heap.size, 0, none⟩ (.int .u8 2)).setCell ⟨w.heap.size, 1, none⟩ (.string ⟨#[]⟩)).setCell ⟨w.heap.size, 2, none⟩ (.string ⟨#[]⟩)).setCell ⟨w.heap.size, 3, none⟩ (.slice none 0 0)).setCell ⟨w.heap.size, 4, none⟩ (.string B1)).setCell ⟨w.heap.size, 5, none⟩ (I q1)).setCell ⟨w.heap.size, 6, none⟩ (I (z1 : Int))).setCell ⟨w.heap.size, 7, none⟩ (.string B3)).setCell ⟨w.heap.size, 8, none⟩ (I q3)).setCell ⟨w.heap.size, 9, none⟩ (I (z3 : Int))).setCell ⟨w.heap.size, 10, none⟩ (I (at_ : Int))) = Wf at hd ⊢
          obtain ⟨⟨r0, r1, r2, r3, r4, r5, r6, r7, r8, r9, r10⟩, -, -⟩ := it_get hd.1
          refine bodyPost_ret (v := .agg #[.int .u8 2, .string ⟨#[]⟩, .string ⟨#[]⟩, .slice none 0 0, .string B1, I q1, I (z1 : Int), .string B3, I q3, I (z3 : Int), I (at_ : Int)]) (by simp [results, Tryd.results35, go_sem, r0, r1, r2, r3, r4, r5, r6, r7, r8, r9, r10]) rfl ?_
          rw [HPO.out, HIT.out]
          exact ⟨none, 0, by
            have h := HQ.out
            rw [HBD.out]
            simp only [itA, LIt.mem, plZ, h.2.1, h.2.2]
            (try rfl), by rw [HBD.out]; exact OwnI.nil _ _, by rw [HBD.out]; simp only; rw [HQ.out.1]; exact hd.2.1, hd.2.2⟩
        | true =>
          obtain ⟨r5, hr5⟩ : ∃ r, numbS l (k3 + 1, true) = r := ⟨_, rfl⟩
          obtain ⟨v5, s5⟩ := r5
          obtain ⟨r6, hr6⟩ : ∃ r, numsS l s5 = r := ⟨_, rfl⟩
          obtain ⟨x6, s4⟩ := r6
          have HW : Hid (withS l (k3, true) = (v5 :: x6, s4)) := Lib.hid (by show (if lookP 1 withW l k3 = true then (let r1 := numbS l (k3 + 1, true); let r2 := numsS l r1.2; (r1.1 :: r2.1, r2.2)) else _) = _; rw [if_pos hbW]; simp only [hr5, hr6])
          have hk5 : k3 + 1 < l.length := by
            obtain ⟨u, hu, hs, _⟩ := lookP_inv hbW
            exact HE.out.next hu (by omega)
          have HK5 := Lib.hid hk5
          have hn5 := fun W (r : RAt W G l (some ⟨b1, o1, none⟩) c (k3 + 1, true)) => rnumber_any W G l _ c (k3 + 1, true) HE.out r
          rw [hr5] at hn5
          have hn6 := fun W (r : RAt W G l (some ⟨b1, o1, none⟩) c s5) => rnums_any W G l _ c s5 HE.out r
          rw [hr6] at hn6
          obtain ⟨m6, hm6⟩ : ∃ m, x6.length = m := ⟨_, rfl⟩
          rw [hm6] at hn6
          have HM6 := Lib.hid hm6
          have hm6b : m6 ≤ 2000000 := HX6b l s5 x6 s4 hr6 hm6 HLE.out
          clear hr5 hr6 hk5 hbW hm6
          obtain ⟨-, g1, g2, gf1, -, hG⟩ := L15.out.r.cells
          simp only at g1 g2
          have hs1 := L15.out.r.set1 (k3 + 1) HK5.out
          rw [show ((k3 + 1 : Nat) : Int) = (k3 : Int) + 1 by omega] at hs1
          have hk3b : (k3 : Int) + 1 ≤ 2000001 := by have := HK5.out; have := HLE.out; omega
          have L16 := Lib.hid (L15.out.call hs1.1 hs1.2)
          have hh := hn5 _ L16.out.r
          clear hs1 L15
          go_wp2_with fail
          refine hh.mono ?_
          rintro e W5 ⟨rfl, H2, k2⟩
          have L17 := Lib.hid (L16.out.call H2 k2)
          clear hh H2 k2 L16 g1 g2 gf1 hG
          obtain ⟨⟨p0, p1, p2, p3, p4, p5, p6, p7, p8, p9, p10⟩, pf, hPl⟩ := it_get L17.out.bp
          have pf3 := pf 3
          clear pf
          have na : New W5 (W5.alloc (.cells #[I v5] 3)) := (New.refl _).alloc _
          have hnl : (W5.alloc (.cells #[I v5] 3)).ownsRow w.heap.size 3 1 (.slice none 0 0) 0 [] := World.ownsRow_nil _ _ _ _
          have HNL := Lib.hid hnl
          have L18 := Lib.hid (L17.out.new na)
          have hz5 : w.heap.size ≤ (W5.alloc (.cells #[I v5] 3)).heap.size := L18.out.k.size
          have hone : ∀ u ∈ [I v5], u.oneCell' = true := by intro u hu; simp only [List.mem_cons, List.not_mem_nil, or_false] at hu; rcases hu with rfl; rfl
          clear L17 na hnl
          go_wp2_with (at_builtin; refine wpList_app rfl _ _ 38 rfl w.heap.size 3 i0 (.int .i64 0) 1 8 Tryd.underlying38 hi hz0 hz1 hz2 rfl (by decide) none 0 0 [] rfl HNL.out (some ⟨W5.heap.size, 0, none⟩) 1 1 [I v5] rfl rfl (SlAt.lit W5 #[I v5] _) hone (by unfold maxLen; omega) (by omega) hz5 ?_)
          intro a5 c5 W6 hown5 hk5 _ _
          (try simp only [Nat.zero_add, List.nil_append] at hown5)
          (try simp only [Nat.zero_add])
          have L19 := Lib.hid (L18.out.app HNL.out HOLD.out hk5)
          have HOW := Lib.hid hown5
          clear L18 hk5 hown5 HNL p0 p1 p2 p3 p4 p5 p6 p7 p8 p9 p10 pf3 hPl hone hz5
          obtain ⟨⟨p0, p1, p2, p3, p4, p5, p6, p7, p8, p9, p10⟩, pf, hPl⟩ := it_get L19.out.bp
          have pf3 := pf 3
          clear pf
          have HOW6 := Lib.hid (own_oth HOW.out (Keeps.setCell (S := fun b => b = w.heap.size + 1) W6 ⟨w.heap.size + 1, 3, none⟩ (.slice a5 1 c5) rfl) (fun g hg => ⟨_, _, _, hg ▸ L19.out.bp, by decide⟩))
          have L20 : Hid (LocS w G (w.heap.size + 1) w.heap.size l (some ⟨b1, o1, none⟩) c 42 #[.int .u8 0, .string ⟨#[]⟩, .string ⟨#[]⟩, .slice none 0 0, .string ⟨#[]⟩, I 0, I 0, .string ⟨#[]⟩, I 0, I 0, I 0] s5 #[.int .u8 2, .string ⟨#[]⟩, .string ⟨#[]⟩, .slice a5 1 c5, .string B1, I q1, I (z1 : Int), .string B3, I q3, I (z3 : Int), I (at_ : Int)] (W6.setCell ⟨w.heap.size + 1, 3, none⟩ (.slice a5 1 c5))) := Lib.hid (by have h := L19.out.set 3 (.slice a5 1 c5); simpa using h)
          clear L19
          go_wp2_with fail
          clear p0 p1 p2 p3 p4 p5 p6 p7 p8 p9 p10 pf3 hPl
          generalize (W6.setCell ⟨w.heap.size + 1, 3, none⟩ (.slice a5 1 c5)) = W7 at L20 HOW6 ⊢
          obtain ⟨⟨p0, p1, p2, p3, p4, p5, p6, p7, p8, p9, p10⟩, -, hPl⟩ := it_get L20.out.bp
          have hS0 : (fun w' : World => w'.cell? ⟨w.heap.size + 1, 3, none⟩ = some (.slice a5 1 c5) ∧ w.heap.size + 1 < w'.heap.size) W7.drew := ⟨p3, hPl⟩
          refine wp_region_X (fun w' : World => w'.cell? ⟨w.heap.size + 1, 3, none⟩ = some (.slice a5 1 c5) ∧ w.heap.size + 1 < w'.heap.size) [4, 5, 6] (by kernel_rfl) hS0 ?_
          refine anyX_take 0 (by kernel_rfl) (by kernel_rfl) (by kernel_rfl) (by kernel_rfl) (by kernel_rfl) hS0 ?_
          intro oi ho; simp only [List.getElem?_toArray, List.getElem?_cons_succ, List.getElem?_cons_zero, Option.some.injEq] at ho; subst ho
          refine ⟨?_, fun _ _ _ h => h, Or.inl ⟨by rfl, ?_⟩, ?_⟩; rotate_left 1
          · (intro wS hSw; (try dsimp only at hSw); go_simp; try with_reducible rfl)
          simp only [Act.put, List.setIfInBounds_toArray, List.set_cons_zero, List.set_cons_succ]
          refine anyX_take 1 (by kernel_rfl) (by kernel_rfl) (by kernel_rfl) (by kernel_rfl) (by kernel_rfl) hS0 ?_
          intro oi ho; simp only [List.getElem?_toArray, List.getElem?_cons_succ, List.getElem?_cons_zero, Option.some.injEq] at ho; subst ho
          refine ⟨?_, fun _ _ _ h => h, Or.inl ⟨by rfl, ?_⟩, ?_⟩; rotate_left 1
          · (intro wS hSw; (try dsimp only at hSw); go_simp; try with_reducible rfl)
          simp only [Act.put, List.setIfInBounds_toArray, List.set_cons_zero, List.set_cons_succ]
          refine anyX_take 2 (by kernel_rfl) (by kernel_rfl) (by kernel_rfl) (by kernel_rfl) (by kernel_rfl) hS0 ?_
          intro oi ho; simp only [List.getElem?_toArray, List.getElem?_cons_succ, List.getElem?_cons_zero, Option.some.injEq] at ho; subst ho
          refine ⟨?_, fun _ _ _ h => h, Or.inl ⟨by rfl, ?_⟩, ?_⟩; rotate_left 1
          · (intro wS hSw; (try dsimp only at hSw); go_simp; try with_reducible rfl)
          simp only [Act.put, List.setIfInBounds_toArray, List.set_cons_zero, List.set_cons_succ]
          refine anyX_one 3 (by kernel_rfl) ?_
          intro oi ho; simp only [List.getElem?_toArray, List.getElem?_cons_succ, List.getElem?_cons_zero, Option.some.injEq] at ho; subst ho; intro K hK
          (try simp only [Act.put, List.setIfInBounds_toArray, List.set_cons_zero, List.set_cons_succ])
          go_simp
          have L21 := Lib.hid (L20.out.new ((New.refl W7).drew))
          refine (hn6 _ L21.out.r).mono ?_
          rintro e W8 ⟨ao6, co6, rfl, how6, H2, k2⟩
          have L22 := Lib.hid (L21.out.call H2 k2)
          obtain ⟨⟨-, -, -, e3, -, -, -, -, -, -, -⟩, -, ePl⟩ := it_get L22.out.bp
          have hS1 : (fun w' : World => w'.cell? ⟨w.heap.size + 1, 3, none⟩ = some (.slice a5 1 c5) ∧ w.heap.size + 1 < w'.heap.size) W8 := ⟨e3, ePl⟩
          have HOW8 := Lib.hid (own_krR ((New.refl W7).drew.owns HOW6.out) k2 HGL.out)
          have HX8 := Lib.hid how6.sl
          have hz8 : w.heap.size ≤ W8.heap.size := L22.out.k.size
          refine hK _ _ (fun _ => hS1) ?_
          clear hK K L20 L21 H2 k2 how6
          refine anyX_one 4 (by kernel_rfl) ?_
          intro oi ho; simp only [List.getElem?_toArray, List.getElem?_cons_succ, List.getElem?_cons_zero, Option.some.injEq] at ho; subst ho; intro K hK
          refine step_app rfl _ _ 38 rfl w.heap.size 3 i0 (.int .i64 0) 1 8 Tryd.underlying38 hi hz0 hz1 hz2 rfl (by decide) a5 1 c5 [I v5] rfl HOW8.out ao6 m6 co6 (Is x6) rfl (by rw [← HM6.out]; simp [Is]) HX8.out (ints_oneCell .i64 x6) (by unfold maxLen; omega) (by omega) hz8 ?_
          intro a9 c9' W9 hown9 hk9 _
          have L23 := Lib.hid (L22.out.app HOW8.out HOLD.out hk9)
          refine hK _ _ (fun hx => by cases hx) ?_
          clear hK K hk9 L22 hS0 hS1
          obtain ⟨⟨d0, d1, d2, d3, d4, d5, d6, d7, d8, d9, d10⟩, pf, dPl⟩ := it_get L23.out.bp
          have pf3 := pf 3
          clear pf
          refine anyX_one 5 (by kernel_rfl) ?_
          intro oi ho; simp only [List.getElem?_toArray, List.getElem?_cons_succ, List.getElem?_cons_zero, Option.some.injEq] at ho; subst ho; intro K hK
          (try simp only [Act.put, List.setIfInBounds_toArray, List.set_cons_zero, List.set_cons_succ])
          go_simp
          refine hK _ _ (fun hx => by cases hx) ?_
          clear hK K
          refine anyX_one 6 (by kernel_rfl) ?_
          intro oi ho; simp only [List.getElem?_toArray, List.getElem?_cons_succ, List.getElem?_cons_zero, Option.some.injEq] at ho; subst ho; intro K hK
          (try simp only [Act.put, List.setIfInBounds_toArray, List.set_cons_zero, List.set_cons_succ])
          go_simp
          refine hK _ _ (fun hx => by cases hx) ?_
          clear hK K
          refine anyX_done (by kernel_rfl) ?_
          (try simp only [Act.put, List.setIfInBounds_toArray, List.set_cons_zero, List.set_cons_succ])
          (try simp only [Exit.then])
          obtain ⟨m9, hm9⟩ : ∃ m, 1 + m6 = m := ⟨_, rfl⟩
          (try rw [hm9] at hown9)
          (try rw [hm9])
          have OWN : Hid (OwnI W9 w.heap.size a9 c9' (v5 :: x6)) := Lib.hid (by
            have e : (v5 :: x6).length = m9 := by simp only [List.length_cons]; have := HM6.out; omega
            unfold OwnI; rw [e]; exact hown9)
          have HLEN : Hid ((v5 :: x6).length = m9) := Lib.hid (by simp only [List.length_cons]; have := HM6.out; omega)
          have OWB := Lib.hid L23.out.bp
          clear hown9 hm9 p0 p1 p2 p3 p4 p5 p6 p7 p8 p9 p10 hPl e3 ePl
          have L24 : Hid (LocS w G (w.heap.size + 1) w.heap.size l (some ⟨b1, o1, none⟩) c 42 #[.int .u8 0, .string ⟨#[]⟩, .string ⟨#[]⟩, .slice none 0 0, .string ⟨#[]⟩, I 0, I 0, .string ⟨#[]⟩, I 0, I 0, I 0] s4 #[.int .u8 2, .string ⟨#[]⟩, .string ⟨#[]⟩, .slice a9 m9 c9', .string B1, I q1, I (z1 : Int), .string B3, I q3, I (z3 : Int), I (at_ : Int)] (W9.setCell ⟨w.heap.size + 1, 3, none⟩ (.slice a9 m9 c9'))) := Lib.hid (by have h := L23.out.set 3 (.slice a9 m9 c9'); simpa using h)
          clear L23
          skip
          clear d0 d1 d2 d3 d4 d5 d6 d7 d8 d9 d10 dPl pf3
          obtain ⟨ao, hao⟩ : ∃ z, z = a9 := ⟨_, rfl⟩
          obtain ⟨co, hco⟩ : ∃ z, z = c9' := ⟨_, rfl⟩
          subst hao hco
          obtain ⟨s9, hs9⟩ : ∃ r, mustS l 3 [59] s4 = r := ⟨_, rfl⟩
          have HBD : Hid (bodyS l k = (⟨2, [], [], v5 :: x6, ⟨n1, q1, z1⟩, ⟨n3, q3, z3⟩, at_⟩, s4)) := Lib.hid (by rw [HBD0.out, HW.out])
          have HQ := Lib.hid (And.intro hs9 HNB.out)
          have hme := fun W (r : RAt W G l (some ⟨b1, o1, none⟩) c s4) => rmust_any W G l _ c s4 HE.out r 3 (by decide) ⟨#[59]⟩ [59] rfl
          rw [hs9] at hme
          clear hs9
          have OW := Lib.hid (own_loc OWN.out OWB.out (Keeps.setCell (S := fun b => b = w.heap.size + 1) W9 ⟨w.heap.size + 1, 3, none⟩ (.slice ao m9 co) rfl))
          have hh := hme _ L24.out.r
          go_wp2_with fail
          refine hh.mono ?_
          rintro e X104 ⟨rfl, H2, k2⟩
          have L25 := Lib.hid (L24.out.call H2 k2)
          have OW2 := Lib.hid (own_kr OW.out k2 HGL.out)
          clear hh H2 k2 L24
          obtain ⟨⟨p0, p1, p2, p3, p4, p5, p6, p7, p8, p9, p10⟩, pf, hPl⟩ := it_get L25.out.bp
          clear pf
          obtain ⟨⟨r0, r1, r2, r3, r4, r5, r6, r7, r8, r9, r10⟩, rf, hRl⟩ := it_get L25.out.bR
          have rf0 := rf 0
          have rf1 := rf 1
          have rf2 := rf 2
          have rf3 := rf 3
          have rf4 := rf 4
          have rf5 := rf 5
          have rf6 := rf 6
          have rf7 := rf 7
          have rf8 := rf 8
          have rf9 := rf 9
          have rf10 := rf 10
          have hst := it_set11 L25.out.bR (.int .u8 2) (.string ⟨#[]⟩) (.string ⟨#[]⟩) (.slice ao m9 co) (.string B1) (I q1) (I (z1 : Int)) (.string B3) (I q3) (I (z3 : Int)) (I (at_ : Int))
          have HD := Lib.hid (And.intro hst.1 (L25.out.done hst.2))
          have OW3 := Lib.hid (own_loc OW2.out L25.out.bR hst.2)
          clear rf hst
          go_wp2_with fail
          have hd := HD.out
          have how := OW3.out
          clear HD OW3 r0 r1 r2 r3 r4 r5 r6 r7 r8 r9 r10 rf0 rf1 rf2 rf3 rf4 rf5 rf6 rf7 rf8 rf9 rf10
          generalize (((((((((((X104.setCell ⟨w.heap.size, 0, none⟩ (.int .u8 2)).setCell ⟨w.heap.size, 1, none⟩ (.string ⟨#[]⟩)).setCell ⟨w.heap.size, 2, none⟩ (.string ⟨#[]⟩)).setCell ⟨w.heap.size, 3, none⟩ (.slice ao m9 co)).setCell ⟨w.heap.size, 4, none⟩ (.string B1)).setCell ⟨w.heap.size, 5, none⟩ (I q1)).setCell ⟨w.heap.size, 6, none⟩ (I (z1 : Int))).setCell ⟨w.heap.size, 7, none⟩ (.string B3)).setCell ⟨w.heap.size, 8, none⟩ (I q3)).setCell ⟨w.heap.size, 9, none⟩ (I (z3 : Int))).setCell ⟨w.heap.size, 10, none⟩ (I (at_ : Int))) = Wf at hd how ⊢
          obtain ⟨⟨r0, r1, r2, r3, r4, r5, r6, r7, r8, r9, r10⟩, -, -⟩ := it_get hd.1
          refine bodyPost_ret (v := .agg #[.int .u8 2, .string ⟨#[]⟩, .string ⟨#[]⟩, .slice ao m9 co, .string B1, I q1, I (z1 : Int), .string B3, I q3, I (z3 : Int), I (at_ : Int)]) (by simp [results, Tryd.results35, go_sem, r0, r1, r2, r3, r4, r5, r6, r7, r8, r9, r10]) rfl ?_
          rw [HPO.out, HIT.out]
          exact ⟨ao, co, by
            have h := HQ.out
            rw [HBD.out]
            simp only [itA, LIt.mem, plZ, h.2.1, h.2.2, HLEN.out]
            (try rfl), by rw [HBD.out]; exact how, by rw [HBD.out]; simp only; rw [HQ.out.1]; exact hd.2.1, hd.2.2⟩
    | false =>
      have hh := hii _ L3.out.r
      clear hii
      obtain ⟨bI, hbI⟩ : ∃ b, lookP 1 inW l k = b := ⟨_, rfl⟩
      rw [hbI] at hh
      go_wp2_with fail
      refine hh.mono ?_
      rintro e W4 ⟨rfl, n2⟩
      have L4 := Lib.hid (L3.out.new n2)
      clear hh n2 L3
      cases bI with
      | true =>
        obtain ⟨r1, hr1⟩ : ∃ r, wordS l (k + 1, true) = r := ⟨_, rfl⟩
        obtain ⟨n1, s1⟩ := r1
        obtain ⟨s2, hs2⟩ : ∃ r, mustS l 3 [45, 62] s1 = r := ⟨_, rfl⟩
        obtain ⟨r3, hr3⟩ : ∃ r, placeS l s2 = r := ⟨_, rfl⟩
        obtain ⟨⟨n3, q3, z3⟩, s3⟩ := r3
        obtain ⟨s9, hs9⟩ : ∃ r, mustS l 3 [59] s3 = r := ⟨_, rfl⟩
        have hbd : bodyS l k = (⟨3, n1, [], [], plZ, ⟨n3, q3, z3⟩, at_⟩, s3) := by unfold bodyS; rw [if_neg (by rw [hbA]; simp), if_neg (by rw [hbE]; simp), if_pos hbI, HAT.out]; unfold inS; simp only [hr1, hs2, hr3]
        have hw1 := fun W (r : RAt W G l (some ⟨b1, o1, none⟩) c (k + 1, true)) => rword_any W G l _ c (k + 1, true) HE.out r
        rw [hr1] at hw1
        have hm2 := fun W (r : RAt W G l (some ⟨b1, o1, none⟩) c s1) => rmust_any W G l _ c s1 HE.out r 3 (by decide) ⟨#[45, 62]⟩ [45, 62] rfl
        rw [hs2] at hm2
        have hp3 := fun W (r : RAt W G l (some ⟨b1, o1, none⟩) c s2) => rplace_any W G l _ c s2 HE.out r
        rw [hr3] at hp3
        simp only [plV] at hp3
        have hme := fun W (r : RAt W G l (some ⟨b1, o1, none⟩) c s3) => rmust_any W G l _ c s3 HE.out r 3 (by decide) ⟨#[59]⟩ [59] rfl
        rw [hs9] at hme
        obtain ⟨B1, hB1⟩ : ∃ S : ByteArray, (⟨n1.toArray⟩ : ByteArray) = S := ⟨_, rfl⟩
        rw [hB1] at hw1
        obtain ⟨B3, hB3⟩ : ∃ S : ByteArray, (⟨n3.toArray⟩ : ByteArray) = S := ⟨_, rfl⟩
        rw [hB3] at hp3
        have HBD := Lib.hid hbd
        have HQ := Lib.hid (And.intro hs9 (And.intro hB1 hB3))
        have HLK := Lib.hid hbI
        clear hio hr1 hs2 hr3 hbd hB1 hB3 hbE hbA hbI hs9
        have HK2 := Lib.hid (HNX.out _ HLK.out)
        obtain ⟨-, c1, -, f1, -, hG⟩ := L4.out.r.cells
        simp only at c1
        have hs1 := L4.out.r.set1 (k + 1) HK2.out
        rw [show ((k + 1 : Nat) : Int) = (k : Int) + 1 by omega] at hs1
        have L5 := Lib.hid (L4.out.call hs1.1 hs1.2)
        obtain ⟨⟨p0, p1, p2, p3, p4, p5, p6, p7, p8, p9, p10⟩, pf, hPl⟩ := it_get L4.out.bp
        have pf0 := pf 0
        obtain ⟨⟨m0, -⟩, mf, hMl⟩ := it_get L5.out.bp
        have mf0 := mf 0
        clear hs1 pf mf
        clear L4
        have L6 : Hid (LocS w G (w.heap.size + 1) w.heap.size l (some ⟨b1, o1, none⟩) c 42 #[.int .u8 0, .string ⟨#[]⟩, .string ⟨#[]⟩, .slice none 0 0, .string ⟨#[]⟩, I 0, I 0, .string ⟨#[]⟩, I 0, I 0, I 0] (k + 1, true) #[.int .u8 3, .string ⟨#[]⟩, .string ⟨#[]⟩, .slice none 0 0, .string ⟨#[]⟩, I 0, I 0, .string ⟨#[]⟩, I 0, I 0, I (at_ : Int)] ((W4.setCell ⟨G, 1, none⟩ (I ((k : Int) + 1))).setCell ⟨w.heap.size + 1, 0, none⟩ (.int .u8 3))) := Lib.hid (by have h := L5.out.set 0 (.int .u8 3); simpa using h)
        clear L5
        have hh := hw1 _ L6.out.r
        go_wp2_with fail
        clear c1 f1 hG p0 p1 p2 p3 p4 p5 p6 p7 p8 p9 p10 hPl pf0 m0 hMl mf0
        refine hh.mono ?_
        rintro e X81 ⟨rfl, H2, k2⟩
        have L7 := Lib.hid (L6.out.call H2 k2)

        clear hh H2 k2 L6
        obtain ⟨⟨p0, p1, p2, p3, p4, p5, p6, p7, p8, p9, p10⟩, pf, hPl⟩ := it_get L7.out.bp
        have pf1 := pf 1
        clear pf
        have L8 : Hid (LocS w G (w.heap.size + 1) w.heap.size l (some ⟨b1, o1, none⟩) c 42 #[.int .u8 0, .string ⟨#[]⟩, .string ⟨#[]⟩, .slice none 0 0, .string ⟨#[]⟩, I 0, I 0, .string ⟨#[]⟩, I 0, I 0, I 0] s1 #[.int .u8 3, .string B1, .string ⟨#[]⟩, .slice none 0 0, .string ⟨#[]⟩, I 0, I 0, .string ⟨#[]⟩, I 0, I 0, I (at_ : Int)] (X81.setCell ⟨w.heap.size + 1, 1, none⟩ (.string B1))) := Lib.hid (by have h := L7.out.set 1 (.string B1); simpa using h)
        clear L7
        have hh := hm2 _ L8.out.r
        go_wp2_with fail
        clear p0 p1 p2 p3 p4 p5 p6 p7 p8 p9 p10 hPl pf1
        refine hh.mono ?_
        rintro e X82 ⟨rfl, H2, k2⟩
        have L9 := Lib.hid (L8.out.call H2 k2)

        clear hh H2 k2 L8
        obtain ⟨⟨p0, p1, p2, p3, p4, p5, p6, p7, p8, p9, p10⟩, pf, hPl⟩ := it_get L9.out.bp
        clear pf
        have hh := hp3 _ L9.out.r
        go_wp2_with fail
        refine hh.mono ?_
        rintro e X83 ⟨rfl, H2, k2⟩
        have L10 := Lib.hid (L9.out.call H2 k2)

        clear hh H2 k2 L9
        obtain ⟨⟨p0, p1, p2, p3, p4, p5, p6, p7, p8, p9, p10⟩, pf, hPl⟩ := it_get L10.out.bp
        have pf7 := pf 7
        have pf8 := pf 8
        have pf9 := pf 9
        clear pf
        have L11 : Hid (LocS w G (w.heap.size + 1) w.heap.size l (some ⟨b1, o1, none⟩) c 42 #[.int .u8 0, .string ⟨#[]⟩, .string ⟨#[]⟩, .slice none 0 0, .string ⟨#[]⟩, I 0, I 0, .string ⟨#[]⟩, I 0, I 0, I 0] s3 #[.int .u8 3, .string B1, .string ⟨#[]⟩, .slice none 0 0, .string ⟨#[]⟩, I 0, I 0, .string B3, I 0, I 0, I (at_ : Int)] (X83.setCell ⟨w.heap.size + 1, 7, none⟩ (.string B3))) := Lib.hid (by have h := L10.out.set 7 (.string B3); simpa using h)
        clear L10
        have L12 : Hid (LocS w G (w.heap.size + 1) w.heap.size l (some ⟨b1, o1, none⟩) c 42 #[.int .u8 0, .string ⟨#[]⟩, .string ⟨#[]⟩, .slice none 0 0, .string ⟨#[]⟩, I 0, I 0, .string ⟨#[]⟩, I 0, I 0, I 0] s3 #[.int .u8 3, .string B1, .string ⟨#[]⟩, .slice none 0 0, .string ⟨#[]⟩, I 0, I 0, .string B3, I q3, I 0, I (at_ : Int)] ((X83.setCell ⟨w.heap.size + 1, 7, none⟩ (.string B3)).setCell ⟨w.heap.size + 1, 8, none⟩ (I q3))) := Lib.hid (by have h := L11.out.set 8 (I q3); simpa using h)
        clear L11
        have L13 : Hid (LocS w G (w.heap.size + 1) w.heap.size l (some ⟨b1, o1, none⟩) c 42 #[.int .u8 0, .string ⟨#[]⟩, .string ⟨#[]⟩, .slice none 0 0, .string ⟨#[]⟩, I 0, I 0, .string ⟨#[]⟩, I 0, I 0, I 0] s3 #[.int .u8 3, .string B1, .string ⟨#[]⟩, .slice none 0 0, .string ⟨#[]⟩, I 0, I 0, .string B3, I q3, I (z3 : Int), I (at_ : Int)] (((X83.setCell ⟨w.heap.size + 1, 7, none⟩ (.string B3)).setCell ⟨w.heap.size + 1, 8, none⟩ (I q3)).setCell ⟨w.heap.size + 1, 9, none⟩ (I (z3 : Int)))) := Lib.hid (by have h := L12.out.set 9 (I (z3 : Int)); simpa using h)
        clear L12
        have hh := hme _ L13.out.r
        go_wp2_with fail
        clear p0 p1 p2 p3 p4 p5 p6 p7 p8 p9 p10 hPl pf7 pf8 pf9
        refine hh.mono ?_
        rintro e X84 ⟨rfl, H2, k2⟩
        have L14 := Lib.hid (L13.out.call H2 k2)

        clear hh H2 k2 L13
        obtain ⟨⟨p0, p1, p2, p3, p4, p5, p6, p7, p8, p9, p10⟩, pf, hPl⟩ := it_get L14.out.bp
        clear pf
        obtain ⟨⟨r0, r1, r2, r3, r4, r5, r6, r7, r8, r9, r10⟩, rf, hRl⟩ := it_get L14.out.bR
        have rf0 := rf 0
        have rf1 := rf 1
        have rf2 := rf 2
        have rf3 := rf 3
        have rf4 := rf 4
        have rf5 := rf 5
        have rf6 := rf 6
        have rf7 := rf 7
        have rf8 := rf 8
        have rf9 := rf 9
        have rf10 := rf 10
        have hst := it_set11 L14.out.bR (.int .u8 3) (.string B1) (.string ⟨#[]⟩) (.slice none 0 0) (.string ⟨#[]⟩) (I 0) (I 0) (.string B3) (I q3) (I (z3 : Int)) (I (at_ : Int))
        have HD := Lib.hid (And.intro hst.1 (L14.out.done hst.2))

        clear rf hst
        go_wp2_with fail
        have hd := HD.out

        clear HD  r0 r1 r2 r3 r4 r5 r6 r7 r8 r9 r10 rf0 rf1 rf2 rf3 rf4 rf5 rf6 rf7 rf8 rf9 rf10
        generalize (((((((((((X84.setCell ⟨w.heap.size, 0, none⟩ (.int .u8 3)).setCell ⟨w.heap.size, 1, none⟩ (.string B1)).setCell ⟨w.heap.size, 2, none⟩ (.string ⟨#[]⟩)).setCell ⟨w.heap.size, 3, none⟩ (.slice none 0 0)).setCell ⟨w.heap.size, 4, none⟩ (.string ⟨#[]⟩)).setCell ⟨w.heap.size, 5, none⟩ (I 0)).setCell ⟨w.heap.size, 6, none⟩ (I 0)).setCell ⟨w.heap.size, 7, none⟩ (.string B3)).setCell ⟨w.heap.size, 8, none⟩ (I q3)).setCell ⟨w.heap.size, 9, none⟩ (I (z3 : Int))).setCell ⟨w.heap.size, 10, none⟩ (I (at_ : Int))) = Wf at hd ⊢
        obtain ⟨⟨r0, r1, r2, r3, r4, r5, r6, r7, r8, r9, r10⟩, -, -⟩ := it_get hd.1
        refine bodyPost_ret (v := .agg #[.int .u8 3, .string B1, .string ⟨#[]⟩, .slice none 0 0, .string ⟨#[]⟩, I 0, I 0, .string B3, I q3, I (z3 : Int), I (at_ : Int)]) (by simp [results, Tryd.results35, go_sem, r0, r1, r2, r3, r4, r5, r6, r7, r8, r9, r10]) rfl ?_
        rw [HPO.out, HIT.out]
        exact ⟨none, 0, by
          have h := HQ.out
          rw [HBD.out]
          simp only [itA, LIt.mem, plZ, h.2.1, h.2.2]
          (try rfl), by rw [HBD.out]; exact OwnI.nil _ _, by rw [HBD.out]; simp only; rw [HQ.out.1]; exact hd.2.1, hd.2.2⟩
      | false =>
        have hh := hio _ L4.out.r
        clear hio
        obtain ⟨bO, hbO⟩ : ∃ b, lookP 1 outW l k = b := ⟨_, rfl⟩
        rw [hbO] at hh
        go_wp2_with fail
        refine hh.mono ?_
        rintro e W5 ⟨rfl, n2⟩
        have L5 := Lib.hid (L4.out.new n2)
        clear hh n2 L4
        cases bO with
        | true =>
          obtain ⟨r1, hr1⟩ : ∃ r, placeS l (k + 1, true) = r := ⟨_, rfl⟩
          obtain ⟨⟨n1, q1, z1⟩, s1⟩ := r1
          obtain ⟨s2, hs2⟩ : ∃ r, mustS l 3 [45, 62] s1 = r := ⟨_, rfl⟩
          obtain ⟨r3, hr3⟩ : ∃ r, wordS l s2 = r := ⟨_, rfl⟩
          obtain ⟨n3, s3⟩ := r3
          obtain ⟨s9, hs9⟩ : ∃ r, mustS l 3 [59] s3 = r := ⟨_, rfl⟩
          have hbd : bodyS l k = (⟨4, n3, [], [], ⟨n1, q1, z1⟩, plZ, at_⟩, s3) := by unfold bodyS; rw [if_neg (by rw [hbA]; simp), if_neg (by rw [hbE]; simp), if_neg (by rw [hbI]; simp), if_pos hbO, HAT.out]; unfold outS; simp only [hr1, hs2, hr3]
          have hp1 := fun W (r : RAt W G l (some ⟨b1, o1, none⟩) c (k + 1, true)) => rplace_any W G l _ c (k + 1, true) HE.out r
          rw [hr1] at hp1
          simp only [plV] at hp1
          have hm2 := fun W (r : RAt W G l (some ⟨b1, o1, none⟩) c s1) => rmust_any W G l _ c s1 HE.out r 3 (by decide) ⟨#[45, 62]⟩ [45, 62] rfl
          rw [hs2] at hm2
          have hw3 := fun W (r : RAt W G l (some ⟨b1, o1, none⟩) c s2) => rword_any W G l _ c s2 HE.out r
          rw [hr3] at hw3
          have hme := fun W (r : RAt W G l (some ⟨b1, o1, none⟩) c s3) => rmust_any W G l _ c s3 HE.out r 3 (by decide) ⟨#[59]⟩ [59] rfl
          rw [hs9] at hme
          obtain ⟨B1, hB1⟩ : ∃ S : ByteArray, (⟨n1.toArray⟩ : ByteArray) = S := ⟨_, rfl⟩
          rw [hB1] at hp1
          obtain ⟨B3, hB3⟩ : ∃ S : ByteArray, (⟨n3.toArray⟩ : ByteArray) = S := ⟨_, rfl⟩
          rw [hB3] at hw3
          have HBD := Lib.hid hbd
          have HQ := Lib.hid (And.intro hs9 (And.intro hB1 hB3))
          have HLK := Lib.hid hbO
          clear hr1 hs2 hr3 hbd hB1 hB3 hbE hbA hbI hbO hs9
          have HK2 := Lib.hid (HNX.out _ HLK.out)
          obtain ⟨-, c1, -, f1, -, hG⟩ := L5.out.r.cells
          simp only at c1
          have hs1 := L5.out.r.set1 (k + 1) HK2.out
          rw [show ((k + 1 : Nat) : Int) = (k : Int) + 1 by omega] at hs1
          have L6 := Lib.hid (L5.out.call hs1.1 hs1.2)
          obtain ⟨⟨p0, p1, p2, p3, p4, p5, p6, p7, p8, p9, p10⟩, pf, hPl⟩ := it_get L5.out.bp
          have pf0 := pf 0
          obtain ⟨⟨m0, -⟩, mf, hMl⟩ := it_get L6.out.bp
          have mf0 := mf 0
          clear hs1 pf mf
          clear L5
          have L7 : Hid (LocS w G (w.heap.size + 1) w.heap.size l (some ⟨b1, o1, none⟩) c 42 #[.int .u8 0, .string ⟨#[]⟩, .string ⟨#[]⟩, .slice none 0 0, .string ⟨#[]⟩, I 0, I 0, .string ⟨#[]⟩, I 0, I 0, I 0] (k + 1, true) #[.int .u8 4, .string ⟨#[]⟩, .string ⟨#[]⟩, .slice none 0 0, .string ⟨#[]⟩, I 0, I 0, .string ⟨#[]⟩, I 0, I 0, I (at_ : Int)] ((W5.setCell ⟨G, 1, none⟩ (I ((k : Int) + 1))).setCell ⟨w.heap.size + 1, 0, none⟩ (.int .u8 4))) := Lib.hid (by have h := L6.out.set 0 (.int .u8 4); simpa using h)
          clear L6
          have hh := hp1 _ L7.out.r
          go_wp2_with fail
          clear c1 f1 hG p0 p1 p2 p3 p4 p5 p6 p7 p8 p9 p10 hPl pf0 m0 hMl mf0
          refine hh.mono ?_
          rintro e X101 ⟨rfl, H2, k2⟩
          have L8 := Lib.hid (L7.out.call H2 k2)

          clear hh H2 k2 L7
          obtain ⟨⟨p0, p1, p2, p3, p4, p5, p6, p7, p8, p9, p10⟩, pf, hPl⟩ := it_get L8.out.bp
          have pf4 := pf 4
          have pf5 := pf 5
          have pf6 := pf 6
          clear pf
          have L9 : Hid (LocS w G (w.heap.size + 1) w.heap.size l (some ⟨b1, o1, none⟩) c 42 #[.int .u8 0, .string ⟨#[]⟩, .string ⟨#[]⟩, .slice none 0 0, .string ⟨#[]⟩, I 0, I 0, .string ⟨#[]⟩, I 0, I 0, I 0] s1 #[.int .u8 4, .string ⟨#[]⟩, .string ⟨#[]⟩, .slice none 0 0, .string B1, I 0, I 0, .string ⟨#[]⟩, I 0, I 0, I (at_ : Int)] (X101.setCell ⟨w.heap.size + 1, 4, none⟩ (.string B1))) := Lib.hid (by have h := L8.out.set 4 (.string B1); simpa using h)
          clear L8
          have L10 : Hid (LocS w G (w.heap.size + 1) w.heap.size l (some ⟨b1, o1, none⟩) c 42 #[.int .u8 0, .string ⟨#[]⟩, .string ⟨#[]⟩, .slice none 0 0, .string ⟨#[]⟩, I 0, I 0, .string ⟨#[]⟩, I 0, I 0, I 0] s1 #[.int .u8 4, .string ⟨#[]⟩, .string ⟨#[]⟩, .slice none 0 0, .string B1, I q1, I 0, .string ⟨#[]⟩, I 0, I 0, I (at_ : Int)] ((X101.setCell ⟨w.heap.size + 1, 4, none⟩ (.string B1)).setCell ⟨w.heap.size + 1, 5, none⟩ (I q1))) := Lib.hid (by have h := L9.out.set 5 (I q1); simpa using h)
          clear L9
          have L11 : Hid (LocS w G (w.heap.size + 1) w.heap.size l (some ⟨b1, o1, none⟩) c 42 #[.int .u8 0, .string ⟨#[]⟩, .string ⟨#[]⟩, .slice none 0 0, .string ⟨#[]⟩, I 0, I 0, .string ⟨#[]⟩, I 0, I 0, I 0] s1 #[.int .u8 4, .string ⟨#[]⟩, .string ⟨#[]⟩, .slice none 0 0, .string B1, I q1, I (z1 : Int), .string ⟨#[]⟩, I 0, I 0, I (at_ : Int)] (((X101.setCell ⟨w.heap.size + 1, 4, none⟩ (.string B1)).setCell ⟨w.heap.size + 1, 5, none⟩ (I q1)).setCell ⟨w.heap.size + 1, 6, none⟩ (I (z1 : Int)))) := Lib.hid (by have h := L10.out.set 6 (I (z1 : Int)); simpa using h)
          clear L10
          have hh := hm2 _ L11.out.r
          go_wp2_with fail
          clear p0 p1 p2 p3 p4 p5 p6 p7 p8 p9 p10 hPl pf4 pf5 pf6
          refine hh.mono ?_
          rintro e X102 ⟨rfl, H2, k2⟩
          have L12 := Lib.hid (L11.out.call H2 k2)

          clear hh H2 k2 L11
          obtain ⟨⟨p0, p1, p2, p3, p4, p5, p6, p7, p8, p9, p10⟩, pf, hPl⟩ := it_get L12.out.bp
          clear pf
          have hh := hw3 _ L12.out.r
          go_wp2_with fail
          refine hh.mono ?_
          rintro e X103 ⟨rfl, H2, k2⟩
          have L13 := Lib.hid (L12.out.call H2 k2)

          clear hh H2 k2 L12
          obtain ⟨⟨p0, p1, p2, p3, p4, p5, p6, p7, p8, p9, p10⟩, pf, hPl⟩ := it_get L13.out.bp
          have pf1 := pf 1
          clear pf
          have L14 : Hid (LocS w G (w.heap.size + 1) w.heap.size l (some ⟨b1, o1, none⟩) c 42 #[.int .u8 0, .string ⟨#[]⟩, .string ⟨#[]⟩, .slice none 0 0, .string ⟨#[]⟩, I 0, I 0, .string ⟨#[]⟩, I 0, I 0, I 0] s3 #[.int .u8 4, .string B3, .string ⟨#[]⟩, .slice none 0 0, .string B1, I q1, I (z1 : Int), .string ⟨#[]⟩, I 0, I 0, I (at_ : Int)] (X103.setCell ⟨w.heap.size + 1, 1, none⟩ (.string B3))) := Lib.hid (by have h := L13.out.set 1 (.string B3); simpa using h)
          clear L13
          have hh := hme _ L14.out.r
          go_wp2_with fail
          clear p0 p1 p2 p3 p4 p5 p6 p7 p8 p9 p10 hPl pf1
          refine hh.mono ?_
          rintro e X104 ⟨rfl, H2, k2⟩
          have L15 := Lib.hid (L14.out.call H2 k2)

          clear hh H2 k2 L14
          obtain ⟨⟨p0, p1, p2, p3, p4, p5, p6, p7, p8, p9, p10⟩, pf, hPl⟩ := it_get L15.out.bp
          clear pf
          obtain ⟨⟨r0, r1, r2, r3, r4, r5, r6, r7, r8, r9, r10⟩, rf, hRl⟩ := it_get L15.out.bR
          have rf0 := rf 0
          have rf1 := rf 1
          have rf2 := rf 2
          have rf3 := rf 3
          have rf4 := rf 4
          have rf5 := rf 5
          have rf6 := rf 6
          have rf7 := rf 7
          have rf8 := rf 8
          have rf9 := rf 9
          have rf10 := rf 10
          have hst := it_set11 L15.out.bR (.int .u8 4) (.string B3) (.string ⟨#[]⟩) (.slice none 0 0) (.string B1) (I q1) (I (z1 : Int)) (.string ⟨#[]⟩) (I 0) (I 0) (I (at_ : Int))
          have HD := Lib.hid (And.intro hst.1 (L15.out.done hst.2))

          clear rf hst
          go_wp2_with fail
          have hd := HD.out

          clear HD  r0 r1 r2 r3 r4 r5 r6 r7 r8 r9 r10 rf0 rf1 rf2 rf3 rf4 rf5 rf6 rf7 rf8 rf9 rf10
          generalize (((((((((((X104.setCell ⟨w.heap.size, 0, none⟩ (.int .u8 4)).setCell ⟨w.heap.size, 1, none⟩ (.string B3)).setCell ⟨w.heap.size, 2, none⟩ (.string ⟨#[]⟩)).setCell ⟨w.heap.size, 3, none⟩ (.slice none 0 0)).setCell ⟨w.heap.size, 4, none⟩ (.string B1)).setCell ⟨w.heap.size, 5, none⟩ (I q1)).setCell ⟨w.heap.size, 6, none⟩ (I (z1 : Int))).setCell ⟨w.heap.size, 7, none⟩ (.string ⟨#[]⟩)).setCell ⟨w.heap.size, 8, none⟩ (I 0)).setCell ⟨w.heap.size, 9, none⟩ (I 0)).setCell ⟨w.heap.size, 10, none⟩ (I (at_ : Int))) = Wf at hd ⊢
          obtain ⟨⟨r0, r1, r2, r3, r4, r5, r6, r7, r8, r9, r10⟩, -, -⟩ := it_get hd.1
          refine bodyPost_ret (v := .agg #[.int .u8 4, .string B3, .string ⟨#[]⟩, .slice none 0 0, .string B1, I q1, I (z1 : Int), .string ⟨#[]⟩, I 0, I 0, I (at_ : Int)]) (by simp [results, Tryd.results35, go_sem, r0, r1, r2, r3, r4, r5, r6, r7, r8, r9, r10]) rfl ?_
          rw [HPO.out, HIT.out]
          exact ⟨none, 0, by
            have h := HQ.out
            rw [HBD.out]
            simp only [itA, LIt.mem, plZ, h.2.1, h.2.2]
            (try rfl), by rw [HBD.out]; exact OwnI.nil _ _, by rw [HBD.out]; simp only; rw [HQ.out.1]; exact hd.2.1, hd.2.2⟩
        | false =>
          obtain ⟨s9, hs9⟩ : ∃ r, mustS l 3 [59] (k, false) = r := ⟨_, rfl⟩
          have hbd : bodyS l k = (⟨0, [], [], [], plZ, plZ, at_⟩, (k, false)) := by unfold bodyS; rw [if_neg (by rw [hbA]; simp), if_neg (by rw [hbE]; simp), if_neg (by rw [hbI]; simp), if_neg (by rw [hbO]; simp), HAT.out]
          have hme := fun W (r : RAt W G l (some ⟨b1, o1, none⟩) c (k, false)) => rmust_any W G l _ c (k, false) HE.out r 3 (by decide) ⟨#[59]⟩ [59] rfl
          rw [hs9] at hme
          have HBD := Lib.hid hbd
          have HQ := Lib.hid (And.intro hs9 trivial)
          clear hbd hbE hbA hbI hbO hs9
          obtain ⟨-, c1, c2, -, f2, hG⟩ := L5.out.r.cells
          have hs1 := L5.out.r.set2 false
          have L6 := Lib.hid (L5.out.call hs1.1 hs1.2)
          clear hs1
          have hh := hme _ L6.out.r
          go_wp2_with fail
          refine hh.mono ?_
          rintro e X101 ⟨rfl, H2, k2⟩
          have L7 := Lib.hid (L6.out.call H2 k2)

          clear hh H2 k2 L6
          obtain ⟨⟨p0, p1, p2, p3, p4, p5, p6, p7, p8, p9, p10⟩, pf, hPl⟩ := it_get L7.out.bp
          clear pf
          obtain ⟨⟨r0, r1, r2, r3, r4, r5, r6, r7, r8, r9, r10⟩, rf, hRl⟩ := it_get L7.out.bR
          have rf0 := rf 0
          have rf1 := rf 1
          have rf2 := rf 2
          have rf3 := rf 3
          have rf4 := rf 4
          have rf5 := rf 5
          have rf6 := rf 6
          have rf7 := rf 7
          have rf8 := rf 8
          have rf9 := rf 9
          have rf10 := rf 10
          have hst := it_set11 L7.out.bR (.int .u8 0) (.string ⟨#[]⟩) (.string ⟨#[]⟩) (.slice none 0 0) (.string ⟨#[]⟩) (I 0) (I 0) (.string ⟨#[]⟩) (I 0) (I 0) (I (at_ : Int))
          have HD := Lib.hid (And.intro hst.1 (L7.out.done hst.2))

          clear rf hst
          go_wp2_with fail
          have hd := HD.out

          clear HD  r0 r1 r2 r3 r4 r5 r6 r7 r8 r9 r10 rf0 rf1 rf2 rf3 rf4 rf5 rf6 rf7 rf8 rf9 rf10
          generalize (((((((((((X101.setCell ⟨w.heap.size, 0, none⟩ (.int .u8 0)).setCell ⟨w.heap.size, 1, none⟩ (.string ⟨#[]⟩)).setCell ⟨w.heap.size, 2, none⟩ (.string ⟨#[]⟩)).setCell ⟨w.heap.size, 3, none⟩ (.slice none 0 0)).setCell ⟨w.heap.size, 4, none⟩ (.string ⟨#[]⟩)).setCell ⟨w.heap.size, 5, none⟩ (I 0)).setCell ⟨w.heap.size, 6, none⟩ (I 0)).setCell ⟨w.heap.size, 7, none⟩ (.string ⟨#[]⟩)).setCell ⟨w.heap.size, 8, none⟩ (I 0)).setCell ⟨w.heap.size, 9, none⟩ (I 0)).setCell ⟨w.heap.size, 10, none⟩ (I (at_ : Int))) = Wf at hd ⊢
          obtain ⟨⟨r0, r1, r2, r3, r4, r5, r6, r7, r8, r9, r10⟩, -, -⟩ := it_get hd.1
          refine bodyPost_ret (v := .agg #[.int .u8 0, .string ⟨#[]⟩, .string ⟨#[]⟩, .slice none 0 0, .string ⟨#[]⟩, I 0, I 0, .string ⟨#[]⟩, I 0, I 0, I (at_ : Int)]) (by simp [results, Tryd.results35, go_sem, r0, r1, r2, r3, r4, r5, r6, r7, r8, r9, r10]) rfl ?_
          rw [HPO.out, HIT.out]
          exact ⟨none, 0, by
            have h := HQ.out
            rw [HBD.out]
            simp only [itA, LIt.mem, plZ]
            (try rfl), by rw [HBD.out]; exact OwnI.nil _ _, by rw [HBD.out]; simp only; rw [HQ.out.1]; exact hd.2.1, hd.2.2⟩
end Go.Proofs.YtohalcbhckahmaaDoor
namespace Go.Proofs.YtohalcbhckahmaaDoor
open Go Go.RowKit Go.Joins
set_option linter.all false

def preP (l : List LTok) : PR (List UInt8) := (mustP 1 graphW l 0).bind fun _ k1 => (wordP l k1).bind fun n k2 => (mustP 3 [123] l k2).bind fun _ k3 => .good n k3
def preS (l : List LTok) : List UInt8 × RS := let r2 := wordS l (mustS l 1 graphW (0, true)); (r2.1, mustS l 3 [123] r2.2)
theorem pre_sim (l : List LTok) : Sim (preS l) (preP l) := by
  unfold preS preP
  cases h1 : mustP 1 graphW l 0 with
  | bad j => simp only [mustS_bad h1, wordS_dead, mustS_dead, PR.bind_bad]; rfl
  | good u k1 =>
    cases h2 : wordP l k1 with
    | bad j => simp only [mustS_good h1, wordS_bad h2, mustS_dead, PR.bind_good, h2, PR.bind_bad]; rfl
    | good n k2 =>
      cases h3 : mustP 3 [123] l k2 with
      | bad j => simp only [mustS_good h1, wordS_good h2, mustS_bad h3, PR.bind_good, h2, h3, PR.bind_bad]; rfl
      | good u3 k3 => simp only [mustS_good h1, wordS_good h2, mustS_good h3, PR.bind_good, h2, h3]; rfl
theorem parseP_pre (l : List LTok) : parseP l = (preP l).bind fun n k3 => (itemsP l.length l k3).bind fun xs k4 => (mustP 3 [125] l k4).bind fun _ k5 => (takeP 0 l k5).bind fun _ k6 => .good ⟨n, xs⟩ k6 := by
  unfold parseP preP wordP
  simp only [PR.bind_assoc, PR.bind_good]
/-- What the loop of items leaves. -/
def LoopEnd (l : List LTok) (s3 : RS) (acc : List LIt) (s4 : RS) : Prop :=
  (s3.2 = false → s4 = s3) ∧ (s3.2 = true → (s4.2 = true → itemsP l.length l s3.1 = .good acc s4.1) ∧ (s4.2 = false → itemsP l.length l s3.1 = .bad s4.1))
theorem parse_end {l : List LTok} {n : List UInt8} {s3 s4 : RS} {acc : List LIt} (h1 : preS l = (n, s3)) (h2 : LoopEnd l s3 acc s4) {t : LTok} (ht : l[(mustS l 3 [125] s4).1]? = some t) :
    ((mustS l 3 [125] s4).2 = true ∧ t.sort = 0 → ∃ m, parseP l = .good ⟨n, acc⟩ m) ∧ (¬ ((mustS l 3 [125] s4).2 = true ∧ t.sort = 0) → parseP l = .bad (mustS l 3 [125] s4).1) := by
  have hp := pre_sim l
  rw [h1] at hp
  rw [parseP_pre]
  obtain ⟨k3, o3⟩ := s3
  obtain ⟨k4, o4⟩ := s4
  cases hpre : preP l with
  | bad j =>
    rw [hpre] at hp
    have e3 : (k3, o3) = (j, false) := hp
    cases e3
    have e4 := h2.1 rfl
    cases e4
    refine ⟨fun h => ?_, fun _ => by rw [PR.bind_bad]; rfl⟩
    have := h.1
    rw [mustS_dead] at this; cases this
  | good n' k3' =>
    rw [hpre] at hp
    have e3 : (n, (k3, o3)) = (n', (k3', true)) := hp
    cases e3
    obtain ⟨ha, hb⟩ := h2.2 rfl
    cases o4 with
    | false =>
      refine ⟨fun h => ?_, fun _ => ?_⟩
      · have := h.1
        rw [mustS_dead] at this; cases this
      · rw [PR.bind_good, hb rfl, PR.bind_bad]; rfl
    | true =>
      have hi := ha rfl
      simp only at hi
      cases hm : mustP 3 [125] l k4 with
      | bad j =>
        have e5 := mustS_bad hm
        rw [e5] at ht ⊢
        refine ⟨fun h => absurd h.1 (by simp), fun _ => ?_⟩
        rw [PR.bind_good, hi, PR.bind_good, hm, PR.bind_bad]
      | good u k5 =>
        have e5 := mustS_good hm
        rw [e5] at ht ⊢
        have htk := takeP_some (so := 0) ht
        refine ⟨fun h => ⟨_, by rw [PR.bind_good, hi, PR.bind_good, hm, PR.bind_good, htk, if_pos h.2, PR.bind_good]⟩, fun h => ?_⟩
        have hs : ¬ t.sort = 0 := fun e => h ⟨rfl, e⟩
        rw [PR.bind_good, hi, PR.bind_good, hm, PR.bind_good, htk, if_neg hs, PR.bind_bad]
/-- How far Parse has come. -/
structure DsS (w : World) (G M S : Nat) (l : List LTok) (a : Option Addr) (c : Nat) (st : RS) (s : Sk) (acc : List LIt) (wr : World) : Prop where
  p : RAt wr G l a c st
  sk : SkB wr M S s
  f2 : wr.heap[w.heap.size]? = some (.cells #[.string ⟨#[]⟩, .slice none 0 0] 24 (0, 0))
  f3 : wr.heap[w.heap.size + 1]? = some (.cells #[I 0, I 0] 27 (0, 0))
  it : s.items.map SIt.bare = acc.map fun x => x.mem none 0
  nw : New w wr
  hM : M ≤ wr.heap.size
  g1 : w.heap.size + 2 ≤ S
  g2 : S < G
  g3 : G < M
  ha : ∀ g, blk a g → w.heap.size + 2 ≤ g ∧ g < S
section
variable {w : World} {G M S : Nat} {l : List LTok} {a : Option Addr} {c : Nat} {st : RS} {s : Sk} {acc : List LIt} {wr w' : World}
theorem DsS.new (h : DsS w G M S l a c st s acc wr) (n : New wr w') : DsS w G M S l a c st s acc w' :=
  ⟨h.p.new n, h.sk.new n, Keeps.heap n h.f2 (fun h => h), Keeps.heap n h.f3 (fun h => h), h.it, h.nw.trans n, Nat.le_trans h.hM n.size, h.g1, h.g2, h.g3, h.ha⟩
theorem DsS.call {st' : RS} (h : DsS w G M S l a c st s acc wr) (hp : RAt w' G l a c st') (hk : KR G wr w') : DsS w G M S l a c st' s acc w' := by
  have g1 := h.g1
  have g2 := h.g2
  exact ⟨hp, ⟨hk.heap h.sk.blkP (by omega), h.sk.own.oth hk (fun g hg => ⟨_, _, _, hg ▸ h.p.bk, by decide, by decide⟩)⟩, hk.heap h.f2 (by omega), hk.heap h.f3 (by omega), h.it, h.nw.keeps hk (fun i hi e => by omega), Nat.le_trans h.hM hk.size, h.g1, h.g2, h.g3, h.ha⟩
theorem DsS.name (h : DsS w G M S l a c st s acc wr) (v : ByteArray) : DsS w G M S l a c st { s with name := v } acc (wr.setCell ⟨S, 0, none⟩ (.string v)) := by
  have ks : Keeps (fun b => b = S) wr (wr.setCell ⟨S, 0, none⟩ (.string v)) := Keeps.setCell wr _ _ rfl
  have g1 := h.g1
  have g2 := h.g2
  have hb := block_setCell (i := 0) h.sk.blkP (.string v)
  exact ⟨h.p.keeps ks (by omega) (fun g hg e => by have := h.ha g hg; omega), ⟨by rw [hb]; simp, have := h.sk.own.oth ks (fun g hg => ⟨_, _, _, hg ▸ h.sk.blkP, by decide, by decide⟩); ⟨this.io, this.nx, this.ap⟩⟩, ks.heap h.f2 (by omega), ks.heap h.f3 (by omega), h.it, h.nw.keeps ks (fun i hi e => by omega), Nat.le_trans h.hM ks.size, h.g1, h.g2, h.g3, h.ha⟩
/-- One item more. -/
theorem DsS.add {w2 w3 : World} (h : DsS w G M S l a c st s acc wr) {st' : RS} (hp : RAt w2 G l a c st') (kG : KR G wr w2) (x : LIt) {ao : Option Addr} {co : Nat} (hx : OwnI w2 wr.heap.size ao co x.xs)
    {w1 : World} (kl : New w2 w1) {a' : Option Addr} {c' : Nat} (ho : w3.ownsRow M ItT 11 (.slice a' (s.items.length + 1) c') (s.items.length + 1) (s.items.flatMap itCells ++ itCells (x.mem ao co))) (hk : Keeps (blk s.ia) w1 w3) :
    (w3.cell? ⟨S, 1, none⟩ = some (.slice s.ia s.items.length s.ic) ∧ w3.frozen? ⟨S, 1, none⟩ = false ∧ S < w3.heap.size) ∧
    DsS w G M S l a c st' { s with ia := a', ic := c', items := s.items ++ [x.mem ao co] } (acc ++ [x]) (w3.setCell ⟨S, 1, none⟩ (.slice a' (s.items.length + 1) c')) := by
  have h2 := h.call hp kG
  have hM2 := h.hM
  have g1 := h.g1
  have g2 := h.g2
  have g3 := h.g3
  have h3 : SkB w2 M S s := h2.sk
  have hx2 : OwnI w1 M (x.mem ao co).a (x.mem ao co).c (x.mem ao co).xs := OwnI.base (kl.owns hx) hM2
  have hsb : ∀ g, blk s.ia g → M ≤ g ∧ g < w2.heap.size := fun g hg => own_of_blk h3.own.io hg
  have hlit : ∀ g, blk (x.mem ao co).a g → wr.heap.size ≤ g := fun g hg => (own_of_blk hx hg).1
  have hd : ∀ g, blk (x.mem ao co).a g → ∀ y ∈ s.items, ¬ blk y.a g := fun g hg y hy hb => by
    have h1 := (own_of_blk (h.sk.own.nx y hy) hb).2
    have h4 := hlit g hg
    omega
  have htag : ∀ g, blk s.ia g → ∃ cur, w1.heap[g]? = some (.cells cur ItT (0, 0)) := fun g hg => tab_tag (kl.owns h3.own.io) (own_blk hg)
  have hto : ∀ e : TypeId, ItT ≠ e → ∀ g, blk s.ia g → ∃ cur t fr, w1.heap[g]? = some (.cells cur t fr) ∧ t ≠ e := fun e he g hg => by
    obtain ⟨cur, hc⟩ := htag g hg; exact ⟨cur, _, _, hc, he⟩
  have hP1 := Keeps.heap kl h3.blkP (fun h => h)
  have hP3 := hk.heap hP1 (fun hb => by have := hsb _ hb; omega)
  have hP4 := block_setCell (i := 1) hP3 (.slice a' (s.items.length + 1) c')
  have hks : Keeps (fun k => k = S) w3 (w3.setCell ⟨S, 1, none⟩ (.slice a' (s.items.length + 1) c')) := Keeps.setCell w3 _ _ rfl
  have htP : ∀ e : TypeId, 24 ≠ e → ∀ g, g = S → ∃ cur t fr, w3.heap[g]? = some (.cells cur t fr) ∧ t ≠ e := fun e he g hg => ⟨_, _, _, hg ▸ hP3, he⟩
  refine ⟨⟨?_, unfrozen_of_block hP3 1, (Array.getElem?_eq_some_iff.1 hP3).1⟩, ?_, ⟨?_, ?_, ?_, ?_⟩, ?_, ?_, ?_, ?_, ?_, h.g1, h.g2, h.g3, h.ha⟩
  · rw [cell_of_block hP3 1]; rfl
  · exact ((hp.new kl).keeps hk (fun hb => by have := hsb _ hb; omega) (fun g hg hb => by have h5 := hsb _ hb; have h6 := h.ha g hg; omega)).keeps hks (by omega) (fun g hg e => by have h6 := h.ha g hg; omega)
  · rw [hP4]; simp
  · have := own_oth ho hks (htP _ (by decide))
    simpa using this
  · intro y hy
    rcases List.mem_append.1 hy with hy | hy
    · exact own_oth (own_oth (kl.owns (h3.own.nx y hy)) hk (hto _ (by decide))) hks (htP _ (by decide))
    · rw [List.mem_singleton.1 hy]; exact own_oth (own_oth hx2 hk (hto _ (by decide))) hks (htP _ (by decide))
  · simp only [List.map_append, List.map_cons, List.map_nil]
    rw [List.pairwise_append]
    refine ⟨h.sk.own.ap, List.pairwise_singleton _ _, fun b hb c hc => ?_⟩
    rw [List.mem_singleton.1 hc]
    intro k hk1 hk2
    obtain ⟨y, hy, rfl⟩ := List.mem_map.1 hb
    exact hd k hk2 y hy hk1
  · exact hks.heap (hk.heap (Keeps.heap kl h2.f2 (fun h => h)) (fun hb => by have := hsb _ hb; omega)) (by omega)
  · exact hks.heap (hk.heap (Keeps.heap kl h2.f3 (fun h => h)) (fun hb => by have := hsb _ hb; omega)) (by omega)
  · show (s.items ++ [x.mem ao co]).map SIt.bare = (acc ++ [x]).map _
    rw [List.map_append, List.map_append, h.it]; rfl
  · exact ((h2.nw.trans kl).keeps hk (fun i hi hb => by have := hsb _ hb; have := h.nw.size; omega)).keeps hks (fun i hi e => by omega)
  · have a1 := kG.size
    have a2 := kl.size
    have a3 := hk.size
    have a4 := hks.size
    omega
end
theorem rparse_cut {l : List LTok} {k3 k' : Nat} {acc : List LIt} {f : Nat} (hl : acc.length + (f + 1) = l.length) (hI : ∀ f, itemsP (acc.length + f) l k3 = (itemsP f l k').bind fun xs m => .good (acc ++ xs) m) :
    (lookP 3 [125] l k' = true → itemsP l.length l k3 = .good acc k') ∧ (lookP 3 [125] l k' = false → ∀ j, itemP l k' = .bad j → itemsP l.length l k3 = .bad j) ∧
    (lookP 3 [125] l k' = false → ∀ x m, itemP l k' = .good x m → ∀ f, itemsP ((acc ++ [x]).length + f) l k3 = (itemsP f l m).bind fun xs n => .good ((acc ++ [x]) ++ xs) n) := by
  refine ⟨fun h => ?_, fun h j hj => ?_, fun h x m hx f' => ?_⟩
  · rw [← hl, hI (f + 1), itemsP, if_pos h, PR.bind_good, List.append_nil]
  · rw [← hl, hI (f + 1), itemsP, if_neg (by rw [h]; simp), hj, PR.bind_bad, PR.bind_bad]
  · have e : (acc ++ [x]).length + f' = acc.length + (f' + 1) := by simp; omega
    rw [e, hI (f' + 1), itemsP, if_neg (by rw [h]; simp), hx, PR.bind_good, PR.bind_assoc]
    congr 1; funext xs n
    rw [PR.bind_good]; simp
def LInv (l : List LTok) (s3 st : RS) (acc : List LIt) : Prop :=
  (st.2 = true → s3.2 = true ∧ acc.length + s3.1 ≤ st.1 ∧ ∀ f, itemsP (acc.length + f) l s3.1 = (itemsP f l st.1).bind fun xs m => .good (acc ++ xs) m) ∧ (st.2 = false → (s3.2 = false → st = s3) ∧ (s3.2 = true → itemsP l.length l s3.1 = .bad st.1))
theorem LInv.start (l : List LTok) (s3 : RS) : LInv l s3 s3 [] := by
  refine ⟨fun h => ⟨h, by simp, fun f => ?_⟩, fun h => ⟨fun _ => rfl, fun h2 => by rw [h] at h2; cases h2⟩⟩
  simp only [List.length_nil, Nat.zero_add, List.nil_append]
  cases itemsP f l s3.1 <;> rfl
theorem LInv.dead {l : List LTok} {s3 st : RS} {acc : List LIt} (h : LInv l s3 st acc) (hd : st.2 = false) : LoopEnd l s3 acc st :=
  ⟨fun h3 => (h.2 hd).1 h3, fun h3 => ⟨fun h4 => (by rw [hd] at h4; cases h4), fun _ => (h.2 hd).2 h3⟩⟩
theorem LInv.stop {l : List LTok} {s3 : RS} {k : Nat} {acc : List LIt} (h : LInv l s3 (k, true) acc) (hk : k < l.length) (hl : lookP 3 [125] l k = true) : LoopEnd l s3 acc (k, true) := by
  obtain ⟨h3, hle, hI⟩ := h.1 rfl
  simp only at hle
  refine ⟨fun h4 => (by rw [h3] at h4; cases h4), fun _ => ⟨fun _ => ?_, fun h4 => by cases h4⟩⟩
  exact (rparse_cut (f := l.length - acc.length - 1) (by omega) hI).1 hl
theorem LInv.step {l : List LTok} {s3 : RS} {k : Nat} {acc : List LIt} (he : Ends l) (h : LInv l s3 (k, true) acc) (hk : k < l.length) (hl : lookP 3 [125] l k = false) : LInv l s3 (itemS l k).2 (acc ++ [(itemS l k).1]) := by
  obtain ⟨h3, hle, hI⟩ := h.1 rfl
  simp only at hle
  obtain ⟨-, hb, hg⟩ := rparse_cut (f := l.length - acc.length - 1) (by omega) hI
  have hs := item_sim l k hk
  cases hp : itemP l k with
  | bad j =>
    rw [hp] at hs
    have e : (itemS l k).2 = (j, false) := hs
    rw [e]
    exact ⟨fun h => (by cases h), fun _ => ⟨fun h4 => (by rw [h3] at h4; cases h4), fun _ => hb hl j hp⟩⟩
  | good x m =>
    rw [hp] at hs
    have e : itemS l k = (x, (m, true)) := hs
    have hkm := (he.item hp).2
    rw [e]
    exact ⟨fun _ => ⟨h3, (by simp; omega), hg hl x m hp⟩, fun h => (by cases h)⟩
theorem item_bad_ge {l : List LTok} {k j : Nat} (hk : k < l.length) (h : itemP l k = .bad j) : k ≤ j := by
  have hg := List.getElem?_eq_getElem hk
  have hag : Agree k l l := ⟨fun i hi => ⟨l[i], l[i], List.getElem?_eq_getElem (by omega), List.getElem?_eq_getElem (by omega), rfl, rfl, rfl⟩, l[k], hg, .inr ⟨l[k], hg, rfl, rfl, rfl⟩⟩
  have hd := hag.item k
  rw [h] at hd
  exact hd.1
def okOf (w : World) (G : Nat) : Nat := match w.cell? ⟨G, 2, none⟩ with
  | some (.bool true) => 1
  | _ => 0
theorem okOf_eq {w : World} {G : Nat} {l : List LTok} {a : Option Addr} {c : Nat} {s : RS} (h : RAt w G l a c s) : okOf w G = if s.2 then 1 else 0 := by
  unfold okOf; rw [h.cells.2.2.1]; cases s.2 <;> rfl
theorem atOf_req {w : World} {G : Nat} {l : List LTok} {a : Option Addr} {c : Nat} {s : RS} (h : RAt w G l a c s) : atOf w G = s.1 := by
  unfold atOf; rw [h.cells.2.1]; exact Int.toNat_natCast _
theorem dss_start {w Wf : World} {l : List LTok} {a : Option Addr} {c S G : Nat} (hS : Wf.heap.size = S) (hG : S + 1 = G) (hN : New w Wf) (hb : Wf.heap[w.heap.size]? = some (.cells #[.string ⟨#[]⟩, .slice none 0 0] 24 (0, 0)) ∧ Wf.heap[w.heap.size + 1]? = some (.cells #[I 0, I 0] 27 (0, 0))) (hsl : SlAt Wf a (l.flatMap tokCells)) (hab : ∀ g, blk a g → w.heap.size + 2 ≤ g ∧ g < S) (hl : l.length ≤ 2000000) (h0 : 0 < l.length) (hw : w.heap.size + 2 ≤ S) :
    DsS w G (G + 1) S l a c (0, true) ⟨⟨#[]⟩, none, 0, []⟩ [] ((Wf.alloc (.cells #[.string ⟨#[]⟩, .slice none 0 0] 24)).alloc (.cells #[.slice a l.length c, I ((0 : Nat) : Int), .bool true] 63)) := by
  subst hS hG
  have hz : (Wf.alloc (.cells #[.string ⟨#[]⟩, .slice none 0 0] 24)).heap.size = Wf.heap.size + 1 := by simp
  have n1 : New Wf (Wf.alloc (.cells #[.string ⟨#[]⟩, .slice none 0 0] 24)) := (New.refl _).alloc _
  have n2 : New (Wf.alloc (.cells #[.string ⟨#[]⟩, .slice none 0 0] 24)) ((Wf.alloc (.cells #[.string ⟨#[]⟩, .slice none 0 0] 24)).alloc (.cells #[.slice a l.length c, I ((0 : Nat) : Int), .bool true] 63)) := (New.refl _).alloc _
  have hb2 := heap_alloc_new (Wf.alloc (.cells #[.string ⟨#[]⟩, .slice none 0 0] 24)) (.cells #[.slice a l.length c, I ((0 : Nat) : Int), .bool true] 63)
  rw [hz] at hb2
  refine ⟨⟨hb2, hsl.new (n1.trans n2), fun h => by have := hab _ h; omega, hl, h0⟩, ⟨Keeps.heap n2 (heap_alloc_new Wf _) (fun h => h), World.ownsRow_nil _ _ _ _, (fun x hx => by cases hx), List.Pairwise.nil⟩, Keeps.heap (n1.trans n2) hb.1 (fun h => h), Keeps.heap (n1.trans n2) hb.2 (fun h => h), rfl, hN.trans (n1.trans n2), by simp, hw, by omega, by omega, fun g hg => hab g hg⟩
/-- What the document's Parse hands out. -/
def RParsed (w : World) (res : Except (Int × Nat) LSk) (e : Ending) (w' : World) : Prop := match res with
  | .error (c, a) => e = .returned (.tuple #[.agg #[.string ⟨#[]⟩, .slice none 0 0], .agg #[I c, I (a : Int)]]) ∧ New w w'
  | .ok x => ∃ s : Sk, s.bare = x.mem ∧ e = .returned (.tuple #[s.v, .agg #[I 0, I 0]]) ∧ SkAt w' s ∧ New w w'
set_option maxRecDepth 100000 in
set_option maxHeartbeats 32000000 in
theorem rparse_any (w : World) (s : ByteArray) (hs : s.size ≤ 9223372036854775807) :
    Calls Tryd.prog 12 #[.string s] w (RParsed w (parseA s.data.toList)) := by
  obtain ⟨i0, hi, hz0, hz1, hz2⟩ := info_parts infoItem
  have hz : (w.alloc (.cells #[.string ⟨#[]⟩, .slice none 0 0] 24)).heap.size = w.heap.size + 1 := by simp
  have n0 : New w ((w.alloc (.cells #[.string ⟨#[]⟩, .slice none 0 0] 24)).alloc (.cells #[I 0, I 0] 27)) := ((New.refl w).alloc _).alloc _
  have hb2 : ((w.alloc (.cells #[.string ⟨#[]⟩, .slice none 0 0] 24)).alloc (.cells #[I 0, I 0] 27)).heap[w.heap.size]? = some (.cells #[.string ⟨#[]⟩, .slice none 0 0] 24 (0, 0)) := Keeps.heap (Keeps.alloc (S := fun _ => False) _ _) (heap_alloc_new w _) (fun h => h)
  have hb3 : ((w.alloc (.cells #[.string ⟨#[]⟩, .slice none 0 0] 24)).alloc (.cells #[I 0, I 0] 27)).heap[w.heap.size + 1]? = some (.cells #[I 0, I 0] 27 (0, 0)) := by
    have := heap_alloc_new (w.alloc (.cells #[.string ⟨#[]⟩, .slice none 0 0] 24)) (.cells #[I 0, I 0] 27); rwa [hz] at this
  have hz2' : ((w.alloc (.cells #[.string ⟨#[]⟩, .slice none 0 0] 24)).alloc (.cells #[I 0, I 0] 27)).heap.size = w.heap.size + 1 + 1 := by simp
  have hall := rall_any ((w.alloc (.cells #[.string ⟨#[]⟩, .slice none 0 0] 24)).alloc (.cells #[I 0, I 0] 27)) s hs
  obtain ⟨⟨l, c, k⟩, hA⟩ : ∃ r, lexA s.data.toList = r := ⟨_, rfl⟩
  obtain ⟨PO, hPO⟩ : ∃ PO : Ending → World → Prop, PO = RParsed w (parseA s.data.toList) := ⟨_, rfl⟩
  rw [← hPO]
  have HPO := Lib.hid hPO
  have HB := Lib.hid (And.intro hb2 hb3)
  have HN0 := Lib.hid n0
  have HZ2 := Lib.hid hz2'
  have HAA := Lib.hid hA
  clear hPO hb2 hb3 n0 hz hz2'
  go_enter Tryd.func12, Tryd.ntmps12
  go_wp2_with fail
  generalize ((w.alloc (.cells #[.string ⟨#[]⟩, .slice none 0 0] 24)).alloc (.cells #[I 0, I 0] 27)) = W at *
  refine hall.mono ?_
  rintro e w1 ⟨a, cc, rfl, n1, hown⟩
  rw [HAA.out] at hown ⊢
  simp only at hown ⊢
  have n1' := HN0.out.trans n1
  have nf : New w1 (w1.alloc (.cells #[I c, I (k : Int)] 27)) := (New.refl _).alloc _
  obtain ⟨f0, f1, -, -, fl⟩ := sk_get (heap_alloc_new w1 (.cells #[I c, I (k : Int)] 27))
  have HN1 := Lib.hid (n1'.trans nf)
  have HBB := Lib.hid (And.intro (Keeps.heap (n1.trans nf) HB.out.1 (fun h => h)) (Keeps.heap (n1.trans nf) HB.out.2 (fun h => h)))
  have HSL := Lib.hid ((SlAt.of_owns hown).new nf)
  have hab : ∀ g, blk a g → w.heap.size + 2 ≤ g ∧ g < w1.heap.size := fun g hg => by have := own_of_blk hown hg; have := HZ2.out; omega
  have HAB := Lib.hid hab
  have hw1s : w.heap.size + 2 ≤ w1.heap.size := by have := n1.size; have := HZ2.out; omega
  clear hall hown n1 n1' nf hab HB HN0
  by_cases hc : c = 0
  · have hk0 : k = 0 := by rcases lexA_code HAA.out with ⟨_, e, _⟩ | ⟨⟨e, _⟩ | ⟨e, _⟩, _⟩ <;> omega
    subst hc hk0
    have hE := lexA_ends HAA.out
    have hlen2 : l.length ≤ 2000000 := by have := (lexA_count (l := s.data.toList)).1; rw [HAA.out] at this; simp only at this; omega
    have hl0 : 0 < l.length := List.length_pos_iff.2 hE.1
    have HPP : Hid (parseA s.data.toList = match parseP l with | .good x _ => .ok x | .bad j => .error (50, atT l j)) := Lib.hid (parseA_lex HAA.out)
    obtain ⟨Sb, hSb⟩ : ∃ b, w1.heap.size + 1 = b := ⟨_, rfl⟩
    obtain ⟨G, hG⟩ : ∃ b, Sb + 1 = b := ⟨_, rfl⟩
    obtain ⟨r0, hr0⟩ : ∃ r, mustS l 1 graphW (0, true) = r := ⟨_, rfl⟩
    obtain ⟨r2, hr2⟩ : ∃ r, wordS l r0 = r := ⟨_, rfl⟩
    obtain ⟨nm, s2⟩ := r2
    obtain ⟨s3, hs3⟩ : ∃ r, mustS l 3 [123] s2 = r := ⟨_, rfl⟩
    have hpre : preS l = (nm, s3) := by unfold preS; simp only [hr0, hr2, hs3]
    have hmu := fun W (r : RAt W G l a cc (0, true)) => rmust_any W _ l a cc (0, true) hE r 1 (by decide) ⟨#[103, 114, 97, 112, 104]⟩ graphW rfl
    rw [hr0] at hmu
    have hwo := fun W (r : RAt W G l a cc r0) => rword_any W _ l a cc r0 hE r
    rw [hr2] at hwo
    have hm3 := fun W (r : RAt W G l a cc s2) => rmust_any W _ l a cc s2 hE r 3 (by decide) ⟨#[123]⟩ [123] rfl
    rw [hs3] at hm3
    obtain ⟨NB, hNB⟩ : ∃ S : ByteArray, (⟨nm.toArray⟩ : ByteArray) = S := ⟨_, rfl⟩
    simp only [hNB] at hwo
    have HNB := Lib.hid hNB
    have HPRE := Lib.hid hpre
    have HEE := Lib.hid hE
    clear hpre hNB hr0 hr2 hs3
    go_upto_region 4 with (fail)
    obtain ⟨Wf, hWf⟩ : ∃ x, x = w1.alloc (.cells #[I 0, I 0] 27) := ⟨_, rfl⟩
    have hfz : Wf.heap.size = Sb := by rw [hWf, ← hSb]; simp
    have e0 : (w1.alloc (.cells #[I 0, I ((0 : Nat) : Int)] 27)) = Wf := hWf.symm
    rw [e0] at HN1 HBB HSL f0 f1 fl
    (try rw [e0])
    (try rw [← hWf])
    clear hWf e0
    have HD0 := Lib.hid (dss_start (c := cc) hfz hG HN1.out HBB.out HSL.out (fun g hg => by have := HAB.out g hg; omega) hlen2 hl0 (by omega))
    have hh := hmu _ HD0.out.p
    clear hmu f0 f1 fl HSL HBB HN1 HAB hw1s
    go_wp2_with fail
    (try rw [hSb])
    (try simp only [hSb])
    (try rw [hG])
    (try simp only [hG])
    refine hh.mono ?_
    rintro e w3 ⟨rfl, H3, k3⟩
    have HD1 := Lib.hid (HD0.out.call H3 k3)
    have hh2 := hwo _ HD1.out.p
    clear hh HD0 H3 k3 hwo hfz
    go_wp2_with fail
    refine hh2.mono ?_
    rintro e w4 ⟨rfl, H3, k3⟩
    have HD2 := Lib.hid (HD1.out.call H3 k3)
    obtain ⟨p0, p1, pf0, pf1, hPl⟩ := sk_get HD2.out.sk.blkP
    have HD3 := Lib.hid (HD2.out.name NB)
    have hh3 := hm3 _ HD3.out.p
    clear hh2 HD1 H3 k3 HD2 hm3
    go_wp2_with fail
    refine hh3.mono ?_
    rintro e w5 ⟨rfl, H3, k3⟩
    have HD4 := Lib.hid (HD3.out.call H3 k3)
    clear hh3 HD3 H3 k3 p0 p1 pf0 pf1 hPl
    go_wp2_with fail
    go_loopw [] (fun wr => ∃ (st : RS) (s' : Sk) (acc : List LIt), Hid (DsS w G (G + 1) Sb l a cc st s' acc wr) ∧ Hid (s'.name = NB) ∧ Hid (LInv l s3 st acc) ∧ s'.items.length ≤ l.length) (fun wr => 2 * (l.length - atOf wr G) + okOf wr G)
    case atStart => exact ⟨s3, _, [], HD4, Lib.hid rfl, Lib.hid (LInv.start l s3), by simp⟩
    case round =>
      clear HD4
      obtain ⟨st, s', acc, HD, HNM, HL, hil⟩ := hrel
      obtain ⟨k, ok⟩ := st
      obtain ⟨c0, c1, c2, -, -, hGl⟩ := HD.out.p.cells
      simp only at c1 c2
      cases ok with
      | false =>
        have HLE := Lib.hid (HL.out.dead rfl)
        go_wp2_with fail
        clear c0 c1 c2 hGl
        obtain ⟨s5, hs5⟩ : ∃ r, mustS l 3 [125] (k, false) = r := ⟨_, rfl⟩
        have hm5 := fun W (r : RAt W G l a cc (k, false)) => rmust_any W G l a cc (k, false) HEE.out r 3 (by decide) ⟨#[125]⟩ [125] rfl
        rw [hs5] at hm5
        have hh5 := hm5 _ HD.out.p
        clear hm5
        refine hh5.mono ?_
        rintro e w8 ⟨rfl, H8, k8⟩
        have HD8 := Lib.hid (HD.out.call H8 k8)
        clear hh5 H8 k8 HD
        obtain ⟨k5, o5⟩ := s5
        obtain ⟨t5, ht5, b5, of5, e5, q0, q1, q2, q3⟩ := HD8.out.p.tok
        have hpe := parse_end HPRE.out HLE.out (t := t5) (by rw [hs5]; exact ht5)
        rw [hs5] at hpe
        simp only at ht5 q0 q1 q2 q3 hpe
        obtain ⟨c0, c1, c2, -, -, hGl⟩ := HD8.out.p.cells
        simp only at c1 c2
        have hb5 := World.block_lt_of_cell? _ _ q0
        have hlt5 := HD8.out.p.lt
        have hle5 := HD8.out.p.le
        simp only at hlt5
        obtain ⟨n5, hn5⟩ : ∃ n, l.length = n := ⟨_, rfl⟩
        rw [hn5] at c0 hlt5 hle5
        have hkI5 : (k5 : Int) < (n5 : Int) := by omega
        have hat5 : atT l k5 = t5.at_ := by unfold atT; rw [ht5]; rfl
        have HPE := Lib.hid hpe
        have HAT5 := Lib.hid hat5
        have HE5 := Lib.hid e5
        rw [e5] at c0
        obtain ⟨so5, tx5, nu5, at5⟩ := t5
        obtain ⟨TX5, hTX5⟩ : ∃ T : ByteArray, (⟨tx5.toArray⟩ : ByteArray) = T := ⟨_, rfl⟩
        simp only [hTX5] at q0 q1 q2 q3
        obtain ⟨x0, x1, xf0, xf1, hXl⟩ := sk_get HD8.out.f2
        obtain ⟨y0, y1, yf0, yf1, hYl⟩ := sk_get HD8.out.f3
        obtain ⟨g0, g1, -, -, hSl⟩ := sk_get HD8.out.sk.blkP
        have hx2 := sk_setB HD8.out.f2
        have hx3 := sk_setB HD8.out.f3
        have HX := Lib.hid (And.intro hx2 hx3)
        have hnSY : w.heap.size + 1 ≠ w.heap.size := by omega
        clear hpe hat5 hTX5 hx2 hx3 ht5 e5 hn5 hs5 HLE hil
        cases o5 with
        | false =>
          have hpm := HPE.out.2 (fun h => absurd h.1 (by simp))
          have HPM := Lib.hid hpm
          clear hpm
          go_wp2_with fail
          have hS0 : (fun w' : World => w'.cell? ⟨G, 0, none⟩ = some (.slice (some ⟨b5, of5, none⟩) n5 cc) ∧ w'.cell? ⟨G, 1, none⟩ = some (I (k5 : Int)) ∧ w'.cell? ⟨b5, of5 + k5 * 4 + 3, none⟩ = some (I (at5 : Int)) ∧ G < w'.heap.size ∧ b5 < w'.heap.size) w8.drew := ⟨c0, c1, q3, hGl, hb5⟩
          refine wp_region_X (fun w' : World => w'.cell? ⟨G, 0, none⟩ = some (.slice (some ⟨b5, of5, none⟩) n5 cc) ∧ w'.cell? ⟨G, 1, none⟩ = some (I (k5 : Int)) ∧ w'.cell? ⟨b5, of5 + k5 * 4 + 3, none⟩ = some (I (at5 : Int)) ∧ G < w'.heap.size ∧ b5 < w'.heap.size) [10] (by kernel_rfl) hS0 ?_
          have hg12 := And.intro HD8.out.g1 HD8.out.g2
          have hbr : w.heap.size + 2 ≤ b5 := (HD8.out.ha b5 ⟨_, HE5.out, rfl⟩).1
          have hS9 : ∀ W', Keeps (fun k => k = w.heap.size) w8.drew W' → (fun w' : World => w'.cell? ⟨G, 0, none⟩ = some (.slice (some ⟨b5, of5, none⟩) n5 cc) ∧ w'.cell? ⟨G, 1, none⟩ = some (I (k5 : Int)) ∧ w'.cell? ⟨b5, of5 + k5 * 4 + 3, none⟩ = some (I (at5 : Int)) ∧ G < w'.heap.size ∧ b5 < w'.heap.size) W' := fun W' kk =>
            ⟨kk.cell hS0.1 (by show ¬ G = _; omega), kk.cell hS0.2.1 (by show ¬ G = _; omega), kk.cell hS0.2.2.1 (by show ¬ b5 = _; omega), Nat.lt_of_lt_of_le hS0.2.2.2.1 kk.size, Nat.lt_of_lt_of_le hS0.2.2.2.2 kk.size⟩
          refine anyX_take 0 (by kernel_rfl) (by kernel_rfl) (by kernel_rfl) (by kernel_rfl) (by kernel_rfl) hS0 ?_
          intro oi ho; simp only [List.getElem?_toArray, List.getElem?_cons_succ, List.getElem?_cons_zero, Option.some.injEq] at ho; subst ho
          refine ⟨?_, fun _ _ _ h => h, Or.inl ⟨by rfl, ?_⟩, ?_⟩; rotate_left 1
          · (intro wS hSw; (try dsimp only at hSw); go_simp; try with_reducible rfl)
          simp only [Act.put, List.setIfInBounds_toArray, List.set_cons_zero, List.set_cons_succ]
          refine anyX_take 1 (by kernel_rfl) (by kernel_rfl) (by kernel_rfl) (by kernel_rfl) (by kernel_rfl) hS0 ?_
          intro oi ho; simp only [List.getElem?_toArray, List.getElem?_cons_succ, List.getElem?_cons_zero, Option.some.injEq] at ho; subst ho
          refine ⟨?_, fun _ _ _ h => h, Or.inl ⟨by rfl, ?_⟩, ?_⟩; rotate_left 1
          · (intro wS hSw; (try dsimp only at hSw); go_simp; try with_reducible rfl)
          simp only [Act.put, List.setIfInBounds_toArray, List.set_cons_zero, List.set_cons_succ]
          refine anyX_take 2 (by kernel_rfl) (by kernel_rfl) (by kernel_rfl) (by kernel_rfl) (by kernel_rfl) hS0 ?_
          intro oi ho; simp only [List.getElem?_toArray, List.getElem?_cons_succ, List.getElem?_cons_zero, Option.some.injEq] at ho; subst ho
          refine ⟨?_, fun _ _ _ h => h, Or.inl ⟨by rfl, ?_⟩, ?_⟩; rotate_left 1
          · (intro wS hSw; (try dsimp only at hSw); go_simp; try with_reducible rfl)
          simp only [Act.put, List.setIfInBounds_toArray, List.set_cons_zero, List.set_cons_succ]
          refine anyX_take 3 (by kernel_rfl) (by kernel_rfl) (by kernel_rfl) (by kernel_rfl) (by kernel_rfl) hS0 ?_
          intro oi ho; simp only [List.getElem?_toArray, List.getElem?_cons_succ, List.getElem?_cons_zero, Option.some.injEq] at ho; subst ho
          refine ⟨?_, fun _ _ _ h => h, Or.inl ⟨by rfl, ?_⟩, ?_⟩; rotate_left 1
          · (intro wS hSw; (try dsimp only at hSw); go_simp; try with_reducible rfl)
          simp only [Act.put, List.setIfInBounds_toArray, List.set_cons_zero, List.set_cons_succ]
          refine anyX_take 4 (by kernel_rfl) (by kernel_rfl) (by kernel_rfl) (by kernel_rfl) (by kernel_rfl) hS0 ?_
          intro oi ho; simp only [List.getElem?_toArray, List.getElem?_cons_succ, List.getElem?_cons_zero, Option.some.injEq] at ho; subst ho
          refine ⟨?_, fun _ _ _ h => h, Or.inl ⟨by rfl, ?_⟩, ?_⟩; rotate_left 1
          · (intro wS hSw; (try dsimp only at hSw); go_simp; try with_reducible rfl)
          simp only [Act.put, List.setIfInBounds_toArray, List.set_cons_zero, List.set_cons_succ]
          refine anyX_take 5 (by kernel_rfl) (by kernel_rfl) (by kernel_rfl) (by kernel_rfl) (by kernel_rfl) hS0 ?_
          intro oi ho; simp only [List.getElem?_toArray, List.getElem?_cons_succ, List.getElem?_cons_zero, Option.some.injEq] at ho; subst ho
          refine ⟨?_, fun _ _ _ h => h, Or.inl ⟨by rfl, ?_⟩, ?_⟩; rotate_left 1
          · (intro wS hSw; (try dsimp only at hSw); go_simp; try with_reducible rfl)
          simp only [Act.put, List.setIfInBounds_toArray, List.set_cons_zero, List.set_cons_succ]
          refine anyX_take 6 (by kernel_rfl) (by kernel_rfl) (by kernel_rfl) (by kernel_rfl) (by kernel_rfl) hS0 ?_
          intro oi ho; simp only [List.getElem?_toArray, List.getElem?_cons_succ, List.getElem?_cons_zero, Option.some.injEq] at ho; subst ho
          refine ⟨?_, fun _ _ _ h => h, Or.inl ⟨by rfl, ?_⟩, ?_⟩; rotate_left 1
          · (intro wS hSw; (try dsimp only at hSw); go_simp; try with_reducible rfl)
          simp only [Act.put, List.setIfInBounds_toArray, List.set_cons_zero, List.set_cons_succ]
          refine anyX_take 7 (by kernel_rfl) (by kernel_rfl) (by kernel_rfl) (by kernel_rfl) (by kernel_rfl) hS0 ?_
          intro oi ho; simp only [List.getElem?_toArray, List.getElem?_cons_succ, List.getElem?_cons_zero, Option.some.injEq] at ho; subst ho
          refine ⟨?_, fun _ _ _ h => h, Or.inl ⟨by rfl, ?_⟩, ?_⟩; rotate_left 1
          · (intro wS hSw; (try dsimp only at hSw); go_simp; try with_reducible rfl)
          simp only [Act.put, List.setIfInBounds_toArray, List.set_cons_zero, List.set_cons_succ]
          refine anyX_take 8 (by kernel_rfl) (by kernel_rfl) (by kernel_rfl) (by kernel_rfl) (by kernel_rfl) hS0 ?_
          intro oi ho; simp only [List.getElem?_toArray, List.getElem?_cons_succ, List.getElem?_cons_zero, Option.some.injEq] at ho; subst ho
          refine ⟨?_, fun _ _ _ h => h, Or.inl ⟨by rfl, ?_⟩, ?_⟩; rotate_left 1
          · (intro wS hSw; (try dsimp only at hSw); go_simp; try with_reducible rfl)
          simp only [Act.put, List.setIfInBounds_toArray, List.set_cons_zero, List.set_cons_succ]
          refine anyX_one 9 (by kernel_rfl) ?_
          intro oi ho; simp only [List.getElem?_toArray, List.getElem?_cons_succ, List.getElem?_cons_zero, Option.some.injEq] at ho; subst ho; intro K hK
          (try simp only [Act.put, List.setIfInBounds_toArray, List.set_cons_zero, List.set_cons_succ])
          go_simp
          refine hK _ _ (fun _ => hS9 _ ((Keeps.setCell (S := fun k => k = w.heap.size) w8.drew _ _ rfl).trans (Keeps.setCell (S := fun k => k = w.heap.size) _ _ _ rfl) (fun _ _ h => h))) ?_
          clear hK K
          refine anyX_one 10 (by kernel_rfl) ?_
          intro oi ho; simp only [List.getElem?_toArray, List.getElem?_cons_succ, List.getElem?_cons_zero, Option.some.injEq] at ho; subst ho; intro K hK
          (try simp only [Act.put, List.setIfInBounds_toArray, List.set_cons_zero, List.set_cons_succ])
          go_simp
          refine hK _ _ (fun hx => by cases hx) ?_
          clear hK K
          refine anyX_done (by kernel_rfl) ?_
          (try simp only [Act.put, List.setIfInBounds_toArray, List.set_cons_zero, List.set_cons_succ])
          (try simp only [Exit.then])
          go_wp2_with fail
          clear hS0 hS9 hg12 hbr c0 c1 c2 hGl q0 q1 q2 q3 hb5 x0 x1 xf0 xf1 hXl y0 y1 yf0 yf1 hYl g0 g1 hSl
          have hB2 := sk_setB HD8.out.f2 (.string ⟨#[]⟩) (.slice none 0 0)
          have hy3 := hB2.2.heap HD8.out.f3 (by omega)
          have hB3 := sk_setB hy3 (I 50) (I (at5 : Int))
          have hb2' := hB3.2.heap hB2.1 (by omega)
          have kd := (hB2.2.mono (T := fun k => k = w.heap.size ∨ k = w.heap.size + 1) (fun _ _ h => .inl h)).trans hB3.2 (fun _ _ h => .inr h)
          have hdr := (New.refl ((((w8.setCell ⟨w.heap.size, 0, none⟩ (.string ⟨#[]⟩)).setCell ⟨w.heap.size, 1, none⟩ (.slice none 0 0)).setCell ⟨w.heap.size + 1, 0, none⟩ (I 50)).setCell ⟨w.heap.size + 1, 1, none⟩ (I (at5 : Int)))).drew
          have hnew := (HD8.out.nw.keeps kd (fun i hi h => by rcases h with h | h <;> omega)).trans hdr
          have hfin2 := Keeps.heap hdr hb2' (fun h => h)
          have hfin3 := Keeps.heap hdr hB3.1 (fun h => h)
          clear hB2 hy3 hB3 kd hb2' hdr
          generalize (((((w8.setCell ⟨w.heap.size, 0, none⟩ (.string ⟨#[]⟩)).setCell ⟨w.heap.size, 1, none⟩ (.slice none 0 0)).setCell ⟨w.heap.size + 1, 0, none⟩ (I 50)).setCell ⟨w.heap.size + 1, 1, none⟩ (I (at5 : Int))).drew) = Wz at hnew hfin2 hfin3 ⊢
          obtain ⟨r0, r1, -, -, -⟩ := sk_get hfin2
          obtain ⟨v0, v1, -, -, -⟩ := sk_get hfin3
          refine bodyPost_ret (v := .tuple #[.agg #[.string ⟨#[]⟩, .slice none 0 0], .agg #[I 50, I (at5 : Int)]]) (by simp [results, Tryd.results12, go_sem, r0, r1, v0, v1]) rfl ?_
          rw [HPO.out]
          have hres : parseA s.data.toList = .error (50, at5) := by rw [HPP.out, HPM.out]; simp only; rw [HAT5.out]
          rw [hres]
          exact ⟨rfl, hnew⟩
        | true =>
          by_cases hso5 : so5 = 0
          · subst hso5
            have hpm := HPE.out.1 ⟨rfl, rfl⟩
            have HPM := Lib.hid hpm
            clear hpm
            go_wp2_with fail
            clear c0 c1 c2 hGl q0 q1 q2 q3 hb5 x0 x1 xf0 xf1 hXl y0 y1 yf0 yf1 hYl g0 g1 hSl
            have hB2 := (HX.out.1 (.string s'.name) (.slice s'.ia s'.items.length s'.ic))
            have hy3 := hB2.2.heap HD8.out.f3 hnSY
            have hB3 := sk_setB hy3 (I 0) (I 0)
            have hb2' := hB3.2.heap hB2.1 (by omega)
            have kd : Keeps (fun k => k = w.heap.size ∨ k = w.heap.size + 1) w8 _ := (hB2.2.mono (fun _ _ h => .inl h)).trans hB3.2 (fun _ _ h => .inr h)
            have hnew := HD8.out.nw.keeps kd (fun i hi h => by rcases h with h | h <;> omega)
            have hown := HD8.out.sk.own.oth kd (fun g hg => by
              rcases hg with rfl | rfl
              · exact ⟨_, _, _, HD8.out.f2, by decide, by decide⟩
              · exact ⟨_, _, _, HD8.out.f3, by decide, by decide⟩)
            have hfin3 := hB3.1
            clear hB2 hy3 hB3 kd
            generalize ((((w8.setCell ⟨w.heap.size, 0, none⟩ (.string s'.name)).setCell ⟨w.heap.size, 1, none⟩ (.slice s'.ia s'.items.length s'.ic)).setCell ⟨w.heap.size + 1, 0, none⟩ (I 0)).setCell ⟨w.heap.size + 1, 1, none⟩ (I 0)) = Wz at hnew hown hb2' hfin3 ⊢
            obtain ⟨r0, r1, -, -, -⟩ := sk_get hb2'
            obtain ⟨v0, v1, -, -, -⟩ := sk_get hfin3
            refine bodyPost_ret (v := .tuple #[.agg #[.string s'.name, .slice s'.ia s'.items.length s'.ic], .agg #[I 0, I 0]]) (by simp [results, Tryd.results12, go_sem, r0, r1, v0, v1]) rfl ?_
            rw [HPO.out]
            obtain ⟨mm, hmm⟩ := HPM.out
            have hres : parseA s.data.toList = .ok ⟨nm, acc⟩ := by rw [HPP.out, hmm]
            rw [hres]
            refine ⟨s', ?_, rfl, hown.at, hnew⟩
            unfold Sk.bare LSk.mem
            rw [HD8.out.it, HNM.out, HNB.out]
          · have e9 : (so5 != 0) = true := by simpa using hso5
            have hpm := HPE.out.2 (fun h => hso5 h.2)
            have HPM := Lib.hid hpm
            clear hpm hso5
            go_wp2_with fail
            have hS0 : (fun w' : World => w'.cell? ⟨G, 0, none⟩ = some (.slice (some ⟨b5, of5, none⟩) n5 cc) ∧ w'.cell? ⟨G, 1, none⟩ = some (I (k5 : Int)) ∧ w'.cell? ⟨b5, of5 + k5 * 4 + 3, none⟩ = some (I (at5 : Int)) ∧ G < w'.heap.size ∧ b5 < w'.heap.size) w8.drew := ⟨c0, c1, q3, hGl, hb5⟩
            refine wp_region_X (fun w' : World => w'.cell? ⟨G, 0, none⟩ = some (.slice (some ⟨b5, of5, none⟩) n5 cc) ∧ w'.cell? ⟨G, 1, none⟩ = some (I (k5 : Int)) ∧ w'.cell? ⟨b5, of5 + k5 * 4 + 3, none⟩ = some (I (at5 : Int)) ∧ G < w'.heap.size ∧ b5 < w'.heap.size) [10] (by kernel_rfl) hS0 ?_
            have hg12 := And.intro HD8.out.g1 HD8.out.g2
            have hbr : w.heap.size + 2 ≤ b5 := (HD8.out.ha b5 ⟨_, HE5.out, rfl⟩).1
            have hS9 : ∀ W', Keeps (fun k => k = w.heap.size) w8.drew W' → (fun w' : World => w'.cell? ⟨G, 0, none⟩ = some (.slice (some ⟨b5, of5, none⟩) n5 cc) ∧ w'.cell? ⟨G, 1, none⟩ = some (I (k5 : Int)) ∧ w'.cell? ⟨b5, of5 + k5 * 4 + 3, none⟩ = some (I (at5 : Int)) ∧ G < w'.heap.size ∧ b5 < w'.heap.size) W' := fun W' kk =>
              ⟨kk.cell hS0.1 (by show ¬ G = _; omega), kk.cell hS0.2.1 (by show ¬ G = _; omega), kk.cell hS0.2.2.1 (by show ¬ b5 = _; omega), Nat.lt_of_lt_of_le hS0.2.2.2.1 kk.size, Nat.lt_of_lt_of_le hS0.2.2.2.2 kk.size⟩
            refine anyX_take 0 (by kernel_rfl) (by kernel_rfl) (by kernel_rfl) (by kernel_rfl) (by kernel_rfl) hS0 ?_
            intro oi ho; simp only [List.getElem?_toArray, List.getElem?_cons_succ, List.getElem?_cons_zero, Option.some.injEq] at ho; subst ho
            refine ⟨?_, fun _ _ _ h => h, Or.inl ⟨by rfl, ?_⟩, ?_⟩; rotate_left 1
            · (intro wS hSw; (try dsimp only at hSw); go_simp; try with_reducible rfl)
            simp only [Act.put, List.setIfInBounds_toArray, List.set_cons_zero, List.set_cons_succ]
            refine anyX_take 1 (by kernel_rfl) (by kernel_rfl) (by kernel_rfl) (by kernel_rfl) (by kernel_rfl) hS0 ?_
            intro oi ho; simp only [List.getElem?_toArray, List.getElem?_cons_succ, List.getElem?_cons_zero, Option.some.injEq] at ho; subst ho
            refine ⟨?_, fun _ _ _ h => h, Or.inl ⟨by rfl, ?_⟩, ?_⟩; rotate_left 1
            · (intro wS hSw; (try dsimp only at hSw); go_simp; try with_reducible rfl)
            simp only [Act.put, List.setIfInBounds_toArray, List.set_cons_zero, List.set_cons_succ]
            refine anyX_take 2 (by kernel_rfl) (by kernel_rfl) (by kernel_rfl) (by kernel_rfl) (by kernel_rfl) hS0 ?_
            intro oi ho; simp only [List.getElem?_toArray, List.getElem?_cons_succ, List.getElem?_cons_zero, Option.some.injEq] at ho; subst ho
            refine ⟨?_, fun _ _ _ h => h, Or.inl ⟨by rfl, ?_⟩, ?_⟩; rotate_left 1
            · (intro wS hSw; (try dsimp only at hSw); go_simp; try with_reducible rfl)
            simp only [Act.put, List.setIfInBounds_toArray, List.set_cons_zero, List.set_cons_succ]
            refine anyX_take 3 (by kernel_rfl) (by kernel_rfl) (by kernel_rfl) (by kernel_rfl) (by kernel_rfl) hS0 ?_
            intro oi ho; simp only [List.getElem?_toArray, List.getElem?_cons_succ, List.getElem?_cons_zero, Option.some.injEq] at ho; subst ho
            refine ⟨?_, fun _ _ _ h => h, Or.inl ⟨by rfl, ?_⟩, ?_⟩; rotate_left 1
            · (intro wS hSw; (try dsimp only at hSw); go_simp; try with_reducible rfl)
            simp only [Act.put, List.setIfInBounds_toArray, List.set_cons_zero, List.set_cons_succ]
            refine anyX_take 4 (by kernel_rfl) (by kernel_rfl) (by kernel_rfl) (by kernel_rfl) (by kernel_rfl) hS0 ?_
            intro oi ho; simp only [List.getElem?_toArray, List.getElem?_cons_succ, List.getElem?_cons_zero, Option.some.injEq] at ho; subst ho
            refine ⟨?_, fun _ _ _ h => h, Or.inl ⟨by rfl, ?_⟩, ?_⟩; rotate_left 1
            · (intro wS hSw; (try dsimp only at hSw); go_simp; try with_reducible rfl)
            simp only [Act.put, List.setIfInBounds_toArray, List.set_cons_zero, List.set_cons_succ]
            refine anyX_take 5 (by kernel_rfl) (by kernel_rfl) (by kernel_rfl) (by kernel_rfl) (by kernel_rfl) hS0 ?_
            intro oi ho; simp only [List.getElem?_toArray, List.getElem?_cons_succ, List.getElem?_cons_zero, Option.some.injEq] at ho; subst ho
            refine ⟨?_, fun _ _ _ h => h, Or.inl ⟨by rfl, ?_⟩, ?_⟩; rotate_left 1
            · (intro wS hSw; (try dsimp only at hSw); go_simp; try with_reducible rfl)
            simp only [Act.put, List.setIfInBounds_toArray, List.set_cons_zero, List.set_cons_succ]
            refine anyX_take 6 (by kernel_rfl) (by kernel_rfl) (by kernel_rfl) (by kernel_rfl) (by kernel_rfl) hS0 ?_
            intro oi ho; simp only [List.getElem?_toArray, List.getElem?_cons_succ, List.getElem?_cons_zero, Option.some.injEq] at ho; subst ho
            refine ⟨?_, fun _ _ _ h => h, Or.inl ⟨by rfl, ?_⟩, ?_⟩; rotate_left 1
            · (intro wS hSw; (try dsimp only at hSw); go_simp; try with_reducible rfl)
            simp only [Act.put, List.setIfInBounds_toArray, List.set_cons_zero, List.set_cons_succ]
            refine anyX_take 7 (by kernel_rfl) (by kernel_rfl) (by kernel_rfl) (by kernel_rfl) (by kernel_rfl) hS0 ?_
            intro oi ho; simp only [List.getElem?_toArray, List.getElem?_cons_succ, List.getElem?_cons_zero, Option.some.injEq] at ho; subst ho
            refine ⟨?_, fun _ _ _ h => h, Or.inl ⟨by rfl, ?_⟩, ?_⟩; rotate_left 1
            · (intro wS hSw; (try dsimp only at hSw); go_simp; try with_reducible rfl)
            simp only [Act.put, List.setIfInBounds_toArray, List.set_cons_zero, List.set_cons_succ]
            refine anyX_take 8 (by kernel_rfl) (by kernel_rfl) (by kernel_rfl) (by kernel_rfl) (by kernel_rfl) hS0 ?_
            intro oi ho; simp only [List.getElem?_toArray, List.getElem?_cons_succ, List.getElem?_cons_zero, Option.some.injEq] at ho; subst ho
            refine ⟨?_, fun _ _ _ h => h, Or.inl ⟨by rfl, ?_⟩, ?_⟩; rotate_left 1
            · (intro wS hSw; (try dsimp only at hSw); go_simp; try with_reducible rfl)
            simp only [Act.put, List.setIfInBounds_toArray, List.set_cons_zero, List.set_cons_succ]
            refine anyX_one 9 (by kernel_rfl) ?_
            intro oi ho; simp only [List.getElem?_toArray, List.getElem?_cons_succ, List.getElem?_cons_zero, Option.some.injEq] at ho; subst ho; intro K hK
            (try simp only [Act.put, List.setIfInBounds_toArray, List.set_cons_zero, List.set_cons_succ])
            go_simp
            refine hK _ _ (fun _ => hS9 _ ((Keeps.setCell (S := fun k => k = w.heap.size) w8.drew _ _ rfl).trans (Keeps.setCell (S := fun k => k = w.heap.size) _ _ _ rfl) (fun _ _ h => h))) ?_
            clear hK K
            refine anyX_one 10 (by kernel_rfl) ?_
            intro oi ho; simp only [List.getElem?_toArray, List.getElem?_cons_succ, List.getElem?_cons_zero, Option.some.injEq] at ho; subst ho; intro K hK
            (try simp only [Act.put, List.setIfInBounds_toArray, List.set_cons_zero, List.set_cons_succ])
            go_simp
            refine hK _ _ (fun hx => by cases hx) ?_
            clear hK K
            refine anyX_done (by kernel_rfl) ?_
            (try simp only [Act.put, List.setIfInBounds_toArray, List.set_cons_zero, List.set_cons_succ])
            (try simp only [Exit.then])
            go_wp2_with fail
            clear hS0 hS9 hg12 hbr c0 c1 c2 hGl q0 q1 q2 q3 hb5 x0 x1 xf0 xf1 hXl y0 y1 yf0 yf1 hYl g0 g1 hSl
            have hB2 := sk_setB HD8.out.f2 (.string ⟨#[]⟩) (.slice none 0 0)
            have hy3 := hB2.2.heap HD8.out.f3 (by omega)
            have hB3 := sk_setB hy3 (I 50) (I (at5 : Int))
            have hb2' := hB3.2.heap hB2.1 (by omega)
            have kd := (hB2.2.mono (T := fun k => k = w.heap.size ∨ k = w.heap.size + 1) (fun _ _ h => .inl h)).trans hB3.2 (fun _ _ h => .inr h)
            have hdr := (New.refl ((((w8.setCell ⟨w.heap.size, 0, none⟩ (.string ⟨#[]⟩)).setCell ⟨w.heap.size, 1, none⟩ (.slice none 0 0)).setCell ⟨w.heap.size + 1, 0, none⟩ (I 50)).setCell ⟨w.heap.size + 1, 1, none⟩ (I (at5 : Int)))).drew
            have hnew := (HD8.out.nw.keeps kd (fun i hi h => by rcases h with h | h <;> omega)).trans hdr
            have hfin2 := Keeps.heap hdr hb2' (fun h => h)
            have hfin3 := Keeps.heap hdr hB3.1 (fun h => h)
            clear hB2 hy3 hB3 kd hb2' hdr
            generalize (((((w8.setCell ⟨w.heap.size, 0, none⟩ (.string ⟨#[]⟩)).setCell ⟨w.heap.size, 1, none⟩ (.slice none 0 0)).setCell ⟨w.heap.size + 1, 0, none⟩ (I 50)).setCell ⟨w.heap.size + 1, 1, none⟩ (I (at5 : Int))).drew) = Wz at hnew hfin2 hfin3 ⊢
            obtain ⟨r0, r1, -, -, -⟩ := sk_get hfin2
            obtain ⟨v0, v1, -, -, -⟩ := sk_get hfin3
            refine bodyPost_ret (v := .tuple #[.agg #[.string ⟨#[]⟩, .slice none 0 0], .agg #[I 50, I (at5 : Int)]]) (by simp [results, Tryd.results12, go_sem, r0, r1, v0, v1]) rfl ?_
            rw [HPO.out]
            have hres : parseA s.data.toList = .error (50, at5) := by rw [HPP.out, HPM.out]; simp only; rw [HAT5.out]
            rw [hres]
            exact ⟨rfl, hnew⟩
      | true =>
        have hi := fun W (r : RAt W G l a cc (k, true)) => ris_any W G l a cc k true r 3 ⟨#[125]⟩
        have hkl := HD.out.p.lt
        simp only at hkl
        have hh := hi _ HD.out.p
        cases hlk : lookP 3 [125] l k with
        | true =>
          rw [show ((⟨#[125]⟩ : ByteArray).data.toList) = [125] from rfl, hlk] at hh
          have HLE := Lib.hid (HL.out.stop hkl hlk)
          clear hi
          go_wp2_with fail
          refine hh.mono ?_
          rintro e w7 ⟨rfl, n7⟩
          have HD7 := Lib.hid (HD.out.new n7)
          clear hh n7 HD c0 c1 c2 hGl
          have HD := HD7
          clear HD7
          go_wp2_with fail
          obtain ⟨s5, hs5⟩ : ∃ r, mustS l 3 [125] (k, true) = r := ⟨_, rfl⟩
          have hm5 := fun W (r : RAt W G l a cc (k, true)) => rmust_any W G l a cc (k, true) HEE.out r 3 (by decide) ⟨#[125]⟩ [125] rfl
          rw [hs5] at hm5
          have hh5 := hm5 _ HD.out.p
          clear hm5
          refine hh5.mono ?_
          rintro e w8 ⟨rfl, H8, k8⟩
          have HD8 := Lib.hid (HD.out.call H8 k8)
          clear hh5 H8 k8 HD
          obtain ⟨k5, o5⟩ := s5
          obtain ⟨t5, ht5, b5, of5, e5, q0, q1, q2, q3⟩ := HD8.out.p.tok
          have hpe := parse_end HPRE.out HLE.out (t := t5) (by rw [hs5]; exact ht5)
          rw [hs5] at hpe
          simp only at ht5 q0 q1 q2 q3 hpe
          obtain ⟨c0, c1, c2, -, -, hGl⟩ := HD8.out.p.cells
          simp only at c1 c2
          have hb5 := World.block_lt_of_cell? _ _ q0
          have hlt5 := HD8.out.p.lt
          have hle5 := HD8.out.p.le
          simp only at hlt5
          obtain ⟨n5, hn5⟩ : ∃ n, l.length = n := ⟨_, rfl⟩
          rw [hn5] at c0 hlt5 hle5
          have hkI5 : (k5 : Int) < (n5 : Int) := by omega
          have hat5 : atT l k5 = t5.at_ := by unfold atT; rw [ht5]; rfl
          have HPE := Lib.hid hpe
          have HAT5 := Lib.hid hat5
          have HE5 := Lib.hid e5
          rw [e5] at c0
          obtain ⟨so5, tx5, nu5, at5⟩ := t5
          obtain ⟨TX5, hTX5⟩ : ∃ T : ByteArray, (⟨tx5.toArray⟩ : ByteArray) = T := ⟨_, rfl⟩
          simp only [hTX5] at q0 q1 q2 q3
          obtain ⟨x0, x1, xf0, xf1, hXl⟩ := sk_get HD8.out.f2
          obtain ⟨y0, y1, yf0, yf1, hYl⟩ := sk_get HD8.out.f3
          obtain ⟨g0, g1, -, -, hSl⟩ := sk_get HD8.out.sk.blkP
          have hx2 := sk_setB HD8.out.f2
          have hx3 := sk_setB HD8.out.f3
          have HX := Lib.hid (And.intro hx2 hx3)
          have hnSY : w.heap.size + 1 ≠ w.heap.size := by omega
          clear hpe hat5 hTX5 hx2 hx3 ht5 e5 hn5 hs5 HLE hil
          cases o5 with
          | false =>
            have hpm := HPE.out.2 (fun h => absurd h.1 (by simp))
            have HPM := Lib.hid hpm
            clear hpm
            go_wp2_with fail
            have hS0 : (fun w' : World => w'.cell? ⟨G, 0, none⟩ = some (.slice (some ⟨b5, of5, none⟩) n5 cc) ∧ w'.cell? ⟨G, 1, none⟩ = some (I (k5 : Int)) ∧ w'.cell? ⟨b5, of5 + k5 * 4 + 3, none⟩ = some (I (at5 : Int)) ∧ G < w'.heap.size ∧ b5 < w'.heap.size) w8.drew := ⟨c0, c1, q3, hGl, hb5⟩
            refine wp_region_X (fun w' : World => w'.cell? ⟨G, 0, none⟩ = some (.slice (some ⟨b5, of5, none⟩) n5 cc) ∧ w'.cell? ⟨G, 1, none⟩ = some (I (k5 : Int)) ∧ w'.cell? ⟨b5, of5 + k5 * 4 + 3, none⟩ = some (I (at5 : Int)) ∧ G < w'.heap.size ∧ b5 < w'.heap.size) [10] (by kernel_rfl) hS0 ?_
            have hg12 := And.intro HD8.out.g1 HD8.out.g2
            have hbr : w.heap.size + 2 ≤ b5 := (HD8.out.ha b5 ⟨_, HE5.out, rfl⟩).1
            have hS9 : ∀ W', Keeps (fun k => k = w.heap.size) w8.drew W' → (fun w' : World => w'.cell? ⟨G, 0, none⟩ = some (.slice (some ⟨b5, of5, none⟩) n5 cc) ∧ w'.cell? ⟨G, 1, none⟩ = some (I (k5 : Int)) ∧ w'.cell? ⟨b5, of5 + k5 * 4 + 3, none⟩ = some (I (at5 : Int)) ∧ G < w'.heap.size ∧ b5 < w'.heap.size) W' := fun W' kk =>
              ⟨kk.cell hS0.1 (by show ¬ G = _; omega), kk.cell hS0.2.1 (by show ¬ G = _; omega), kk.cell hS0.2.2.1 (by show ¬ b5 = _; omega), Nat.lt_of_lt_of_le hS0.2.2.2.1 kk.size, Nat.lt_of_lt_of_le hS0.2.2.2.2 kk.size⟩
            refine anyX_take 0 (by kernel_rfl) (by kernel_rfl) (by kernel_rfl) (by kernel_rfl) (by kernel_rfl) hS0 ?_
            intro oi ho; simp only [List.getElem?_toArray, List.getElem?_cons_succ, List.getElem?_cons_zero, Option.some.injEq] at ho; subst ho
            refine ⟨?_, fun _ _ _ h => h, Or.inl ⟨by rfl, ?_⟩, ?_⟩; rotate_left 1
            · (intro wS hSw; (try dsimp only at hSw); go_simp; try with_reducible rfl)
            simp only [Act.put, List.setIfInBounds_toArray, List.set_cons_zero, List.set_cons_succ]
            refine anyX_take 1 (by kernel_rfl) (by kernel_rfl) (by kernel_rfl) (by kernel_rfl) (by kernel_rfl) hS0 ?_
            intro oi ho; simp only [List.getElem?_toArray, List.getElem?_cons_succ, List.getElem?_cons_zero, Option.some.injEq] at ho; subst ho
            refine ⟨?_, fun _ _ _ h => h, Or.inl ⟨by rfl, ?_⟩, ?_⟩; rotate_left 1
            · (intro wS hSw; (try dsimp only at hSw); go_simp; try with_reducible rfl)
            simp only [Act.put, List.setIfInBounds_toArray, List.set_cons_zero, List.set_cons_succ]
            refine anyX_take 2 (by kernel_rfl) (by kernel_rfl) (by kernel_rfl) (by kernel_rfl) (by kernel_rfl) hS0 ?_
            intro oi ho; simp only [List.getElem?_toArray, List.getElem?_cons_succ, List.getElem?_cons_zero, Option.some.injEq] at ho; subst ho
            refine ⟨?_, fun _ _ _ h => h, Or.inl ⟨by rfl, ?_⟩, ?_⟩; rotate_left 1
            · (intro wS hSw; (try dsimp only at hSw); go_simp; try with_reducible rfl)
            simp only [Act.put, List.setIfInBounds_toArray, List.set_cons_zero, List.set_cons_succ]
            refine anyX_take 3 (by kernel_rfl) (by kernel_rfl) (by kernel_rfl) (by kernel_rfl) (by kernel_rfl) hS0 ?_
            intro oi ho; simp only [List.getElem?_toArray, List.getElem?_cons_succ, List.getElem?_cons_zero, Option.some.injEq] at ho; subst ho
            refine ⟨?_, fun _ _ _ h => h, Or.inl ⟨by rfl, ?_⟩, ?_⟩; rotate_left 1
            · (intro wS hSw; (try dsimp only at hSw); go_simp; try with_reducible rfl)
            simp only [Act.put, List.setIfInBounds_toArray, List.set_cons_zero, List.set_cons_succ]
            refine anyX_take 4 (by kernel_rfl) (by kernel_rfl) (by kernel_rfl) (by kernel_rfl) (by kernel_rfl) hS0 ?_
            intro oi ho; simp only [List.getElem?_toArray, List.getElem?_cons_succ, List.getElem?_cons_zero, Option.some.injEq] at ho; subst ho
            refine ⟨?_, fun _ _ _ h => h, Or.inl ⟨by rfl, ?_⟩, ?_⟩; rotate_left 1
            · (intro wS hSw; (try dsimp only at hSw); go_simp; try with_reducible rfl)
            simp only [Act.put, List.setIfInBounds_toArray, List.set_cons_zero, List.set_cons_succ]
            refine anyX_take 5 (by kernel_rfl) (by kernel_rfl) (by kernel_rfl) (by kernel_rfl) (by kernel_rfl) hS0 ?_
            intro oi ho; simp only [List.getElem?_toArray, List.getElem?_cons_succ, List.getElem?_cons_zero, Option.some.injEq] at ho; subst ho
            refine ⟨?_, fun _ _ _ h => h, Or.inl ⟨by rfl, ?_⟩, ?_⟩; rotate_left 1
            · (intro wS hSw; (try dsimp only at hSw); go_simp; try with_reducible rfl)
            simp only [Act.put, List.setIfInBounds_toArray, List.set_cons_zero, List.set_cons_succ]
            refine anyX_take 6 (by kernel_rfl) (by kernel_rfl) (by kernel_rfl) (by kernel_rfl) (by kernel_rfl) hS0 ?_
            intro oi ho; simp only [List.getElem?_toArray, List.getElem?_cons_succ, List.getElem?_cons_zero, Option.some.injEq] at ho; subst ho
            refine ⟨?_, fun _ _ _ h => h, Or.inl ⟨by rfl, ?_⟩, ?_⟩; rotate_left 1
            · (intro wS hSw; (try dsimp only at hSw); go_simp; try with_reducible rfl)
            simp only [Act.put, List.setIfInBounds_toArray, List.set_cons_zero, List.set_cons_succ]
            refine anyX_take 7 (by kernel_rfl) (by kernel_rfl) (by kernel_rfl) (by kernel_rfl) (by kernel_rfl) hS0 ?_
            intro oi ho; simp only [List.getElem?_toArray, List.getElem?_cons_succ, List.getElem?_cons_zero, Option.some.injEq] at ho; subst ho
            refine ⟨?_, fun _ _ _ h => h, Or.inl ⟨by rfl, ?_⟩, ?_⟩; rotate_left 1
            · (intro wS hSw; (try dsimp only at hSw); go_simp; try with_reducible rfl)
            simp only [Act.put, List.setIfInBounds_toArray, List.set_cons_zero, List.set_cons_succ]
            refine anyX_take 8 (by kernel_rfl) (by kernel_rfl) (by kernel_rfl) (by kernel_rfl) (by kernel_rfl) hS0 ?_
            intro oi ho; simp only [List.getElem?_toArray, List.getElem?_cons_succ, List.getElem?_cons_zero, Option.some.injEq] at ho; subst ho
            refine ⟨?_, fun _ _ _ h => h, Or.inl ⟨by rfl, ?_⟩, ?_⟩; rotate_left 1
            · (intro wS hSw; (try dsimp only at hSw); go_simp; try with_reducible rfl)
            simp only [Act.put, List.setIfInBounds_toArray, List.set_cons_zero, List.set_cons_succ]
            refine anyX_one 9 (by kernel_rfl) ?_
            intro oi ho; simp only [List.getElem?_toArray, List.getElem?_cons_succ, List.getElem?_cons_zero, Option.some.injEq] at ho; subst ho; intro K hK
            (try simp only [Act.put, List.setIfInBounds_toArray, List.set_cons_zero, List.set_cons_succ])
            go_simp
            refine hK _ _ (fun _ => hS9 _ ((Keeps.setCell (S := fun k => k = w.heap.size) w8.drew _ _ rfl).trans (Keeps.setCell (S := fun k => k = w.heap.size) _ _ _ rfl) (fun _ _ h => h))) ?_
            clear hK K
            refine anyX_one 10 (by kernel_rfl) ?_
            intro oi ho; simp only [List.getElem?_toArray, List.getElem?_cons_succ, List.getElem?_cons_zero, Option.some.injEq] at ho; subst ho; intro K hK
            (try simp only [Act.put, List.setIfInBounds_toArray, List.set_cons_zero, List.set_cons_succ])
            go_simp
            refine hK _ _ (fun hx => by cases hx) ?_
            clear hK K
            refine anyX_done (by kernel_rfl) ?_
            (try simp only [Act.put, List.setIfInBounds_toArray, List.set_cons_zero, List.set_cons_succ])
            (try simp only [Exit.then])
            go_wp2_with fail
            clear hS0 hS9 hg12 hbr c0 c1 c2 hGl q0 q1 q2 q3 hb5 x0 x1 xf0 xf1 hXl y0 y1 yf0 yf1 hYl g0 g1 hSl
            have hB2 := sk_setB HD8.out.f2 (.string ⟨#[]⟩) (.slice none 0 0)
            have hy3 := hB2.2.heap HD8.out.f3 (by omega)
            have hB3 := sk_setB hy3 (I 50) (I (at5 : Int))
            have hb2' := hB3.2.heap hB2.1 (by omega)
            have kd := (hB2.2.mono (T := fun k => k = w.heap.size ∨ k = w.heap.size + 1) (fun _ _ h => .inl h)).trans hB3.2 (fun _ _ h => .inr h)
            have hdr := (New.refl ((((w8.setCell ⟨w.heap.size, 0, none⟩ (.string ⟨#[]⟩)).setCell ⟨w.heap.size, 1, none⟩ (.slice none 0 0)).setCell ⟨w.heap.size + 1, 0, none⟩ (I 50)).setCell ⟨w.heap.size + 1, 1, none⟩ (I (at5 : Int)))).drew
            have hnew := (HD8.out.nw.keeps kd (fun i hi h => by rcases h with h | h <;> omega)).trans hdr
            have hfin2 := Keeps.heap hdr hb2' (fun h => h)
            have hfin3 := Keeps.heap hdr hB3.1 (fun h => h)
            clear hB2 hy3 hB3 kd hb2' hdr
            generalize (((((w8.setCell ⟨w.heap.size, 0, none⟩ (.string ⟨#[]⟩)).setCell ⟨w.heap.size, 1, none⟩ (.slice none 0 0)).setCell ⟨w.heap.size + 1, 0, none⟩ (I 50)).setCell ⟨w.heap.size + 1, 1, none⟩ (I (at5 : Int))).drew) = Wz at hnew hfin2 hfin3 ⊢
            obtain ⟨r0, r1, -, -, -⟩ := sk_get hfin2
            obtain ⟨v0, v1, -, -, -⟩ := sk_get hfin3
            refine bodyPost_ret (v := .tuple #[.agg #[.string ⟨#[]⟩, .slice none 0 0], .agg #[I 50, I (at5 : Int)]]) (by simp [results, Tryd.results12, go_sem, r0, r1, v0, v1]) rfl ?_
            rw [HPO.out]
            have hres : parseA s.data.toList = .error (50, at5) := by rw [HPP.out, HPM.out]; simp only; rw [HAT5.out]
            rw [hres]
            exact ⟨rfl, hnew⟩
          | true =>
            by_cases hso5 : so5 = 0
            · subst hso5
              have hpm := HPE.out.1 ⟨rfl, rfl⟩
              have HPM := Lib.hid hpm
              clear hpm
              go_wp2_with fail
              clear c0 c1 c2 hGl q0 q1 q2 q3 hb5 x0 x1 xf0 xf1 hXl y0 y1 yf0 yf1 hYl g0 g1 hSl
              have hB2 := (HX.out.1 (.string s'.name) (.slice s'.ia s'.items.length s'.ic))
              have hy3 := hB2.2.heap HD8.out.f3 hnSY
              have hB3 := sk_setB hy3 (I 0) (I 0)
              have hb2' := hB3.2.heap hB2.1 (by omega)
              have kd : Keeps (fun k => k = w.heap.size ∨ k = w.heap.size + 1) w8 _ := (hB2.2.mono (fun _ _ h => .inl h)).trans hB3.2 (fun _ _ h => .inr h)
              have hnew := HD8.out.nw.keeps kd (fun i hi h => by rcases h with h | h <;> omega)
              have hown := HD8.out.sk.own.oth kd (fun g hg => by
                rcases hg with rfl | rfl
                · exact ⟨_, _, _, HD8.out.f2, by decide, by decide⟩
                · exact ⟨_, _, _, HD8.out.f3, by decide, by decide⟩)
              have hfin3 := hB3.1
              clear hB2 hy3 hB3 kd
              generalize ((((w8.setCell ⟨w.heap.size, 0, none⟩ (.string s'.name)).setCell ⟨w.heap.size, 1, none⟩ (.slice s'.ia s'.items.length s'.ic)).setCell ⟨w.heap.size + 1, 0, none⟩ (I 0)).setCell ⟨w.heap.size + 1, 1, none⟩ (I 0)) = Wz at hnew hown hb2' hfin3 ⊢
              obtain ⟨r0, r1, -, -, -⟩ := sk_get hb2'
              obtain ⟨v0, v1, -, -, -⟩ := sk_get hfin3
              refine bodyPost_ret (v := .tuple #[.agg #[.string s'.name, .slice s'.ia s'.items.length s'.ic], .agg #[I 0, I 0]]) (by simp [results, Tryd.results12, go_sem, r0, r1, v0, v1]) rfl ?_
              rw [HPO.out]
              obtain ⟨mm, hmm⟩ := HPM.out
              have hres : parseA s.data.toList = .ok ⟨nm, acc⟩ := by rw [HPP.out, hmm]
              rw [hres]
              refine ⟨s', ?_, rfl, hown.at, hnew⟩
              unfold Sk.bare LSk.mem
              rw [HD8.out.it, HNM.out, HNB.out]
            · have e9 : (so5 != 0) = true := by simpa using hso5
              have hpm := HPE.out.2 (fun h => hso5 h.2)
              have HPM := Lib.hid hpm
              clear hpm hso5
              go_wp2_with fail
              have hS0 : (fun w' : World => w'.cell? ⟨G, 0, none⟩ = some (.slice (some ⟨b5, of5, none⟩) n5 cc) ∧ w'.cell? ⟨G, 1, none⟩ = some (I (k5 : Int)) ∧ w'.cell? ⟨b5, of5 + k5 * 4 + 3, none⟩ = some (I (at5 : Int)) ∧ G < w'.heap.size ∧ b5 < w'.heap.size) w8.drew := ⟨c0, c1, q3, hGl, hb5⟩
              refine wp_region_X (fun w' : World => w'.cell? ⟨G, 0, none⟩ = some (.slice (some ⟨b5, of5, none⟩) n5 cc) ∧ w'.cell? ⟨G, 1, none⟩ = some (I (k5 : Int)) ∧ w'.cell? ⟨b5, of5 + k5 * 4 + 3, none⟩ = some (I (at5 : Int)) ∧ G < w'.heap.size ∧ b5 < w'.heap.size) [10] (by kernel_rfl) hS0 ?_
              have hg12 := And.intro HD8.out.g1 HD8.out.g2
              have hbr : w.heap.size + 2 ≤ b5 := (HD8.out.ha b5 ⟨_, HE5.out, rfl⟩).1
              have hS9 : ∀ W', Keeps (fun k => k = w.heap.size) w8.drew W' → (fun w' : World => w'.cell? ⟨G, 0, none⟩ = some (.slice (some ⟨b5, of5, none⟩) n5 cc) ∧ w'.cell? ⟨G, 1, none⟩ = some (I (k5 : Int)) ∧ w'.cell? ⟨b5, of5 + k5 * 4 + 3, none⟩ = some (I (at5 : Int)) ∧ G < w'.heap.size ∧ b5 < w'.heap.size) W' := fun W' kk =>
                ⟨kk.cell hS0.1 (by show ¬ G = _; omega), kk.cell hS0.2.1 (by show ¬ G = _; omega), kk.cell hS0.2.2.1 (by show ¬ b5 = _; omega), Nat.lt_of_lt_of_le hS0.2.2.2.1 kk.size, Nat.lt_of_lt_of_le hS0.2.2.2.2 kk.size⟩
              refine anyX_take 0 (by kernel_rfl) (by kernel_rfl) (by kernel_rfl) (by kernel_rfl) (by kernel_rfl) hS0 ?_
              intro oi ho; simp only [List.getElem?_toArray, List.getElem?_cons_succ, List.getElem?_cons_zero, Option.some.injEq] at ho; subst ho
              refine ⟨?_, fun _ _ _ h => h, Or.inl ⟨by rfl, ?_⟩, ?_⟩; rotate_left 1
              · (intro wS hSw; (try dsimp only at hSw); go_simp; try with_reducible rfl)
              simp only [Act.put, List.setIfInBounds_toArray, List.set_cons_zero, List.set_cons_succ]
              refine anyX_take 1 (by kernel_rfl) (by kernel_rfl) (by kernel_rfl) (by kernel_rfl) (by kernel_rfl) hS0 ?_
              intro oi ho; simp only [List.getElem?_toArray, List.getElem?_cons_succ, List.getElem?_cons_zero, Option.some.injEq] at ho; subst ho
              refine ⟨?_, fun _ _ _ h => h, Or.inl ⟨by rfl, ?_⟩, ?_⟩; rotate_left 1
              · (intro wS hSw; (try dsimp only at hSw); go_simp; try with_reducible rfl)
              simp only [Act.put, List.setIfInBounds_toArray, List.set_cons_zero, List.set_cons_succ]
              refine anyX_take 2 (by kernel_rfl) (by kernel_rfl) (by kernel_rfl) (by kernel_rfl) (by kernel_rfl) hS0 ?_
              intro oi ho; simp only [List.getElem?_toArray, List.getElem?_cons_succ, List.getElem?_cons_zero, Option.some.injEq] at ho; subst ho
              refine ⟨?_, fun _ _ _ h => h, Or.inl ⟨by rfl, ?_⟩, ?_⟩; rotate_left 1
              · (intro wS hSw; (try dsimp only at hSw); go_simp; try with_reducible rfl)
              simp only [Act.put, List.setIfInBounds_toArray, List.set_cons_zero, List.set_cons_succ]
              refine anyX_take 3 (by kernel_rfl) (by kernel_rfl) (by kernel_rfl) (by kernel_rfl) (by kernel_rfl) hS0 ?_
              intro oi ho; simp only [List.getElem?_toArray, List.getElem?_cons_succ, List.getElem?_cons_zero, Option.some.injEq] at ho; subst ho
              refine ⟨?_, fun _ _ _ h => h, Or.inl ⟨by rfl, ?_⟩, ?_⟩; rotate_left 1
              · (intro wS hSw; (try dsimp only at hSw); go_simp; try with_reducible rfl)
              simp only [Act.put, List.setIfInBounds_toArray, List.set_cons_zero, List.set_cons_succ]
              refine anyX_take 4 (by kernel_rfl) (by kernel_rfl) (by kernel_rfl) (by kernel_rfl) (by kernel_rfl) hS0 ?_
              intro oi ho; simp only [List.getElem?_toArray, List.getElem?_cons_succ, List.getElem?_cons_zero, Option.some.injEq] at ho; subst ho
              refine ⟨?_, fun _ _ _ h => h, Or.inl ⟨by rfl, ?_⟩, ?_⟩; rotate_left 1
              · (intro wS hSw; (try dsimp only at hSw); go_simp; try with_reducible rfl)
              simp only [Act.put, List.setIfInBounds_toArray, List.set_cons_zero, List.set_cons_succ]
              refine anyX_take 5 (by kernel_rfl) (by kernel_rfl) (by kernel_rfl) (by kernel_rfl) (by kernel_rfl) hS0 ?_
              intro oi ho; simp only [List.getElem?_toArray, List.getElem?_cons_succ, List.getElem?_cons_zero, Option.some.injEq] at ho; subst ho
              refine ⟨?_, fun _ _ _ h => h, Or.inl ⟨by rfl, ?_⟩, ?_⟩; rotate_left 1
              · (intro wS hSw; (try dsimp only at hSw); go_simp; try with_reducible rfl)
              simp only [Act.put, List.setIfInBounds_toArray, List.set_cons_zero, List.set_cons_succ]
              refine anyX_take 6 (by kernel_rfl) (by kernel_rfl) (by kernel_rfl) (by kernel_rfl) (by kernel_rfl) hS0 ?_
              intro oi ho; simp only [List.getElem?_toArray, List.getElem?_cons_succ, List.getElem?_cons_zero, Option.some.injEq] at ho; subst ho
              refine ⟨?_, fun _ _ _ h => h, Or.inl ⟨by rfl, ?_⟩, ?_⟩; rotate_left 1
              · (intro wS hSw; (try dsimp only at hSw); go_simp; try with_reducible rfl)
              simp only [Act.put, List.setIfInBounds_toArray, List.set_cons_zero, List.set_cons_succ]
              refine anyX_take 7 (by kernel_rfl) (by kernel_rfl) (by kernel_rfl) (by kernel_rfl) (by kernel_rfl) hS0 ?_
              intro oi ho; simp only [List.getElem?_toArray, List.getElem?_cons_succ, List.getElem?_cons_zero, Option.some.injEq] at ho; subst ho
              refine ⟨?_, fun _ _ _ h => h, Or.inl ⟨by rfl, ?_⟩, ?_⟩; rotate_left 1
              · (intro wS hSw; (try dsimp only at hSw); go_simp; try with_reducible rfl)
              simp only [Act.put, List.setIfInBounds_toArray, List.set_cons_zero, List.set_cons_succ]
              refine anyX_take 8 (by kernel_rfl) (by kernel_rfl) (by kernel_rfl) (by kernel_rfl) (by kernel_rfl) hS0 ?_
              intro oi ho; simp only [List.getElem?_toArray, List.getElem?_cons_succ, List.getElem?_cons_zero, Option.some.injEq] at ho; subst ho
              refine ⟨?_, fun _ _ _ h => h, Or.inl ⟨by rfl, ?_⟩, ?_⟩; rotate_left 1
              · (intro wS hSw; (try dsimp only at hSw); go_simp; try with_reducible rfl)
              simp only [Act.put, List.setIfInBounds_toArray, List.set_cons_zero, List.set_cons_succ]
              refine anyX_one 9 (by kernel_rfl) ?_
              intro oi ho; simp only [List.getElem?_toArray, List.getElem?_cons_succ, List.getElem?_cons_zero, Option.some.injEq] at ho; subst ho; intro K hK
              (try simp only [Act.put, List.setIfInBounds_toArray, List.set_cons_zero, List.set_cons_succ])
              go_simp
              refine hK _ _ (fun _ => hS9 _ ((Keeps.setCell (S := fun k => k = w.heap.size) w8.drew _ _ rfl).trans (Keeps.setCell (S := fun k => k = w.heap.size) _ _ _ rfl) (fun _ _ h => h))) ?_
              clear hK K
              refine anyX_one 10 (by kernel_rfl) ?_
              intro oi ho; simp only [List.getElem?_toArray, List.getElem?_cons_succ, List.getElem?_cons_zero, Option.some.injEq] at ho; subst ho; intro K hK
              (try simp only [Act.put, List.setIfInBounds_toArray, List.set_cons_zero, List.set_cons_succ])
              go_simp
              refine hK _ _ (fun hx => by cases hx) ?_
              clear hK K
              refine anyX_done (by kernel_rfl) ?_
              (try simp only [Act.put, List.setIfInBounds_toArray, List.set_cons_zero, List.set_cons_succ])
              (try simp only [Exit.then])
              go_wp2_with fail
              clear hS0 hS9 hg12 hbr c0 c1 c2 hGl q0 q1 q2 q3 hb5 x0 x1 xf0 xf1 hXl y0 y1 yf0 yf1 hYl g0 g1 hSl
              have hB2 := sk_setB HD8.out.f2 (.string ⟨#[]⟩) (.slice none 0 0)
              have hy3 := hB2.2.heap HD8.out.f3 (by omega)
              have hB3 := sk_setB hy3 (I 50) (I (at5 : Int))
              have hb2' := hB3.2.heap hB2.1 (by omega)
              have kd := (hB2.2.mono (T := fun k => k = w.heap.size ∨ k = w.heap.size + 1) (fun _ _ h => .inl h)).trans hB3.2 (fun _ _ h => .inr h)
              have hdr := (New.refl ((((w8.setCell ⟨w.heap.size, 0, none⟩ (.string ⟨#[]⟩)).setCell ⟨w.heap.size, 1, none⟩ (.slice none 0 0)).setCell ⟨w.heap.size + 1, 0, none⟩ (I 50)).setCell ⟨w.heap.size + 1, 1, none⟩ (I (at5 : Int)))).drew
              have hnew := (HD8.out.nw.keeps kd (fun i hi h => by rcases h with h | h <;> omega)).trans hdr
              have hfin2 := Keeps.heap hdr hb2' (fun h => h)
              have hfin3 := Keeps.heap hdr hB3.1 (fun h => h)
              clear hB2 hy3 hB3 kd hb2' hdr
              generalize (((((w8.setCell ⟨w.heap.size, 0, none⟩ (.string ⟨#[]⟩)).setCell ⟨w.heap.size, 1, none⟩ (.slice none 0 0)).setCell ⟨w.heap.size + 1, 0, none⟩ (I 50)).setCell ⟨w.heap.size + 1, 1, none⟩ (I (at5 : Int))).drew) = Wz at hnew hfin2 hfin3 ⊢
              obtain ⟨r0, r1, -, -, -⟩ := sk_get hfin2
              obtain ⟨v0, v1, -, -, -⟩ := sk_get hfin3
              refine bodyPost_ret (v := .tuple #[.agg #[.string ⟨#[]⟩, .slice none 0 0], .agg #[I 50, I (at5 : Int)]]) (by simp [results, Tryd.results12, go_sem, r0, r1, v0, v1]) rfl ?_
              rw [HPO.out]
              have hres : parseA s.data.toList = .error (50, at5) := by rw [HPP.out, HPM.out]; simp only; rw [HAT5.out]
              rw [hres]
              exact ⟨rfl, hnew⟩
        | false =>
          rw [show ((⟨#[125]⟩ : ByteArray).data.toList) = [125] from rfl, hlk] at hh
          have HLS := Lib.hid (HL.out.step HEE.out hkl hlk)
          have HM0 : Hid (atOf wr G = k ∧ okOf wr G = 1) := Lib.hid ⟨atOf_req HD.out.p, okOf_eq HD.out.p⟩
          have HKL := Lib.hid hkl
          clear hi
          go_wp2_with fail
          refine hh.mono ?_
          rintro e w7 ⟨rfl, n7⟩
          have HD7 := Lib.hid (HD.out.new n7)
          clear hh n7 HD c0 c1 c2 hGl hlk
          go_wp2_with fail
          have hD7 := HD7.out.new ((New.refl w7).drew)
          obtain ⟨-, p1, -, -, hPl⟩ := sk_get hD7.sk.blkP
          have hri := ritem_any w7.drew G l a cc k HEE.out hD7.p
          have HX7 := Lib.hid hD7
          clear hD7
          have hS0 : (fun w' : World => w'.cell? ⟨Sb, 1, none⟩ = some (.slice s'.ia s'.items.length s'.ic) ∧ Sb < w'.heap.size) w7.drew := ⟨p1, hPl⟩
          refine wp_region_X (fun w' : World => w'.cell? ⟨Sb, 1, none⟩ = some (.slice s'.ia s'.items.length s'.ic) ∧ Sb < w'.heap.size) [4, 5, 6] (by kernel_rfl) hS0 ?_
          refine anyX_take 0 (by kernel_rfl) (by kernel_rfl) (by kernel_rfl) (by kernel_rfl) (by kernel_rfl) hS0 ?_
          intro oi ho; simp only [List.getElem?_toArray, List.getElem?_cons_succ, List.getElem?_cons_zero, Option.some.injEq] at ho; subst ho
          refine ⟨?_, fun _ _ _ h => h, Or.inl ⟨by rfl, ?_⟩, ?_⟩; rotate_left 1
          · (intro wS hSw; (try dsimp only at hSw); go_simp; try with_reducible rfl)
          simp only [Act.put, List.setIfInBounds_toArray, List.set_cons_zero, List.set_cons_succ]
          refine anyX_take 1 (by kernel_rfl) (by kernel_rfl) (by kernel_rfl) (by kernel_rfl) (by kernel_rfl) hS0 ?_
          intro oi ho; simp only [List.getElem?_toArray, List.getElem?_cons_succ, List.getElem?_cons_zero, Option.some.injEq] at ho; subst ho
          refine ⟨?_, fun _ _ _ h => h, Or.inl ⟨by rfl, ?_⟩, ?_⟩; rotate_left 1
          · (intro wS hSw; (try dsimp only at hSw); go_simp; try with_reducible rfl)
          simp only [Act.put, List.setIfInBounds_toArray, List.set_cons_zero, List.set_cons_succ]
          refine anyX_one 2 (by kernel_rfl) ?_
          intro oi ho; simp only [List.getElem?_toArray, List.getElem?_cons_succ, List.getElem?_cons_zero, Option.some.injEq] at ho; subst ho; intro K hK
          (try simp only [Act.put, List.setIfInBounds_toArray, List.set_cons_zero, List.set_cons_succ])
          go_simp
          obtain ⟨it9, hit9⟩ : ∃ r, itemS l k = r := ⟨_, rfl⟩
          rw [hit9] at hri HLS
          have hsm := item_sim l k HKL.out
          rw [hit9] at hsm
          have hms : 2 * (l.length - it9.2.1) + (if it9.2.2 = true then 1 else 0) < 2 * (l.length - k) + 1 := by
            have hkl := HKL.out
            cases hp : itemP l k with
            | bad j =>
              rw [hp] at hsm
              have e : it9.2 = (j, false) := hsm
              have := item_bad_ge hkl hp
              rw [e]; simp; omega
            | good x m =>
              rw [hp] at hsm
              have e : it9 = (x, (m, true)) := hsm
              have := HEE.out.item hp
              rw [e]; simp; omega
          have HMS := Lib.hid hms
          have hcnt : s'.items.length + 1 ≤ l.length := by
            have h1 := HX7.out.it
            have h2 : s'.items.length = acc.length := by have := congrArg List.length h1; simpa using this
            have h3 := (HL.out.1 rfl).2.1
            simp only at h3
            have := HKL.out
            omega
          clear hsm hms
          obtain ⟨ix, ist⟩ := it9
          refine hri.mono ?_
          rintro e w9 ⟨ao, co, rfl, hox, hp9, kk9⟩
          have hS1 : (fun w' : World => w'.cell? ⟨Sb, 1, none⟩ = some (.slice s'.ia s'.items.length s'.ic) ∧ Sb < w'.heap.size) w9 := ⟨kk9.cell hS0.1 (by show Sb ≠ G; omega), Nat.lt_of_lt_of_le hS0.2 kk9.size⟩
          have HOX := Lib.hid hox
          have HPX := Lib.hid (And.intro hp9 kk9)
          refine hK _ _ (fun _ => hS1) ?_
          clear hK K hri hS0 hox hp9 kk9
          simp only at HLS HMS HOX HPX hS1 ⊢
          refine anyX_one 3 (by kernel_rfl) ?_
          intro oi ho; simp only [List.getElem?_toArray, List.getElem?_cons_succ, List.getElem?_cons_zero, Option.some.injEq] at ho; subst ho; intro K hK
          (try simp only [Act.put, List.setIfInBounds_toArray, List.set_cons_zero, List.set_cons_succ])
          go_simp
          have kl : New w9 (w9.alloc (.cells (itA (ix.mem ao co)) ItT)) := (New.refl w9).alloc _
          have hlit : SlAt (w9.alloc (.cells (itA (ix.mem ao co)) ItT)) (some ⟨w9.heap.size, 0, none⟩) (itCells (ix.mem ao co)) := SlAt.lit w9 _ _
          refine hK _ _ (fun _ => ⟨New.cell kl hS1.1, Nat.lt_of_lt_of_le hS1.2 kl.size⟩) ?_
          clear hK K hS1
          generalize (w9.alloc (.cells (itA (ix.mem ao co)) ItT)) = VZ at kl hlit ⊢
          generalize w9.heap.size = Z at hlit ⊢
          refine anyX_one 4 (by kernel_rfl) ?_
          intro oi ho; simp only [List.getElem?_toArray, List.getElem?_cons_succ, List.getElem?_cons_zero, Option.some.injEq] at ho; subst ho; intro K hK
          refine step_app rfl _ _ 22 rfl (G + 1) ItT i0 _ 11 136 Tryd.underlying22 hi hz0 hz1 hz2 rfl (by decide) s'.ia s'.items.length s'.ic (s'.items.flatMap itCells) rfl (((HX7.out.call HPX.out.1 HPX.out.2).new kl).sk.own.io) (some ⟨Z, 0, none⟩) 1 1 (itCells (ix.mem ao co)) rfl rfl hlit (one_it _) (by unfold maxLen; have := HX7.out.p.le; omega) (by have := HX7.out.p.le; omega) ((HX7.out.call HPX.out.1 HPX.out.2).new kl).hM ?_
          intro a9 c9 wc hown9 hk9' hmv
          obtain ⟨⟨hv0, hfz, hPl2⟩, hSn⟩ := HX7.out.add HPX.out.1 HPX.out.2 ix HOX.out kl hown9 hk9'
          have HDN := Lib.hid hSn
          refine hK _ _ (fun hx => by cases hx) ?_
          clear hK K hSn hown9 hk9' hmv hlit kl
          refine anyX_one 5 (by kernel_rfl) ?_
          intro oi ho; simp only [List.getElem?_toArray, List.getElem?_cons_succ, List.getElem?_cons_zero, Option.some.injEq] at ho; subst ho; intro K hK
          (try simp only [Act.put, List.setIfInBounds_toArray, List.set_cons_zero, List.set_cons_succ])
          go_simp
          refine hK _ _ (fun hx => by cases hx) ?_
          clear hK K
          refine anyX_one 6 (by kernel_rfl) ?_
          intro oi ho; simp only [List.getElem?_toArray, List.getElem?_cons_succ, List.getElem?_cons_zero, Option.some.injEq] at ho; subst ho; intro K hK
          (try simp only [Act.put, List.setIfInBounds_toArray, List.set_cons_zero, List.set_cons_succ])
          go_simp
          refine hK _ _ (fun hx => by cases hx) ?_
          clear hK K
          refine anyX_done (by kernel_rfl) ?_
          (try simp only [Act.put, List.setIfInBounds_toArray, List.set_cons_zero, List.set_cons_succ])
          (try simp only [Exit.then])
          go_wp2_with fail
          go_roundw
          case rel => exact ⟨_, _, _, HDN, HNM, HLS, by simp only [List.length_append, List.length_singleton]; have := HKL.out; have := hcnt; omega⟩
          case measure =>
            have h1 := HM0.out
            have h2 := atOf_req HDN.out.p
            have h3 := okOf_eq HDN.out.p
            have h4 := HMS.out
            rw [h1.1, h1.2, h2, h3]
            exact h4
  · have hpb := parseA_bad HAA.out hc
    have hc0 : (c == 0) = false := by simpa using hc
    have hc1 : (c != 0) = true := by simpa using hc
    obtain ⟨b0, b1, x0, x1, hBl⟩ := sk_get HBB.out.1
    obtain ⟨d0, d1, y0, y1, hDl⟩ := sk_get HBB.out.2
    have HPB := Lib.hid hpb
    clear hc hpb
    go_wp2_with fail
    obtain ⟨Wf, hWf⟩ : ∃ x, x = w1.alloc (.cells #[I c, I (k : Int)] 27) := ⟨_, rfl⟩
    rw [← hWf] at f0 f1 fl b0 b1 x0 x1 hBl d0 d1 y0 y1 hDl HN1 HBB HSL ⊢
    clear hWf
    have hS0 : (fun w' : World => w'.cell? ⟨w1.heap.size, 0, none⟩ = some (I c) ∧ w'.cell? ⟨w1.heap.size, 1, none⟩ = some (I (k : Int))) Wf.drew := ⟨f0, f1⟩
    refine wp_region_X (fun w' : World => w'.cell? ⟨w1.heap.size, 0, none⟩ = some (I c) ∧ w'.cell? ⟨w1.heap.size, 1, none⟩ = some (I (k : Int))) [3] (by kernel_rfl) hS0 ?_
    have hS9 : ∀ W', Keeps (fun k => k = w.heap.size) Wf.drew W' → (fun w' : World => w'.cell? ⟨w1.heap.size, 0, none⟩ = some (I c) ∧ w'.cell? ⟨w1.heap.size, 1, none⟩ = some (I (k : Int))) W' := fun W' kk => ⟨kk.cell hS0.1 (by show ¬ w1.heap.size = _; omega), kk.cell hS0.2 (by show ¬ w1.heap.size = _; omega)⟩
    refine anyX_take 0 (by kernel_rfl) (by kernel_rfl) (by kernel_rfl) (by kernel_rfl) (by kernel_rfl) hS0 ?_
    intro oi ho; simp only [List.getElem?_toArray, List.getElem?_cons_succ, List.getElem?_cons_zero, Option.some.injEq] at ho; subst ho
    refine ⟨?_, fun _ _ _ h => h, Or.inl ⟨by rfl, ?_⟩, ?_⟩; rotate_left 1
    · (intro wS hSw; (try dsimp only at hSw); go_simp; try with_reducible rfl)
    simp only [Act.put, List.setIfInBounds_toArray, List.set_cons_zero, List.set_cons_succ]
    refine anyX_take 1 (by kernel_rfl) (by kernel_rfl) (by kernel_rfl) (by kernel_rfl) (by kernel_rfl) hS0 ?_
    intro oi ho; simp only [List.getElem?_toArray, List.getElem?_cons_succ, List.getElem?_cons_zero, Option.some.injEq] at ho; subst ho
    refine ⟨?_, fun _ _ _ h => h, Or.inl ⟨by rfl, ?_⟩, ?_⟩; rotate_left 1
    · (intro wS hSw; (try dsimp only at hSw); go_simp; try with_reducible rfl)
    simp only [Act.put, List.setIfInBounds_toArray, List.set_cons_zero, List.set_cons_succ]
    refine anyX_one 2 (by kernel_rfl) ?_
    intro oi ho; simp only [List.getElem?_toArray, List.getElem?_cons_succ, List.getElem?_cons_zero, Option.some.injEq] at ho; subst ho; intro K hK
    (try simp only [Act.put, List.setIfInBounds_toArray, List.set_cons_zero, List.set_cons_succ])
    go_simp
    refine hK _ _ (fun _ => hS9 _ ((Keeps.setCell (S := fun k => k = w.heap.size) Wf.drew _ _ rfl).trans (Keeps.setCell (S := fun k => k = w.heap.size) _ _ _ rfl) (fun _ _ h => h))) ?_
    clear hK K
    refine anyX_one 3 (by kernel_rfl) ?_
    intro oi ho; simp only [List.getElem?_toArray, List.getElem?_cons_succ, List.getElem?_cons_zero, Option.some.injEq] at ho; subst ho; intro K hK
    (try simp only [Act.put, List.setIfInBounds_toArray, List.set_cons_zero, List.set_cons_succ])
    go_simp
    refine hK _ _ (fun hx => by cases hx) ?_
    clear hK K
    refine anyX_done (by kernel_rfl) ?_
    (try simp only [Act.put, List.setIfInBounds_toArray, List.set_cons_zero, List.set_cons_succ])
    (try simp only [Exit.then])
    go_wp2_with fail
    clear hS0 hS9 f0 f1 fl b0 b1 x0 x1 hBl d0 d1 y0 y1 hDl
    have hB2 := sk_setB HBB.out.1 (.string ⟨#[]⟩) (.slice none 0 0)
    have hy3 := hB2.2.heap HBB.out.2 (by omega)
    have hB3 := sk_setB hy3 (I c) (I (k : Int))
    have hb2' := hB3.2.heap hB2.1 (by omega)
    have kd := (hB2.2.mono (T := fun k => k = w.heap.size ∨ k = w.heap.size + 1) (fun _ _ h => .inl h)).trans hB3.2 (fun _ _ h => .inr h)
    have hdr := (New.refl ((((Wf.setCell ⟨w.heap.size, 0, none⟩ (.string ⟨#[]⟩)).setCell ⟨w.heap.size, 1, none⟩ (.slice none 0 0)).setCell ⟨w.heap.size + 1, 0, none⟩ (I c)).setCell ⟨w.heap.size + 1, 1, none⟩ (I (k : Int)))).drew
    have hnew := (HN1.out.keeps kd (fun i hi h => by rcases h with h | h <;> omega)).trans hdr
    have hfin2 := Keeps.heap hdr hb2' (fun h => h)
    have hfin3 := Keeps.heap hdr hB3.1 (fun h => h)
    clear hB2 hy3 hB3 kd hb2' hdr
    generalize (((((Wf.setCell ⟨w.heap.size, 0, none⟩ (.string ⟨#[]⟩)).setCell ⟨w.heap.size, 1, none⟩ (.slice none 0 0)).setCell ⟨w.heap.size + 1, 0, none⟩ (I c)).setCell ⟨w.heap.size + 1, 1, none⟩ (I (k : Int))).drew) = Wz at hnew hfin2 hfin3 ⊢
    obtain ⟨r0, r1, -, -, -⟩ := sk_get hfin2
    obtain ⟨v0, v1, -, -, -⟩ := sk_get hfin3
    refine bodyPost_ret (v := .tuple #[.agg #[.string ⟨#[]⟩, .slice none 0 0], .agg #[I c, I (k : Int)]]) (by simp [results, Tryd.results12, go_sem, r0, r1, v0, v1]) rfl ?_
    rw [HPO.out]
    rw [HPB.out]
    exact ⟨rfl, hnew⟩
end Go.Proofs.YtohalcbhckahmaaDoor
