/-
  Layer 5: has a sketch more parts than a statement copies; a sketch that is lent.
-/
import Derived.Test.YtohalcbhckahmaaDoorSkO
import Derived.Test.YtohalcbhckahmaaDoorReadSk
import Derived.Test.YtohalcbhckahmaaDoorShapeF
namespace Go.Proofs.YtohalcbhckahmaaDoor
open Go Go.RowKit Go.Joins
set_option linter.all false

structure SFew (s : Sk) : Prop where
  n : s.items.length ≤ 1048576
  ix : ∀ x ∈ s.items, x.xs.length ≤ 1048576
theorem lt_cast (m : Nat) : decide ((1048576 : Int) < (m : Int)) = decide (1048576 < m) := by
  rw [Bool.eq_iff_iff]; simp; omega
set_option maxRecDepth 100000 in
set_option maxHeartbeats 8000000 in
theorem heavyS_any (w : World) (s : Sk) (hs : SkAt w s) (hr : SRoom s) :
    Calls Tryd.prog 16 #[s.v] w fun e w' => (e = .returned (.bool true) ∨ (e = .returned (.bool false) ∧ SFew s)) ∧ New w w' := by
  have ra := hr.i
  have RAX := Lib.hid hr.ix
  have HG := Lib.hid hs
  clear hs hr
  obtain ⟨post, hpost⟩ : ∃ post : Ending → World → Prop, (fun e w' => (e = .returned (.bool true) ∨ (e = .returned (.bool false) ∧ SFew s)) ∧ New w w') = post := ⟨_, rfl⟩
  rw [hpost]
  have HP := Lib.hid hpost
  clear hpost
  obtain ⟨aI, hA⟩ : ∃ a, s.ia = a := ⟨_, rfl⟩
  simp only [Sk.v, Sk.cs]
  rw [hA]
  have HA := Lib.hid hA
  clear hA
  go_enter Tryd.func16, Tryd.ntmps16
  go_wp2_with fail
  have na : New w (w.alloc (.cells #[.string s.name, .slice aI s.items.length s.ic] 24)) := (New.refl w).alloc _
  have ha : (w.alloc (.cells #[.string s.name, .slice aI s.items.length s.ic] 24)).heap[w.heap.size]? = some (.cells #[.string s.name, .slice aI s.items.length s.ic] 24 (0, 0)) := heap_alloc_new w _
  generalize (w.alloc (.cells #[.string s.name, .slice aI s.items.length s.ic] 24)) = W at na ha ⊢
  have HB := Lib.hid ha
  clear ha
  go_loopw [3, 4] (fun v i wr => ∃ (k m : Nat), k ≤ s.items.length ∧ i = .int .i64 k ∧ v = .int .i64 m ∧ m ≤ 70368744177664 ∧ s.items.length ≤ m ∧ Hid ((∀ j (hj : j < s.items.length), j < k → s.items[j].xs.length ≤ m) ∧ New W wr)) (fun _ i _ => s.items.length - (intOf i).toNat)
  case atStart => exact ⟨0, s.items.length, by omega, rfl, by go_num, by omega, by omega, Lib.hid ⟨fun j hj h => by omega, New.refl _⟩⟩
  case round =>
    obtain ⟨k, m, hk, rfl, rfl, hm1, hm2, HR⟩ := hrel
    have hN := HR.out.2
    obtain ⟨-, c1, -, -, hCl⟩ := sk_get (Keeps.heap hN HB.out (fun h => h))
    by_cases hc : k < s.items.length ∧ m ≤ 1048576
    · obtain ⟨hk1, hm3⟩ := hc
      have hkI : (k : Int) < (s.items.length : Int) := by omega
      have hkd : decide (k < s.items.length) = true := decide_eq_true hk1
      have hmI : (m : Int) ≤ 1048576 := by omega
      have hmd : decide (m ≤ 1048576) = true := decide_eq_true hm3
      obtain ⟨b, off, hab, q0, q1, q2, q3, q4, q5, q6, q7, q8, q9, q10⟩ := items_row (HG.out.new (na.trans hN)).sl hk1
      have hbw : b < wr.heap.size := World.block_lt_of_cell? wr _ q0
      have hxr := RAX.out _ (List.getElem_mem hk1)
      have e : aI = some ⟨b, off, none⟩ := HA.out.symm.trans hab
      subst e
      have HR2 : Hid (∀ j (hj : j < s.items.length), j < k + 1 → s.items[j].xs.length ≤ m + s.items[k].xs.length) := Lib.hid (fun j hj hjk => by
        by_cases e : j = k
        · subst e; omega
        · have := HR.out.1 j hj (by omega); omega)
      clear hab
      generalize s.items[k] = x at q0 q1 q2 q3 q4 q5 q6 q7 q8 q9 q10 hxr HR2
      go_wp2_with fail
      go_roundw
      case rel => exact ⟨k + 1, m + x.xs.length, by omega, by go_num, by go_num, by omega, by omega, Lib.hid ⟨HR2.out, hN⟩⟩
      case measure => simp [intOf]; omega
    · have HPP : Hid (∀ W' b, b = decide (1048576 < m) → New wr W' → post (.returned (.bool b)) W') := Lib.hid (fun W' b hb kW => by
        rw [← HP.out]
        refine ⟨?_, (na.trans hN).trans kW⟩
        by_cases h : 1048576 < m
        · left; rw [hb, decide_eq_true h]
        · right
          refine ⟨by rw [hb, decide_eq_false h], by omega, fun x hx => ?_⟩
          obtain ⟨j, hj, rfl⟩ := List.getElem_of_mem hx
          have := HR.out.1 j hj (by omega)
          omega)
      clear HR
      by_cases hk1 : k < s.items.length
      case' pos =>
        have hkI : (k : Int) < (s.items.length : Int) := by omega
        have hkd : decide (k < s.items.length) = true := decide_eq_true hk1
        have hmI : (1048576 : Int) < (m : Int) := by omega
        have hmd : decide (m ≤ 1048576) = false := decide_eq_false (by omega)
      case' neg =>
        have hkI : (s.items.length : Int) ≤ (k : Int) := by omega
        have hkd : decide (k < s.items.length) = false := decide_eq_false hk1
      all_goals
        clear hc
        go_wp2_with fail
        first
          | exact HPP.out _ (decide ((1048576 : Int) < (m : Int))) (lt_cast m) (New.refl _)
          | exact HPP.out _ true ((decide_eq_true (by omega)).symm) (New.refl _)
          | exact HPP.out _ false ((decide_eq_false (by omega)).symm) (New.refl _)
abbrev markI : List Value := Is [-7770777, -7770777, -7770777, -7770777]
/-- A list of numbers that is lent: a block of its own, four marks behind it. -/
def LtB (w : World) (a : Option Addr) (c : Nat) (xs : List Int) : Prop := ∃ b, a = some ⟨b, 0, none⟩ ∧ c = xs.length + 4 ∧ w.heap[b]? = some (.cells ((Is xs ++ markI).toArray) 3 (0, 0))
theorem LtB.keeps {S : Nat → Prop} {w w' : World} {a : Option Addr} {c : Nat} {xs : List Int} (h : LtB w a c xs) (k : Keeps S w w') (hS : ∀ g, S g → ∃ cur t fr, w.heap[g]? = some (.cells cur t fr) ∧ t ≠ 3) : LtB w' a c xs := by
  obtain ⟨b, e1, e2, hb⟩ := h
  refine ⟨b, e1, e2, k.heap hb (fun hx => ?_)⟩
  obtain ⟨cur, t, fr, h1, h2⟩ := hS b hx
  rw [hb] at h1; cases h1; exact h2 rfl
theorem LtB.new {w w' : World} {a : Option Addr} {c : Nat} {xs : List Int} (h : LtB w a c xs) (k : New w w') : LtB w' a c xs := h.keeps k (fun g hg => hg.elim)
theorem LtB.own {w : World} {B b : Nat} {xs : List Int} (hb : w.heap[b]? = some (.cells ((Is xs ++ markI).toArray) 3 (0, 0))) (hB : B ≤ b) (hn : xs.length ≤ 1048576) : OwnI w B (some ⟨b, 0, none⟩) (xs.length + 4) xs := by
  refine ⟨by simp [Is], .inr ⟨b, xs.length + 4, _, rfl, hB, hb, by omega, by unfold maxLen; omega, ?_, ?_⟩⟩
  · simp [Is, markI]
  · have hl : (Is xs).length = xs.length * 1 := by simp [Is]
    rw [← hl]
    exact List.take_left
theorem LtB.sl {w : World} {a : Option Addr} {c : Nat} {xs : List Int} (h : LtB w a c xs) : SlAt w a (Is xs) := by
  obtain ⟨b, rfl, rfl, hb⟩ := h
  have := (SlAt.block hb).take xs.length
  have hl : (Is xs).length = xs.length := by simp [Is]
  rw [← hl, List.take_left] at this
  exact this
theorem SlAt.left {w : World} {a : Option Addr} {xs ys : List Value} (h : SlAt w a (xs ++ ys)) : SlAt w a xs := by
  have := h.take xs.length
  rwa [List.take_left] at this
def mkIt : SIt := ⟨99, ⟨#[109, 97, 114, 107]⟩, ⟨#[]⟩, none, 0, [], ⟨#[]⟩, 0, 0, ⟨#[]⟩, 0, 0, 0⟩
theorem SkOwn.other {S : Nat → Prop} {w w' : World} {B : Nat} {q : Sk} (h : SkOwn w B q) (k : Keeps S w w') (hS : ∀ g, S g → ∃ cur t fr, w.heap[g]? = some (.cells cur t fr) ∧ t ≠ 3 ∧ t ≠ 42) : SkOwn w' B q :=
  ⟨own_oth h.io k (fun g hg => by obtain ⟨c, t, fr, h1, _, h2⟩ := hS g hg; exact ⟨c, t, fr, h1, h2⟩), fun x hx => own_oth (h.nx x hx) k (fun g hg => by obtain ⟨c, t, fr, h1, h2, _⟩ := hS g hg; exact ⟨c, t, fr, h1, h2⟩), h.ap⟩
theorem SkOwn.add {w1 w2 w3 : World} {B : Nat} {q : Sk} (h : SkOwn w1 B q) (x : SIt) (hx : OwnI w2 B x.a x.c x.xs) (hd : ∀ k, blk x.a k → w1.heap.size ≤ k) (k12 : New w1 w2)
    {a' : Option Addr} {c' : Nat} (ho : w3.ownsRow B 42 11 (.slice a' (q.items.length + 1) c') (q.items.length + 1) (q.items.flatMap itCells ++ itCells x)) (hk : Keeps (blk q.ia) w2 w3) :
    SkOwn w3 B { q with ia := a', ic := c', items := q.items ++ [x] } ∧ Keeps (blk q.ia) w1 w3 := by
  have h2 := h.new k12
  have htag : ∀ g, blk q.ia g → ∃ cur, w2.heap[g]? = some (.cells cur 42 (0, 0)) := fun g hg => tab_tag h2.io (own_blk hg)
  have hto : ∀ e : TypeId, 42 ≠ e → ∀ g, blk q.ia g → ∃ cur t fr, w2.heap[g]? = some (.cells cur t fr) ∧ t ≠ e := fun e he g hg => by
    obtain ⟨cur, hc⟩ := htag g hg; exact ⟨cur, _, _, hc, he⟩
  refine ⟨⟨?_, ?_, ?_⟩, (Keeps.mono k12 (fun _ _ h => h.elim)).trans hk (fun _ _ h => h)⟩
  · simpa using ho
  · intro y hy
    rcases List.mem_append.1 hy with hy | hy
    · exact own_oth (h2.nx y hy) hk (hto _ (by decide))
    · rw [List.mem_singleton.1 hy]; exact own_oth hx hk (hto _ (by decide))
  · simp only [List.map_append, List.map_cons, List.map_nil]
    rw [List.pairwise_append]
    refine ⟨h.ap, List.pairwise_singleton _ _, fun b hb c hc => ?_⟩
    rw [List.mem_singleton.1 hc]
    intro k hk1 hk2
    obtain ⟨y, hy, rfl⟩ := List.mem_map.1 hb
    have h3 := (own_of_blk (h.nx y hy) hk1).2
    have h4 := hd k hk2
    omega
/-- How far the lending has come. -/
structure LSs (w : World) (s : Sk) (P : Nat) (q : Sk) (n : Nat) (w' : World) : Prop where
  own : SkOwn w' w.heap.size q
  bl : w'.heap[P]? = some (.cells #[.string s.name, .slice q.ia n q.ic] 24 (0, 0))
  la : ∀ x ∈ q.items, x = mkIt ∨ LtB w' x.a x.c x.xs
  nw : New w w'
  hs : w'.heap[w.heap.size]? = some (.cells s.cs 24 (0, 0))
  hr : w'.heap[w.heap.size + 1]? = some (.cells #[.string ⟨#[]⟩, .slice none 0 0] 24 (0, 0))
  hP : w.heap.size + 1 < P
theorem LSs.new {w w1 w2 : World} {s : Sk} {P n : Nat} {q : Sk} (h : LSs w s P q n w1) (k : New w1 w2) : LSs w s P q n w2 :=
  ⟨h.own.new k, Keeps.heap k h.bl (fun h => h), fun x hx => (h.la x hx).imp id (fun y => y.new k), h.nw.trans k, Keeps.heap k h.hs (fun h => h), Keeps.heap k h.hr (fun h => h), h.hP⟩
/-- The sketch's own block written. -/
theorem LSs.set {w w1 : World} {s : Sk} {P n : Nat} {q q' : Sk} (m : Nat) (h : LSs w s P q n w1) {w3 : World} {a : Option Addr} (hown : SkOwn w3 w.heap.size q') (k : Keeps (blk a) w1 w3) (ht : ∀ b, blk a b → ∃ cur, w1.heap[b]? = some (.cells cur 42 (0, 0))) (hlo : ∀ b, blk a b → w.heap.size ≤ b)
    (hla : ∀ x ∈ q'.items, x ∈ q.items ∨ x = mkIt ∨ LtB w3 x.a x.c x.xs) : LSs w s P q' m (w3.setCell ⟨P, 1, none⟩ (.slice q'.ia m q'.ic)) := by
  have hP := h.hP
  have hh : ∀ {b : Nat} {cs : Array Value}, w1.heap[b]? = some (.cells cs 24 (0, 0)) → w3.heap[b]? = some (.cells cs 24 (0, 0)) := fun hb => k.heap hb (fun hx => by
    obtain ⟨cur, hcx⟩ := ht _ hx
    rw [hb] at hcx; simp at hcx)
  have hP3 := hh h.bl
  have ks : Keeps (fun k => k = P) w3 (w3.setCell ⟨P, 1, none⟩ (.slice q'.ia m q'.ic)) := Keeps.setCell w3 _ _ rfl
  have htP : ∀ g, g = P → ∃ cur t fr, w3.heap[g]? = some (.cells cur t fr) ∧ t ≠ 3 := fun g hg => ⟨_, _, _, hg ▸ hP3, by decide⟩
  have hk3 : ∀ b, blk a b → ∃ cur t fr, w1.heap[b]? = some (.cells cur t fr) ∧ t ≠ 3 := fun b hb => by
    obtain ⟨cur, hc⟩ := ht b hb; exact ⟨cur, _, _, hc, by decide⟩
  refine ⟨hown.other ks (fun g hg => ⟨_, _, _, hg ▸ hP3, by decide, by decide⟩), ?_, fun x hx => ?_, ?_, ks.heap (hh h.hs) (by omega), ks.heap (hh h.hr) (by omega), hP⟩
  · rw [block_setCell hP3]; rfl
  · rcases hla x hx with h1 | h1 | h1
    · exact (h.la x h1).imp id (fun y => (y.keeps k hk3).keeps ks htP)
    · exact .inl h1
    · exact .inr (h1.keeps ks htP)
  · exact New.keeps (New.keeps h.nw k (fun i hi hb => by have := hlo i hb; omega)) ks (fun i hi e => by omega)
theorem bare_snoc {α : Type} {f : α → α} {l m : List α} {k : Nat} {x : α} (h : l.map f = (m.take k).map f) (hk : k < m.length) (hx : f x = f m[k]) : (l ++ [x]).map f = (m.take (k + 1)).map f := by
  rw [List.map_append, h, List.take_succ_eq_append_getElem hk, List.map_append]; simp [hx]
theorem bare_take_len {α : Type} {f : α → α} {l m : List α} {k : Nat} (h : l.map f = (m.take k).map f) (hk : k ≤ m.length) : l.length = k := by
  have := congrArg List.length h
  simp only [List.length_map, List.length_take] at this
  omega
/-- A sketch that is lent. -/
def LentS (w : World) (s : Sk) (e : Ending) (w' : World) : Prop := ∃ (a : Option Addr) (c : Nat) (l : List SIt), e = .returned (.agg #[.string s.name, .slice a s.items.length c]) ∧ SkOwn w' w.heap.size ⟨s.name, a, c, l ++ [mkIt]⟩ ∧ l.map SIt.bare = s.items.map SIt.bare ∧ (∀ x ∈ l, LtB w' x.a x.c x.xs) ∧ New w w'
set_option maxRecDepth 100000 in
set_option maxHeartbeats 32000000 in
theorem lentS_any (w : World) (s : Sk) (hg : SkAt w s) (hf : SFew s) :
    Calls Tryd.prog 17 #[s.v] w (LentS w s) := by
  have HG := Lib.hid hg
  have hfn := hf.n
  have FAX := Lib.hid hf.ix
  clear hg hf
  obtain ⟨it1, hit1, ha0, ha1, ha2⟩ := info_parts infoItem
  obtain ⟨aI, hA⟩ : ∃ a, s.ia = a := ⟨_, rfl⟩
  simp only [Sk.v, Sk.cs]
  rw [hA]
  have HA := Lib.hid hA
  clear hA
  obtain ⟨post, hpost⟩ : ∃ post : Ending → World → Prop, LentS w s = post := ⟨_, rfl⟩
  rw [hpost]
  have HP := Lib.hid hpost
  clear hpost
  go_enter Tryd.func17, Tryd.ntmps17
  go_wp2_with fail
  have na : New w (w.alloc (.cells #[.string s.name, .slice aI s.items.length s.ic] 24)) := (New.refl w).alloc _
  have ha : (w.alloc (.cells #[.string s.name, .slice aI s.items.length s.ic] 24)).heap[w.heap.size]? = some (.cells #[.string s.name, .slice aI s.items.length s.ic] 24 (0, 0)) := heap_alloc_new w _
  have sa : (w.alloc (.cells #[.string s.name, .slice aI s.items.length s.ic] 24)).heap.size = w.heap.size + 1 := by simp
  generalize (w.alloc (.cells #[.string s.name, .slice aI s.items.length s.ic] 24)) = wa at na ha sa ⊢
  have nb : New wa (wa.alloc (.cells #[.string ⟨#[]⟩, .slice none 0 0] 24)) := (New.refl wa).alloc _
  have hb : (wa.alloc (.cells #[.string ⟨#[]⟩, .slice none 0 0] 24)).heap[wa.heap.size]? = some (.cells #[.string ⟨#[]⟩, .slice none 0 0] 24 (0, 0)) := heap_alloc_new wa _
  rw [sa] at hb
  have sb : (wa.alloc (.cells #[.string ⟨#[]⟩, .slice none 0 0] 24)).heap.size = w.heap.size + 1 + 1 := by rw [← sa]; simp
  generalize (wa.alloc (.cells #[.string ⟨#[]⟩, .slice none 0 0] 24)) = wb at nb hb sb ⊢
  have nc : New wb (wb.alloc (.cells #[.string s.name, .slice none 0 0] 24)) := (New.refl wb).alloc _
  have hc : (wb.alloc (.cells #[.string s.name, .slice none 0 0] 24)).heap[wb.heap.size]? = some (.cells #[.string s.name, .slice none 0 0] 24 (0, 0)) := heap_alloc_new wb _
  have hPlo : w.heap.size + 1 < wb.heap.size := by omega
  generalize (wb.alloc (.cells #[.string s.name, .slice none 0 0] 24)) = wc at nc hc ⊢
  rw [sb] at hc hPlo
  generalize w.heap.size + 1 + 1 = P at hc hPlo ⊢
  have HX := Lib.hid (Keeps.heap nc (Keeps.heap nb ha (fun h => h)) (fun h => h))
  have hgc : Hid (wc.heap[w.heap.size]? = some (.cells s.cs 24 (0, 0))) := Lib.hid (by rw [Sk.cs, HA.out]; exact HX.out)
  have HD : Hid (LSs w s P (⟨s.name, none, 0, []⟩ : Sk) 0 wc) := Lib.hid ⟨⟨World.ownsRow_nil _ _ _ _, (fun x hx => by cases hx), List.Pairwise.nil⟩, hc, (fun x hx => by cases hx), (na.trans nb).trans nc, hgc.out, Keeps.heap nc hb (fun h => h), hPlo⟩
  clear na nb nc ha hb hc sa sb hgc HX
  go_wp2_with fail
  go_loopw [4] (fun i wr => ∃ (k : Nat) (a : Option Addr) (c : Nat) (l : List SIt), k ≤ s.items.length ∧ i = .int .i64 k ∧ Hid (LSs w s P (⟨s.name, a, c, l⟩ : Sk) k wr ∧ l.map SIt.bare = (s.items.take k).map SIt.bare ∧ ∀ x ∈ l, LtB wr x.a x.c x.xs)) (fun i _ => s.items.length - (intOf i).toNat)
  case atStart => exact ⟨0, none, 0, [], by omega, rfl, Lib.hid ⟨HD.out, rfl, fun x hx => by cases hx⟩⟩
  case round =>
    clear HD
    obtain ⟨k, a, c, l, hk, rfl, HR⟩ := hrel
    obtain ⟨g0, g1, -, -, hGl⟩ := sk_get HR.out.1.hs
    rw [HA.out] at g1
    by_cases hk1 : k < s.items.length
    · have hkI : (k : Int) < (s.items.length : Int) := by omega
      have hkd : decide (k < s.items.length) = true := decide_eq_true hk1
      obtain ⟨b, off, hab, q0, q1, q2, q3, q4, q5, q6, q7, q8, q9, q10⟩ := items_row (HG.out.new HR.out.1.nw).sl hk1
      have hbw : b < wr.heap.size := World.block_lt_of_cell? wr _ q0
      have hxl := FAX.out _ (List.getElem_mem hk1)
      have HXS := Lib.hid (fun W (n : New wr W) => ((HG.out.new HR.out.1.nw).nx _ (List.getElem_mem hk1)).new n)
      have HBS : Hid (∀ y : SIt, y.bare = s.items[k].bare → (l ++ [y]).map SIt.bare = (s.items.take (k + 1)).map SIt.bare) := Lib.hid (fun y hy => bare_snoc HR.out.2.1 hk1 hy)
      have HLL := Lib.hid (bare_take_len HR.out.2.1 (by omega))
      have e : aI = some ⟨b, off, none⟩ := HA.out.symm.trans hab
      subst e
      clear hab
      generalize s.items[k] = x at q0 q1 q2 q3 q4 q5 q6 q7 q8 q9 q10 hxl HXS HBS
      go_wp2_with fail
      have kb : New wr (wr.alloc (.cells #[.int .u8 x.kind, .string x.name, .string x.tag, .slice x.a x.xs.length x.c, .string x.fn, I x.fp, I x.fa, .string x.tn, I x.tp, I x.ta, I x.at_] 42)) := (New.refl wr).alloc _
      have hby : (wr.alloc (.cells #[.int .u8 x.kind, .string x.name, .string x.tag, .slice x.a x.xs.length x.c, .string x.fn, I x.fp, I x.fa, .string x.tn, I x.tp, I x.ta, I x.at_] 42)).heap[wr.heap.size]? = some (.cells #[.int .u8 x.kind, .string x.name, .string x.tag, .slice x.a x.xs.length x.c, .string x.fn, I x.fp, I x.fa, .string x.tn, I x.tp, I x.ta, I x.at_] 42 (0, 0)) := heap_alloc_new wr _
      generalize (wr.alloc (.cells #[.int .u8 x.kind, .string x.name, .string x.tag, .slice x.a x.xs.length x.c, .string x.fn, I x.fp, I x.fa, .string x.tn, I x.tp, I x.ta, I x.at_] 42)) = w1 at kb hby ⊢
      obtain ⟨Y, hY⟩ : ∃ Y, Y = wr.heap.size := ⟨_, rfl⟩
      rw [← hY] at hby ⊢
      have HYY := Lib.hid hY
      clear hY
      refine (lent_any x.a x.c x.xs w1 (HXS.out _ kb) (by omega)).mono ?_
      rintro e w2 ⟨gb, rfl, hgb, hblk, k2⟩
      have hY2 := Keeps.heap k2 hby (fun h => h)
      obtain ⟨⟨y0, y1, y2, y3, y4, y5, y6, y7, y8, y9, y10⟩, zf, hYl⟩ := it_get hY2
      have yf := zf 3
      have hYg : ¬ gb = Y := by have := (Array.getElem?_eq_some_iff.1 hby).1; omega
      clear q0 q1 q2 q3 q4 q5 q6 q7 q8 q9 q10 hbw g0 g1 hGl zf
      go_upto_region 7 with (fail)
      have k3 : New wr (w2.setCell ⟨Y, 3, none⟩ (.slice (some ⟨gb, 0, none⟩) x.xs.length (x.xs.length + 4))) := (kb.trans k2).setCell (by rw [← HYY.out]; exact Nat.le_refl _) _
      have hY3 : (w2.setCell ⟨Y, 3, none⟩ (.slice (some ⟨gb, 0, none⟩) x.xs.length (x.xs.length + 4))).heap[Y]? = some (.cells #[.int .u8 x.kind, .string x.name, .string x.tag, .slice (some ⟨gb, 0, none⟩) x.xs.length (x.xs.length + 4), .string x.fn, I x.fp, I x.fa, .string x.tn, I x.tp, I x.ta, I x.at_] 42 (0, 0)) := by
        rw [block_setCell hY2]; simp
      have hb3 := (Keeps.setCell (S := fun k => k = Y) w2 ⟨Y, 3, none⟩ (.slice (some ⟨gb, 0, none⟩) x.xs.length (x.xs.length + 4)) rfl).heap hblk hYg
      generalize (w2.setCell ⟨Y, 3, none⟩ (.slice (some ⟨gb, 0, none⟩) x.xs.length (x.xs.length + 4))) = w3 at k3 hY3 hb3 ⊢
      have kz : New w3 (w3.alloc (.cells #[.int .u8 x.kind, .string x.name, .string x.tag, .slice (some ⟨gb, 0, none⟩) x.xs.length (x.xs.length + 4), .string x.fn, I x.fp, I x.fa, .string x.tn, I x.tp, I x.ta, I x.at_] 42)) := (New.refl w3).alloc _
      have hlit : SlAt (w3.alloc (.cells #[.int .u8 x.kind, .string x.name, .string x.tag, .slice (some ⟨gb, 0, none⟩) x.xs.length (x.xs.length + 4), .string x.fn, I x.fp, I x.fa, .string x.tn, I x.tp, I x.ta, I x.at_] 42)) (some ⟨w3.heap.size, 0, none⟩) (itCells (⟨x.kind, x.name, x.tag, some ⟨gb, 0, none⟩, x.xs.length + 4, x.xs, x.fn, x.fp, x.fa, x.tn, x.tp, x.ta, x.at_⟩ : SIt)) := SlAt.lit w3 _ _
      have hoz : (w3.alloc (.cells #[.int .u8 x.kind, .string x.name, .string x.tag, .slice (some ⟨gb, 0, none⟩) x.xs.length (x.xs.length + 4), .string x.fn, I x.fp, I x.fa, .string x.tn, I x.tp, I x.ta, I x.at_] 42)).ownsRow w.heap.size 42 11 (.slice a k c) k (l.flatMap itCells) := by
        have := ((HR.out.1.new k3).new kz).own.io
        simp only at this
        rw [HLL.out] at this; exact this
      have hxo : OwnI (w3.alloc (.cells #[.int .u8 x.kind, .string x.name, .string x.tag, .slice (some ⟨gb, 0, none⟩) x.xs.length (x.xs.length + 4), .string x.fn, I x.fp, I x.fa, .string x.tn, I x.tp, I x.ta, I x.at_] 42)) w.heap.size (some ⟨gb, 0, none⟩) (x.xs.length + 4) x.xs := LtB.own (Keeps.heap kz hb3 (fun h => h)) (by have := HR.out.1.nw.size; have := kb.size; omega) hxl
      have hxd : ∀ k, blk (some ⟨gb, 0, none⟩ : Option Addr) k → wr.heap.size ≤ k := fun k hk => by
        obtain ⟨y, hy, rfl⟩ := hk
        cases hy
        exact Nat.le_trans kb.size hgb
      have hbz : w.heap.size ≤ (w3.alloc (.cells #[.int .u8 x.kind, .string x.name, .string x.tag, .slice (some ⟨gb, 0, none⟩) x.xs.length (x.xs.length + 4), .string x.fn, I x.fp, I x.fa, .string x.tn, I x.tp, I x.ta, I x.at_] 42)).heap.size := Nat.le_trans (Nat.le_trans HR.out.1.nw.size k3.size) kz.size
      obtain ⟨p0, p1, -, -, hPl⟩ := sk_get (Keeps.heap k3 HR.out.1.bl (fun h => h))
      obtain ⟨⟨z0, z1, z2, z3, z4, z5, z6, z7, z8, z9, z10⟩, -, hZl⟩ := it_get hY3
      clear y0 y1 y2 y3 y4 y5 y6 y7 y8 y9 y10 hYl yf hYg hY2 hby k2 hblk
      have hkf : k ≤ 1048576 := by omega
      go_wp2_with (at_builtin; refine wpList_app rfl _ _ 22 rfl w.heap.size 42 it1 _ 11 136 Tryd.underlying22 hit1 ha0 ha1 ha2 rfl (by decide) a k c (l.flatMap itCells) rfl hoz (some ⟨w3.heap.size, 0, none⟩) 1 1 (itCells (⟨x.kind, x.name, x.tag, some ⟨gb, 0, none⟩, x.xs.length + 4, x.xs, x.fn, x.fp, x.fa, x.tn, x.tp, x.ta, x.at_⟩ : SIt)) rfl rfl hlit (one_it _) (by unfold maxLen; omega) (by omega) hbz ?_)
      intro a' c' w4 hown' hk' hm' _
      have hadd := HR.out.1.own.add (⟨x.kind, x.name, x.tag, some ⟨gb, 0, none⟩, x.xs.length + 4, x.xs, x.fn, x.fp, x.fa, x.tn, x.tp, x.ta, x.at_⟩ : SIt) hxo hxd (k3.trans kz) (by simp only; rw [HLL.out]; exact hown') hk'
      have htag : ∀ b, blk a b → ∃ cur, wr.heap[b]? = some (.cells cur 42 (0, 0)) := fun b hb => tab_tag HR.out.1.own.io (own_blk hb)
      have hP4 := hadd.2.heap HR.out.1.bl (fun hb => by obtain ⟨cur, hc⟩ := htag _ hb; rw [HR.out.1.bl] at hc; simp at hc)
      obtain ⟨-, v1, -, vf, hPl4⟩ := sk_get hP4
      have htn : ∀ b, blk a b → ∃ cur t fr, wr.heap[b]? = some (.cells cur t fr) ∧ t ≠ 3 := fun b hb => by
        obtain ⟨cur, hc⟩ := htag b hb; exact ⟨cur, _, _, hc, by decide⟩
      have hb4 : LtB w4 (some ⟨gb, 0, none⟩) (x.xs.length + 4) x.xs := by
        have h0 : LtB (w3.alloc (.cells #[.int .u8 x.kind, .string x.name, .string x.tag, .slice (some ⟨gb, 0, none⟩) x.xs.length (x.xs.length + 4), .string x.fn, I x.fp, I x.fa, .string x.tn, I x.tp, I x.ta, I x.at_] 42)) (some ⟨gb, 0, none⟩) (x.xs.length + 4) x.xs := ⟨gb, rfl, rfl, Keeps.heap kz hb3 (fun h => h)⟩
        refine h0.keeps hk' (fun b hb => ?_)
        obtain ⟨cur, hc⟩ := htag b hb
        exact ⟨cur, _, _, Keeps.heap (k3.trans kz) hc (fun h => h), by decide⟩
      have hS := LSs.set (q' := (⟨s.name, a', c', l ++ [(⟨x.kind, x.name, x.tag, some ⟨gb, 0, none⟩, x.xs.length + 4, x.xs, x.fn, x.fp, x.fa, x.tn, x.tp, x.ta, x.at_⟩ : SIt)]⟩ : Sk)) (k + 1) HR.out.1 hadd.1 hadd.2 htag (fun b hb => (own_of_blk HR.out.1.own.io hb).1)
        (fun y hy => by rcases List.mem_append.1 hy with hy | hy; (exact .inl hy); (rw [List.mem_singleton.1 hy]; exact .inr (.inr hb4)))
      have hL4 : ∀ y ∈ l ++ [(⟨x.kind, x.name, x.tag, some ⟨gb, 0, none⟩, x.xs.length + 4, x.xs, x.fn, x.fp, x.fa, x.tn, x.tp, x.ta, x.at_⟩ : SIt)], LtB (w4.setCell ⟨P, 1, none⟩ (.slice a' (k + 1) c')) y.a y.c y.xs := fun y hy => by
        have h4 : LtB w4 y.a y.c y.xs := by
          rcases List.mem_append.1 hy with hy | hy
          · exact (HR.out.2.2 y hy).keeps hadd.2 htn
          · rw [List.mem_singleton.1 hy]; exact hb4
        exact h4.keeps (Keeps.setCell (S := fun k => k = P) w4 _ _ rfl) (fun b hb => ⟨_, _, _, hb ▸ hP4, by decide⟩)
      have HS := Lib.hid hS
      have HL4 := Lib.hid hL4
      have HB2 := Lib.hid (HBS.out (⟨x.kind, x.name, x.tag, some ⟨gb, 0, none⟩, x.xs.length + 4, x.xs, x.fn, x.fp, x.fa, x.tn, x.tp, x.ta, x.at_⟩ : SIt) rfl)
      clear hS hL4 hb4 htn hadd htag hP4 hown' hk' hm' hoz hxo hxd hlit hbz kz k3 hY3 hb3 kb hgb p0 p1 hPl z0 z1 z2 z3 z4 z5 z6 z7 z8 z9 z10 hZl HR
      go_wp2_with fail
      go_roundw
      case rel => exact ⟨k + 1, a', c', _, by omega, by go_num, Lib.hid ⟨HS.out, HB2.out, HL4.out⟩⟩
      case measure => simp [intOf]; omega
    · have hke : k = s.items.length := by omega
      have hkd : decide (k < s.items.length) = false := decide_eq_false hk1
      have HLL := Lib.hid (bare_take_len HR.out.2.1 (by omega))
      have HBA : Hid (l.map SIt.bare = s.items.map SIt.bare) := Lib.hid (by have := HR.out.2.1; rwa [hke, List.take_length] at this)
      have hkf : k ≤ 1048576 := by omega
      obtain ⟨p0, p1, -, -, hPl⟩ := sk_get HR.out.1.bl
      have kz : New wr (wr.alloc (.cells #[.int .u8 99, .string ⟨#[109, 97, 114, 107]⟩, .string ⟨#[]⟩, .slice none 0 0, .string ⟨#[]⟩, .int .i64 0, .int .i64 0, .string ⟨#[]⟩, .int .i64 0, .int .i64 0, .int .i64 0] 42)) := (New.refl wr).alloc _
      have hlit : SlAt (wr.alloc (.cells #[.int .u8 99, .string ⟨#[109, 97, 114, 107]⟩, .string ⟨#[]⟩, .slice none 0 0, .string ⟨#[]⟩, .int .i64 0, .int .i64 0, .string ⟨#[]⟩, .int .i64 0, .int .i64 0, .int .i64 0] 42)) (some ⟨wr.heap.size, 0, none⟩) (itCells mkIt) := SlAt.lit wr _ _
      have hoz : (wr.alloc (.cells #[.int .u8 99, .string ⟨#[109, 97, 114, 107]⟩, .string ⟨#[]⟩, .slice none 0 0, .string ⟨#[]⟩, .int .i64 0, .int .i64 0, .string ⟨#[]⟩, .int .i64 0, .int .i64 0, .int .i64 0] 42)).ownsRow w.heap.size 42 11 (.slice a k c) k (l.flatMap itCells) := by
        have := (HR.out.1.new kz).own.io
        simp only at this
        rw [HLL.out] at this; exact this
      have hbz : w.heap.size ≤ (wr.alloc (.cells #[.int .u8 99, .string ⟨#[109, 97, 114, 107]⟩, .string ⟨#[]⟩, .slice none 0 0, .string ⟨#[]⟩, .int .i64 0, .int .i64 0, .string ⟨#[]⟩, .int .i64 0, .int .i64 0, .int .i64 0] 42)).heap.size := Nat.le_trans HR.out.1.nw.size kz.size
      have HKE := Lib.hid hke
      have hkI : (s.items.length : Int) ≤ (k : Int) := by omega
      clear hke hk1
      go_wp2_with (at_builtin; refine wpList_app rfl _ _ 22 rfl w.heap.size 42 it1 _ 11 136 Tryd.underlying22 hit1 ha0 ha1 ha2 rfl (by decide) a k c (l.flatMap itCells) rfl hoz (some ⟨wr.heap.size, 0, none⟩) 1 1 (itCells mkIt) rfl rfl hlit (one_it _) (by unfold maxLen; omega) (by omega) hbz ?_)
      intro a' c' w4 hown' hk' hm' _
      have hcap : k + 1 ≤ c' := by
        rcases hown'.2 with ⟨h0, -⟩ | ⟨g9, cap, cur, h0, hb, hg, hnc, -⟩
        · simp at h0
        · simp only [Value.slice.injEq] at h0
          obtain ⟨-, -, rfl⟩ := h0
          exact hnc
      have hadd := HR.out.1.own.add mkIt (OwnI.nil _ _) (fun k hk => by obtain ⟨y, hy, _⟩ := hk; cases hy) kz (by simp only; rw [HLL.out]; exact hown') hk'
      have htag : ∀ b, blk a b → ∃ cur, wr.heap[b]? = some (.cells cur 42 (0, 0)) := fun b hb => tab_tag HR.out.1.own.io (own_blk hb)
      have htn : ∀ b, blk a b → ∃ cur t fr, wr.heap[b]? = some (.cells cur t fr) ∧ t ≠ 3 := fun b hb => by
        obtain ⟨cur, hc⟩ := htag b hb; exact ⟨cur, _, _, hc, by decide⟩
      have hP4 := hadd.2.heap HR.out.1.bl (fun hb => by obtain ⟨cur, hc⟩ := htag _ hb; rw [HR.out.1.bl] at hc; simp at hc)
      obtain ⟨-, v1, -, vf, hPl4⟩ := sk_get hP4
      have hS := Lib.hid (LSs.set (q' := (⟨s.name, a', c', l ++ [mkIt]⟩ : Sk)) (k + 1) HR.out.1 hadd.1 hadd.2 htag (fun b hb => (own_of_blk HR.out.1.own.io hb).1)
        (fun y hy => by rcases List.mem_append.1 hy with hy | hy; (exact .inl hy); (rw [List.mem_singleton.1 hy]; exact .inr (.inl rfl))))
      have HL4 := Lib.hid (fun y (hy : y ∈ l) => ((HR.out.2.2 y hy).keeps hadd.2 htn).keeps (Keeps.setCell (S := fun k => k = P) w4 ⟨P, 1, none⟩ (.slice a' (k + 1) c') rfl) (fun b hb => ⟨_, _, _, hb ▸ hP4, by decide⟩))
      clear hP4 htn htag hadd hown' hk' hm' hoz hlit hbz kz p0 p1 hPl g0 g1 hGl
      go_upto_region 9 with (fail)
      generalize (w4.setCell ⟨P, 1, none⟩ (.slice a' (k + 1) c')) = w5 at hS HL4 ⊢
      clear v1 vf hPl4 HR
      obtain ⟨g0, g1, -, -, hGl⟩ := sk_get hS.out.hs
      obtain ⟨p0, p1, -, pf, hPl⟩ := sk_get hS.out.bl
      simp only at p1
      rw [HA.out] at g1
      have hcI : (s.items.length : Int) ≤ (c' : Int) := by omega
      go_upto_region 10 with (fail)
      have hS2 := Lib.hid (LSs.set (q' := (⟨s.name, a', c', l ++ [mkIt]⟩ : Sk)) s.items.length (a := none) hS.out hS.out.own (Keeps.refl _ _) (fun b hb => by obtain ⟨y, hy, _⟩ := hb; cases hy) (fun b hb => by obtain ⟨y, hy, _⟩ := hb; cases hy) (fun y hy => .inl hy))
      have HLA := Lib.hid (fun y (hy : y ∈ l) => (HL4.out y hy).keeps (Keeps.setCell (S := fun k => k = P) w5 ⟨P, 1, none⟩ (.slice a' s.items.length c') rfl) (fun b hb => ⟨_, _, _, hb ▸ hS.out.bl, by decide⟩))
      clear hS HL4 g0 g1 hGl p0 p1 hPl pf hcI hcap hkf HKE HLL hkI hkd hk
      generalize (w5.setCell ⟨P, 1, none⟩ (.slice a' s.items.length c')) = w6 at hS2 HLA ⊢
      obtain ⟨p0, p1, -, -, hPl⟩ := sk_get hS2.out.bl
      simp only at p1
      obtain ⟨r0, r1, rf0, rf1, hRl⟩ := sk_get hS2.out.hr
      obtain ⟨R, hRe⟩ : ∃ R, R = w.heap.size + 1 := ⟨_, rfl⟩
      have HRR := Lib.hid hS2.out.hr
      have hPR := hS2.out.hP
      rw [← hRe] at r0 r1 rf0 rf1 hRl HRR hPR ⊢
      have HRE := Lib.hid hRe
      clear hRe
      go_wp2_with fail
      have kR : Keeps (fun k => k = R) w6 ((w6.setCell ⟨R, 0, none⟩ (.string s.name)).setCell ⟨R, 1, none⟩ (.slice a' s.items.length c')) := (Keeps.setCell (S := fun k => k = R) w6 _ _ rfl).trans (Keeps.setCell (S := fun k => k = R) _ _ _ rfl) (fun _ _ h => h)
      have hR1 := block_setCell (i := 1) (block_setCell (i := 0) HRR.out (.string s.name)) (.slice a' s.items.length c')
      have hRt : ∀ g, g = R → ∃ cur t fr, w6.heap[g]? = some (.cells cur t fr) ∧ t ≠ 3 := fun g hg => ⟨_, _, _, hg ▸ HRR.out, by decide⟩
      have hfin : LentS w s (.returned (.agg #[.string s.name, .slice a' s.items.length c'])) ((w6.setCell ⟨R, 0, none⟩ (.string s.name)).setCell ⟨R, 1, none⟩ (.slice a' s.items.length c')) := by
        refine ⟨a', c', l, rfl, hS2.out.own.other kR (fun g hg => ⟨_, _, _, hg ▸ HRR.out, by decide, by decide⟩), HBA.out, fun y hy => (HLA.out y hy).keeps kR hRt, ?_⟩
        exact New.keeps hS2.out.nw kR (fun i hi e => by have := HRE.out; omega)
      have hR2 : ((w6.setCell ⟨R, 0, none⟩ (.string s.name)).setCell ⟨R, 1, none⟩ (.slice a' s.items.length c')).heap[R]? = some (.cells #[.string s.name, .slice a' s.items.length c'] 24 (0, 0)) := by rw [hR1]; simp
      clear r0 r1 rf0 rf1 hRl kR hR1 hRt p0 p1 hPl HRR
      generalize ((w6.setCell ⟨R, 0, none⟩ (.string s.name)).setCell ⟨R, 1, none⟩ (.slice a' s.items.length c')) = Wf at hfin hR2 ⊢
      obtain ⟨r0, r1, -, -, -⟩ := sk_get hR2
      refine bodyPost_ret (v := .agg #[.string s.name, .slice a' s.items.length c']) (by simp [results, Tryd.results17, go_sem, r0, r1]) rfl ?_
      rw [← HP.out]
      exact hfin
/-- A sketch as it was lent. -/
structure LendedS (w : World) (B : Nat) (s p : Sk) : Prop where
  bare : p.bare = s.bare
  ow : SkOwn w B ⟨p.name, p.ia, p.ic, p.items ++ [mkIt]⟩
  la : ∀ x ∈ p.items, LtB w x.a x.c x.xs
theorem LendedS.at {w : World} {B : Nat} {s p : Sk} (h : LendedS w B s p) : SkAt w p := by
  refine ⟨?_, fun x hx => (h.la x hx).sl⟩
  have := SlAt.of_owns h.ow.io
  rw [List.flatMap_append] at this
  exact this.left
theorem LendedS.new {w w' : World} {B : Nat} {s p : Sk} (h : LendedS w B s p) (k : New w w') : LendedS w' B s p := ⟨h.bare, h.ow.new k, fun x hx => (h.la x hx).new k⟩
theorem LentS.lended {w w' : World} {s : Sk} {e : Ending} (h : LentS w s e w') : ∃ p : Sk, e = .returned p.v ∧ LendedS w' w.heap.size s p ∧ New w w' := by
  obtain ⟨a, c, l, rfl, hown, hl, hla, k⟩ := h
  refine ⟨⟨s.name, a, c, l⟩, ?_, ⟨?_, hown, hla⟩, k⟩
  · simp only [Sk.v, Sk.cs]
    rw [map_len hl]
  · unfold Sk.bare
    simp only [hl]
theorem SWf.sbnd {W : World} {s : Sk} (h : SWf W s) : SBnd s := by
  obtain ⟨h1, h2⟩ := h.bnd
  have hm : ∀ n : Nat, n ≤ maxLen → n ≤ 9223372036854775807 := fun n h => by unfold maxLen at h; exact h
  exact ⟨h1, h2, fun x hx => ⟨hm _ (h.it x hx).nm, hm _ (h.it x hx).tg, hm _ (h.it x hx).fn, hm _ (h.it x hx).tn⟩, fun x hx => ⟨(h.it x hx).fp, (h.it x hx).tp, (h.it x hx).xs, hm _ (h.it x hx).nl⟩⟩
theorem SBnd.bare {p s : Sk} (h : SBnd s) (e : p.bare = s.bare) : SBnd p := by
  have h1 : p.name = s.name := by have := congrArg Sk.name e; exact this
  have h2 : p.items.map SIt.bare = s.items.map SIt.bare := by have := congrArg Sk.items e; exact this
  have hm : ∀ x ∈ p.items, ∃ y ∈ s.items, y.bare = x.bare := fun x hx => by
    have hm : x.bare ∈ s.items.map SIt.bare := h2 ▸ List.mem_map_of_mem hx
    obtain ⟨y, hy, he⟩ := List.mem_map.1 hm
    exact ⟨y, hy, he⟩
  refine ⟨by rw [h1]; exact h.n, by rw [map_len h2]; exact h.i, fun x hx => ?_, fun x hx => ?_⟩
  · obtain ⟨y, hy, he⟩ := hm x hx
    have e1 : y.name = x.name := by have := congrArg SIt.name he; exact this
    have e2 : y.tag = x.tag := by have := congrArg SIt.tag he; exact this
    have e3 : y.fn = x.fn := by have := congrArg SIt.fn he; exact this
    have e4 : y.tn = x.tn := by have := congrArg SIt.tn he; exact this
    have hh := h.sz y hy
    exact ⟨e1 ▸ hh.n, e2 ▸ hh.t, e3 ▸ hh.f, e4 ▸ hh.o⟩
  · obtain ⟨y, hy, he⟩ := hm x hx
    have e1 : y.fp = x.fp := by have := congrArg SIt.fp he; exact this
    have e2 : y.tp = x.tp := by have := congrArg SIt.tp he; exact this
    have e3 : y.xs = x.xs := by have := congrArg SIt.xs he; exact this
    have hh := h.bd y hy
    exact ⟨e1 ▸ hh.p0, e2 ▸ hh.p1, e3 ▸ hh.xs, e3 ▸ hh.ln⟩
theorem printA_lent {p s : Sk} (e : p.bare = s.bare) : printA p = printA s := by rw [← printA_bare p, ← printA_bare s, e]
theorem rightB_noat (x : SIt) : rightB x.noat = rightB x := rfl
theorem lineW_noat (x : SIt) : lineW x.noat = lineW x := rfl
theorem printA_noat {p q : Sk} (h1 : p.name = q.name) (h2 : p.items.map SIt.noat = q.items.map SIt.noat) : printA p = printA q := by
  have e1 : p.items.all rightB = q.items.all rightB := by
    have : ∀ l : List SIt, l.all rightB = (l.map SIt.noat).all rightB := fun l => by rw [List.all_map]; rfl
    rw [this p.items, this q.items, h2]
  have e2 : p.items.flatMap lineW = q.items.flatMap lineW := by
    have : ∀ l : List SIt, l.flatMap lineW = (l.map SIt.noat).flatMap lineW := fun l => by rw [List.flatMap_map]; rfl
    rw [this p.items, this q.items, h2]
  unfold printA printW
  rw [h1, e1, e2]
theorem printA_three (s : Sk) : printA s = ([], 1) ∨ printA s = ([], 2) ∨ (nameB s.name = true ∧ s.items.all rightB = true ∧ (printW s).length ≤ 1048576 ∧ printA s = (printW s, 0)) := by
  unfold printA
  cases hb : (nameB s.name && s.items.all rightB) with
  | false => left; rw [if_pos rfl]
  | true =>
    right
    rw [if_neg (by decide)]
    rw [Bool.and_eq_true] at hb
    by_cases h : 1048576 < (printW s).length
    · left; rw [if_pos h]
    · right; rw [if_neg h]; exact ⟨hb.1, hb.2, by omega, rfl⟩
/-- What is printed is read as the same. -/
theorem skL_of {s t : Sk} {y : LSk} (ht : t.bare = y.mem) (h : y.bare = (skL s).bare) : s.name = t.name ∧ s.items.map SIt.noat = t.items.map SIt.noat := by
  obtain ⟨h1, h2⟩ := skL_mem s
  have hm : (skL s).mem.bare = (skL s).mem := by
    unfold Sk.bare LSk.mem
    simp only [List.map_map]
    rfl
  obtain ⟨h3, h4⟩ := alike_of hm ht h.symm
  exact ⟨h1.trans h3, h2.trans h4⟩
end Go.Proofs.YtohalcbhckahmaaDoor
