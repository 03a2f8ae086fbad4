/-
  GrI, GrJ, GrK, GrL, GrM: what is wanted of them.
-/
import Derived.Test.YtnedmonlofbahaaGreatDoorGwA
import Derived.Maps.OwnOps
import Derived.Maps.OwnSet
import Derived.Maps.Views
namespace Go.Proofs.YtnedmonlofbahaaGreatDoor
open Go Go.RowKit Go.Joins
set_option linter.all false

abbrev rowV (r : Nat × List Bool) : Value := .slice (some ⟨r.1, 0, none⟩) r.2.length r.2.length
structure Grid (w : World) (B : Nat) (a : Option Addr) (c : Nat) (L : List (Nat × List Bool)) : Prop where
  tab : w.ownsRow B 200 1 (.slice a L.length c) L.length (L.map rowV)
  row : ∀ r ∈ L, w.heap[r.1]? = some (.cells (r.2.map Value.bool).toArray 4 (0, 0))
  lo : ∀ r ∈ L, B ≤ r.1
  nd : (L.map (·.1)).Nodup

def chkO : Obj → Bool
  | .map _ _ => true
  | .cells _ t _ => t == 149 || t == 200 || t == 4
  | _ => false
def chkP : Obj → Bool
  | .map _ _ => true
  | .cells _ t _ => t == 4
  | _ => false
def KXg (p : Obj → Bool) (B : Nat) (w w' : World) : Prop := Keeps (fun k => B ≤ k ∧ ∃ o, w.heap[k]? = some o ∧ p o = true) w w'
abbrev KB (B : Nat) (w w' : World) : Prop := KXg chkO B w w'
abbrev KP (B : Nat) (w w' : World) : Prop := KXg chkP B w w'
section
variable {p : Obj → Bool}
theorem KXg.refl (B : Nat) (w : World) : KXg p B w w := Keeps.refl _ _
theorem KXg.of_new {B : Nat} {w w' : World} (h : New w w') : KXg p B w w' := Keeps.mono h (fun _ _ h => h.elim)
theorem KXg.trans {B : Nat} {a b c : World} (h : KXg p B a b) (k : KXg p B b c) : KXg p B a c :=
  Keeps.trans h k (fun i hi ⟨hB, o, ho, hc⟩ => by
    refine ⟨hB, ?_⟩
    by_cases hs : B ≤ i ∧ ∃ o, a.heap[i]? = some o ∧ p o = true
    · exact hs.2
    · rw [Keeps.block h i hi hs] at ho
      exact ⟨o, ho, hc⟩)
theorem KXg.heap {B : Nat} {w w' : World} (h : KXg p B w w') {k : Nat} {o : Obj} (hk : w.heap[k]? = some o) (ho : p o = false) : w'.heap[k]? = some o :=
  Keeps.heap h hk (fun ⟨_, o', h1, h2⟩ => by rw [hk] at h1; cases h1; rw [ho] at h2; cases h2)
theorem KXg.new {B : Nat} {w0 w w' : World} (h : KXg p B w w') (hB : B = w0.heap.size) (hN : New w0 w) : New w0 w' :=
  New.keeps hN h (fun i hi ⟨hb, _⟩ => by omega)
theorem KXg.size {B : Nat} {w w' : World} (h : KXg p B w w') : w.heap.size ≤ w'.heap.size := Keeps.size h
theorem KXg.set {B : Nat} {w : World} {b i : Nat} {cs : Array Value} {t : TypeId} {fr : Nat × Nat} (h : w.heap[b]? = some (.cells cs t fr)) (hb : B ≤ b) (ht : p (.cells cs t fr) = true) (v : Value) : KXg p B w (w.setCell ⟨b, i, none⟩ v) :=
  Keeps.setCell w _ _ ⟨hb, _, h, ht⟩
theorem KXg.to {q : Obj → Bool} {B : Nat} {w w' : World} (h : KXg p B w w') (hpq : ∀ o, p o = true → q o = true) : KXg q B w w' := Keeps.mono h (fun i _ ⟨a, o, b, c⟩ => ⟨a, o, b, hpq o c⟩)
end
theorem chkP_O (o : Obj) (h : chkP o = true) : chkO o = true := by
  cases o <;> simp_all [chkP, chkO]
theorem KXg.wide {B : Nat} {w w' : World} (h : KP B w w') : KB B w w' := h.to chkP_O

def takeEg (L : List (Nat × List Bool)) (x p : Int) : Int :=
  if 0 ≤ x ∧ x < L.length then (if 0 ≤ p ∧ p < (L.getD x.toNat (0, [])).2.length then (if (L.getD x.toNat (0, [])).2.getD p.toNat false then 86 else 0) else 85) else 84
def takeL (L : List (Nat × List Bool)) (x p : Int) : List (Nat × List Bool) :=
  if takeEg L x p = 0 then L.set x.toNat ((L.getD x.toNat (0, [])).1, (L.getD x.toNat (0, [])).2.set p.toNat true) else L
theorem takeL_len (L : List (Nat × List Bool)) (x p : Int) : (takeL L x p).length = L.length := by unfold takeL; split <;> simp
theorem takeL_fst (L : List (Nat × List Bool)) (x p : Int) : (takeL L x p).map (·.1) = L.map (·.1) := by
  unfold takeL
  split
  · apply List.ext_getElem?
    intro i
    simp only [List.getElem?_map, List.getElem?_set]
    by_cases h : x.toNat = i
    · subst h
      by_cases hl : x.toNat < L.length
      · simp [hl, List.getD_eq_getElem?_getD]
      · simp [hl]
    · simp [h]
  · rfl
theorem takeL_rowV (L : List (Nat × List Bool)) (x p : Int) : (takeL L x p).map rowV = L.map rowV := by
  unfold takeL
  split
  · apply List.ext_getElem?
    intro i
    simp only [List.getElem?_map, List.getElem?_set]
    by_cases h : x.toNat = i
    · subst h
      by_cases hl : x.toNat < L.length
      · simp [hl, List.getD_eq_getElem?_getD]
      · simp [hl]
    · simp [h]
  · rfl
theorem Grid.other {S : Nat → Prop} {w w' : World} {B : Nat} {a : Option Addr} {c : Nat} {L : List (Nat × List Bool)} (h : Grid w B a c L) (k : Keeps S w w') (h1 : ∀ i, blk a i → ¬ S i) (h2 : ∀ r ∈ L, ¬ S r.1) : Grid w' B a c L :=
  ⟨k.owns h.tab (fun i hi => h1 i (blk_of_own hi)), fun r hr => k.heap (h.row r hr) (h2 r hr), h.lo, h.nd⟩
theorem Grid.new {w w' : World} {B : Nat} {a : Option Addr} {c : Nat} {L : List (Nat × List Bool)} (h : Grid w B a c L) (k : New w w') : Grid w' B a c L := h.other k (fun _ _ h => h) (fun _ _ h => h)
theorem Grid.turn {w : World} {B : Nat} {a : Option Addr} {c : Nat} {L : List (Nat × List Bool)} (h : Grid w B a c L) (x p : Nat) (hx : x < L.length) (hp : p < L[x].2.length) (hf : L[x].2[p] = false) :
    Grid (w.setCell ⟨L[x].1, p, none⟩ (.bool true)) B a c (takeL L x p) ∧ takeEg L x p = 0 ∧ KP B w (w.setCell ⟨L[x].1, p, none⟩ (.bool true)) := by
  have hg : L.getD x (0, []) = L[x] := by simp [List.getD_eq_getElem?_getD, hx]
  have hE : takeEg L x p = 0 := by
    unfold takeEg
    simp only [Int.toNat_natCast, hg]
    rw [if_pos (by omega), if_pos (by omega)]
    simp [List.getD_eq_getElem?_getD, hp, hf]
  have hL : takeL L x p = L.set x (L[x].1, L[x].2.set p true) := by
    unfold takeL
    rw [if_pos hE]
    simp only [Int.toNat_natCast, hg]
  have hr := h.row _ (List.getElem_mem hx)
  have hk : Keeps (fun k => k = L[x].1) w (w.setCell ⟨L[x].1, p, none⟩ (.bool true)) := Keeps.setCell w _ _ rfl
  refine ⟨⟨?_, ?_, ?_, ?_⟩, hE, KXg.set hr (h.lo _ (List.getElem_mem hx)) rfl _⟩
  · have h0 := hk.owns h.tab (fun k hk e => by
      subst e
      obtain ⟨cur, hc⟩ := tab_tag h.tab hk
      rw [hr] at hc; simp at hc)
    rw [takeL_rowV, takeL_len]; exact h0
  · intro r hrm
    rw [hL] at hrm
    obtain ⟨i, hi, rfl⟩ := List.getElem_of_mem hrm
    rw [List.length_set] at hi
    rw [List.getElem_set]
    split
    · rename_i e
      have h4 := block_setCell (i := p) hr (.bool true)
      rw [h4]
      simp [List.map_set]
    · rename_i e
      refine hk.heap (h.row _ (List.getElem_mem hi)) (fun e2 => e ?_)
      have hnd := h.nd
      unfold List.Nodup at hnd
      rw [List.pairwise_iff_getElem] at hnd
      rcases Nat.lt_trichotomy x i with h1 | h1 | h1
      · exact absurd (by rw [List.getElem_map, List.getElem_map]; exact e2.symm) (hnd x i (by simpa using hx) (by simpa using hi) h1)
      · exact h1
      · exact absurd (by rw [List.getElem_map, List.getElem_map]; exact e2) (hnd i x (by simpa using hi) (by simpa using hx) h1)
  · intro r hrm
    have : r.1 ∈ (takeL L x p).map (·.1) := List.mem_map_of_mem hrm
    rw [takeL_fst] at this
    obtain ⟨y, hy, hye⟩ := List.mem_map.1 this
    rw [← hye]; exact h.lo y hy
  · rw [takeL_fst]; exact h.nd

def GridLen (L : List (Nat × List Bool)) : Prop := L.length ≤ 64 ∧ ∀ r ∈ L, r.2.length ≤ 64
theorem takeL_same {L : List (Nat × List Bool)} {x p : Int} (h : takeEg L x p ≠ 0) : takeL L x p = L := by unfold takeL; rw [if_neg h]
def Took (w : World) (B : Nat) (a : Option Addr) (c : Nat) (L : List (Nat × List Bool)) (x p : Int) (e : Ending) (w' : World) : Prop :=
  e = .returned (I (takeEg L x p)) ∧ Grid w' B a c (takeL L x p) ∧ KP B w w' ∧ Keeps (fun k => ∃ r ∈ L, r.1 = k) w w'
theorem Took.err {w w' : World} {B : Nat} {a : Option Addr} {c : Nat} {L : List (Nat × List Bool)} {x p : Int} {n : Int} (h : Grid w B a c L) (hn : n ≠ 0) (he : takeEg L x p = n) (k : New w w') : Took w B a c L x p (.returned (I n)) w' := by
  unfold Took
  rw [takeL_same (by rw [he]; exact hn), he]
  exact ⟨rfl, h.new k, KXg.of_new k, Keeps.mono k (fun _ _ h => h.elim)⟩
set_option maxRecDepth 100000 in
set_option maxHeartbeats 4000000 in
theorem take_any (w : World) (B : Nat) (a : Option Addr) (c : Nat) (L : List (Nat × List Bool)) (x p : Int) (h : Grid w B a c L) (hl : GridLen L) :
    Calls Tryz.prog 126 #[.slice a L.length c, I x, I p] w (Took w B a c L x p) := by
  have hl1 := hl.1
  by_cases hx0 : x < 0
  · have hE : takeEg L x p = 84 := by unfold takeEg; rw [if_neg (by omega)]
    have HT : Hid (∀ w', New w w' → Took w B a c L x p (.returned (I 84)) w') := Lib.hid (fun w' k => Took.err h (by decide) hE k)
    clear hE h hl
    generalize Took w B a c L x p = T at HT ⊢
    go_enter Tryz.func126, Tryz.ntmps126
    go_wp2_with fail
    exact HT.out _ (New.refl _)
  obtain ⟨x, rfl⟩ := Int.eq_ofNat_of_zero_le (by omega : 0 ≤ x)
  have d0 : decide ((x : Int) < 0) = false := decide_eq_false hx0
  clear hx0
  by_cases hx : x < L.length
  case neg =>
    have hE : takeEg L x p = 84 := by unfold takeEg; rw [if_neg (by omega)]
    have HT : Hid (∀ w', New w w' → Took w B a c L x p (.returned (I 84)) w') := Lib.hid (fun w' k => Took.err h (by decide) hE k)
    have d1 : decide ((x : Int) < (L.length : Int)) = false := decide_eq_false (by omega)
    have d2 : decide ((L.length : Int) ≤ (x : Int)) = true := decide_eq_true (by omega)
    clear hE h hl
    generalize Took w B a c L x p = T at HT ⊢
    go_enter Tryz.func126, Tryz.ntmps126
    go_wp2_with fail
    exact HT.out _ (New.refl _)
  have d1 : decide ((L.length : Int) ≤ (x : Int)) = false := decide_eq_false (by omega)
  have hxI : (x : Int) < (L.length : Int) := by omega
  obtain ⟨b, off, rfl, hcell⟩ := (SlAt.of_owns h.tab).at (i := x) (by simpa using hx)
  simp only [List.getElem_map] at hcell
  have hrl : L[x].2.length ≤ 64 := hl.2 _ (List.getElem_mem hx)
  have hg : L.getD x (0, []) = L[x] := by simp [List.getD_eq_getElem?_getD, hx]
  by_cases hp : 0 ≤ p ∧ p < L[x].2.length
  case neg =>
    have hE : takeEg L x p = 85 := by
      unfold takeEg
      simp only [Int.toNat_natCast, hg]
      rw [if_pos (by omega), if_neg hp]
    have HT : Hid (∀ w', New w w' → Took w B (some ⟨b, off, none⟩) c L x p (.returned (I 85)) w') := Lib.hid (fun w' k => Took.err h (by decide) hE k)
    clear hE h hl
    generalize Took w B (some ⟨b, off, none⟩) c L x p = T at HT ⊢
    generalize L[x] = r at hcell hp hrl
    by_cases hp0 : p < 0
    · have d3 : decide (p < 0) = true := decide_eq_true hp0
      clear hp
      go_enter Tryz.func126, Tryz.ntmps126
      go_wp2_with fail
      exact HT.out _ (New.refl _)
    · have d3 : decide (p < 0) = false := decide_eq_false hp0
      have d4 : decide ((r.2.length : Int) ≤ p) = true := decide_eq_true (by omega)
      clear hp
      go_enter Tryz.func126, Tryz.ntmps126
      go_wp2_with fail
      exact HT.out _ (New.refl _)
  obtain ⟨hp0, hp1⟩ := hp
  obtain ⟨p, rfl⟩ := Int.eq_ofNat_of_zero_le hp0
  have hp : p < L[x].2.length := by omega
  have hbit : w.cell? ⟨L[x].1, p, none⟩ = some (.bool L[x].2[p]) := by
    rw [cell_of_block (h.row _ (List.getElem_mem hx)) p]; simp [hp]
  have hfz : w.frozen? ⟨L[x].1, p, none⟩ = false := unfrozen_of_block (h.row _ (List.getElem_mem hx)) p
  have hbl : L[x].1 < w.heap.size := World.block_lt_of_cell? w _ hbit
  have d3 : decide ((p : Int) < 0) = false := decide_eq_false (by omega)
  have d4 : decide ((L[x].2.length : Int) ≤ (p : Int)) = false := decide_eq_false (by omega)
  cases hb : L[x].2[p] with
  | true =>
    have hE : takeEg L x p = 86 := by
      unfold takeEg
      simp only [Int.toNat_natCast, hg]
      rw [if_pos (by omega), if_pos (by omega)]
      simp [List.getD_eq_getElem?_getD, hp, hb]
    have HT : Hid (∀ w', New w w' → Took w B (some ⟨b, off, none⟩) c L x p (.returned (I 86)) w') := Lib.hid (fun w' k => Took.err h (by decide) hE k)
    rw [hb] at hbit
    clear hE h hl hb hg
    generalize Took w B (some ⟨b, off, none⟩) c L x p = T at HT ⊢
    generalize L[x] = r at hcell hp hp1 hrl hbit hfz hbl d4
    go_enter Tryz.func126, Tryz.ntmps126
    go_wp2_with fail
    exact HT.out _ (New.refl _)
  | false =>
    obtain ⟨t1, t2, t3⟩ := h.turn x p hx hp hb
    have HT : Hid (Took w B (some ⟨b, off, none⟩) c L x p (.returned (I 0)) (w.setCell ⟨L[x].1, p, none⟩ (.bool true))) := Lib.hid (by
      refine ⟨by rw [t2], t1, t3, Keeps.setCell w _ _ ⟨_, List.getElem_mem hx, rfl⟩⟩)
    rw [hb] at hbit
    clear h hl hb hg t1 t2 t3
    generalize Took w B (some ⟨b, off, none⟩) c L x p = T at HT ⊢
    generalize L[x] = r at hcell hp hp1 hrl hbit hfz hbl d4 HT
    go_enter Tryz.func126, Tryz.ntmps126
    go_wp2_with fail
    exact HT.out
end Go.Proofs.YtnedmonlofbahaaGreatDoor
namespace Go.Proofs.YtnedmonlofbahaaGreatDoor
open Go Go.RowKit Go.Joins
open Go.WideMaps (keyOf_string_mk)
set_option linter.all false

theorem nameKeys : Maps.Keyed Tryz.prog 9 := Maps.string_keyed Tryz.underlying9
theorem zeroInt (w : World) : (zeroValue 3).run Tryz.prog w = .ok (.int .i64 0) w := by kernel_rfl
def MapAt (w : World) (M n : Nat) (V : ByteArray → Int) : Prop :=
  ∃ D : DataW Unit, w.ownsMap Tryz.prog 9 (plainElem Tryz.prog 3) M n D ∧ ∀ s : ByteArray, D.atKey (.string s.data.toList) (.lit (.int .i64 0)) = .lit (.int .i64 (V s))
theorem MapAt.made (w : World) : MapAt (w.alloc (.map #[] 0)) w.heap.size 0 (fun _ => 0) :=
  ⟨_, World.ownsMap_made w _ _ _, fun s => rfl⟩
theorem MapAt.keeps {S : Nat → Prop} {w w' : World} {M n : Nat} {V : ByteArray → Int} (h : MapAt w M n V) (k : Keeps S w w') (hM : ¬ S M) : MapAt w' M n V := by
  obtain ⟨D, ⟨es, clock, hb, F, hs, hD⟩, hV⟩ := h
  exact ⟨D, ⟨es, clock, k.heap hb hM, F, hs, hD⟩, hV⟩
theorem MapAt.new {w w' : World} {M n : Nat} {V : ByteArray → Int} (h : MapAt w M n V) (k : New w w') : MapAt w' M n V := h.keeps k (fun h => h)
theorem MapAt.block {w : World} {M n : Nat} {V : ByteArray → Int} (h : MapAt w M n V) : ∃ es clock, w.heap[M]? = some (.map es clock) := by
  obtain ⟨D, ⟨es, clock, hb, F, hs, hD⟩, hV⟩ := h
  exact ⟨es, clock, hb⟩
theorem MapAt.as {w : World} {M n : Nat} {V V' : ByteArray → Int} (h : MapAt w M n V) (hV : ∀ s, V s = V' s) : MapAt w M n V' := by
  obtain ⟨D, h1, h2⟩ := h
  exact ⟨D, h1, fun s => by rw [h2, hV]⟩
theorem str_list {s t : ByteArray} (h : s.data.toList = t.data.toList) : s = t := by
  cases s; cases t; simp only at h; rw [Array.toList_inj.1 h]

theorem run_look {w : World} {M n : Nat} {V : ByteArray → Int} (s : ByteArray) (h : MapAt w M n V) (hs : s.size ≤ 9223372036854775807) : (Instr.lookup 107 (.map (some M)) (.string s) false).run Tryz.prog w = .ok (.int .i64 (V s)) w := by
  obtain ⟨D, h1, h2⟩ := h
  obtain ⟨c, hr, hat, _⟩ := h1.lookup_int nameKeys (t := 107) Tryz.underlying107 Tryz.underlying3 (zeroInt _) (keyOf_string_mk (s := s) Tryz.underlying9 (by unfold maxLen; omega))
  rw [h2] at hat
  simp only [DataW.lit.injEq, Lit.int.injEq, true_and] at hat
  rw [hr, hat]
theorem wpList_note {w : World} {ops : Array Oper} {rest : List Oper} {o : Oper} {a : Act} {Q : Exit → Act → World → Prop} {M n : Nat} {V : ByteArray → Int} {s : ByteArray} {v : Int}
    (hgd : o.guard = none) (m x y : Operand) (hop : o.op = Op.mapUpdate 107 m x y) (hm : a.eval m = .map (some M)) (hx : a.eval x = .string s) (hy : a.eval y = .int .i64 v) (h : MapAt w M n V) (hs : s.size ≤ 9223372036854775807) (hn : n < 9223372036854775807)
    (hv : (Lit.int .i64 v).wf = true)
    (hK : ∀ w', MapAt w' M (n + 1) (fun t => if t = s then v else V t) → Keeps (fun k => k = M) w w' → wpList Tryz.prog ops Q rest (a.put o.dst undef) w') : wpList Tryz.prog ops Q (o :: rest) a w := by
  obtain ⟨D, h1, h2⟩ := h
  have hkey : keyOf Tryz.prog 9 (.string s) = some (.string s.data.toList) := keyOf_string_mk Tryz.underlying9 (by unfold maxLen; omega)
  refine wpList_mapUpdate_own w hgd m x y 107 hop 9 3 nameKeys Tryz.underlying107 (plainElem Tryz.prog 3) M n D hm h1 (by unfold maxLen; omega) (.string s) (.int .i64 v) (.string s.data.toList) hx hy hkey (.lit (.int .i64 v)) [] (plainElem_int Tryz.underlying3 hv) ?_
  intro w' h1' hg
  refine hK w' ⟨_, h1', fun t => ?_⟩ (Keeps.grown hg (fun k e => by cases e; rfl))
  simp only
  by_cases e : t = s
  · subst e
    rw [if_pos rfl]
    exact Maps.atKey_put_same h1.isMap (nameKeys.key hkey) _ _
  · rw [if_neg e, Maps.atKey_put_other (by intro h; simp only [Lit.string.injEq] at h; exact e (str_list h)), h2]

abbrev chkC (g : Gr) (M : Nat) (ia : Option Addr) (ni ic : Nat) (oa : Option Addr) (no oc : Nat) : Array Value :=
  #[.string g.name, .slice g.aa g.acts.length g.ac, .slice g.ea g.edges.length g.ec, .slice g.ia g.ins.length g.ic, .slice g.oa g.outs.length g.oc, .map (some M), .slice ia ni ic, .slice oa no oc]
def hasN (ns : List ByteArray) (s : ByteArray) : Int := if ns.any (fun t => decide (bytesN t = bytesN s)) then 1 else 0
structure Chk (w : World) (B C M : Nat) (g : Gr) (ns : List ByteArray) (ia : Option Addr) (ic : Nat) (IL : List (Nat × List Bool)) (oa : Option Addr) (oc : Nat) (OL : List (Nat × List Bool)) : Prop where
  blk : w.heap[C]? = some (.cells (chkC g M ia IL.length ic oa OL.length oc) 149 (0, 0))
  loC : B ≤ C
  loM : B ≤ M
  nm : MapAt w M ns.length (hasN ns)
  gi : Grid w B ia ic IL
  go : Grid w B oa oc OL
  ta : ∀ k, Go.Proofs.YtnedmonlofbahaaGreatDoor.blk ia k → ¬ Go.Proofs.YtnedmonlofbahaaGreatDoor.blk oa k
  ro : ∀ r ∈ IL, ∀ r' ∈ OL, r.1 ≠ r'.1
theorem Chk.new {w w' : World} {B C M : Nat} {g : Gr} {ns : List ByteArray} {ia : Option Addr} {ic : Nat} {IL : List (Nat × List Bool)} {oa : Option Addr} {oc : Nat} {OL : List (Nat × List Bool)} (h : Chk w B C M g ns ia ic IL oa oc OL) (k : New w w') : Chk w' B C M g ns ia ic IL oa oc OL :=
  ⟨Keeps.heap k h.blk (fun h => h), h.loC, h.loM, h.nm.new k, h.gi.new k, h.go.new k, h.ta, h.ro⟩
theorem chk_cells {w : World} {C : Nat} {a0 a1 a2 a3 a4 a5 a6 a7 : Value} (h : w.heap[C]? = some (.cells #[a0, a1, a2, a3, a4, a5, a6, a7] 149 (0, 0))) :
    (w.cell? ⟨C, 0, none⟩ = some a0 ∧ w.cell? ⟨C, 1, none⟩ = some a1 ∧ w.cell? ⟨C, 2, none⟩ = some a2 ∧ w.cell? ⟨C, 3, none⟩ = some a3 ∧ w.cell? ⟨C, 4, none⟩ = some a4 ∧ w.cell? ⟨C, 5, none⟩ = some a5 ∧ w.cell? ⟨C, 6, none⟩ = some a6 ∧ w.cell? ⟨C, 7, none⟩ = some a7) ∧
    (∀ i, w.frozen? ⟨C, i, none⟩ = false) ∧ C < w.heap.size := by
  refine ⟨⟨?_, ?_, ?_, ?_, ?_, ?_, ?_, ?_⟩, fun i => unfrozen_of_block h i, (Array.getElem?_eq_some_iff.1 h).1⟩
  all_goals rw [cell_of_block h]; rfl
theorem hasN_snoc (ns : List ByteArray) (s t : ByteArray) : hasN (ns ++ [s]) t = if t = s then 1 else hasN ns t := by
  unfold hasN
  rw [List.any_append]
  by_cases e : t = s
  · subst e; simp
  · have : ¬ bytesN s = bytesN t := fun h => e (bytesN_inj.1 h).symm
    simp [e, this]

set_option maxRecDepth 100000 in
set_option maxHeartbeats 4000000 in
theorem cnm_any (w : World) (B C M : Nat) (g : Gr) (ns : List ByteArray) (ia : Option Addr) (ic : Nat) (IL : List (Nat × List Bool)) (oa : Option Addr) (oc : Nat) (OL : List (Nat × List Bool)) (s : ByteArray)
    (h : Chk w B C M g ns ia ic IL oa oc OL) (hs : s.size ≤ 9223372036854775807) (hn : ns.length ≤ 1000) :
    Calls Tryz.prog 124 #[.pointer (some ⟨C, 0, none⟩), .string s] w fun e w' => e = .returned (I (nameE ns s)) ∧ Chk w' B C M g (if nameE ns s = 0 then ns ++ [s] else ns) ia ic IL oa oc OL ∧ KP B w w' := by
  obtain ⟨⟨_, _, _, _, _, c5, _, _⟩, _, hCl⟩ := chk_cells h.blk
  have HN := cname_any w s hs
  cases e1 : nameB s with
  | false =>
    have hE : nameE ns s = 82 := by unfold nameE; simp [e1]
    rw [hE, if_neg (by decide)]
    rw [e1] at HN
    have HF : ∀ w', New w w' → Chk w' B C M g ns ia ic IL oa oc OL ∧ KP B w w' := fun w' k => ⟨h.new k, KXg.of_new k⟩
    clear h e1 hE
    go_enter Tryz.func124, Tryz.ntmps124
    go_wp2_with fail
    refine HN.mono ?_
    rintro e w2 ⟨rfl, k2⟩
    go_wp2_with fail
    go_ret
    exact ⟨rfl, HF _ k2⟩
  | true =>
    rw [e1] at HN
    cases e2 : ns.any (fun t => decide (bytesN t = bytesN s)) with
    | true =>
      have hE : nameE ns s = 83 := by unfold nameE; simp [e1, e2]
      have hV : hasN ns s = 1 := by unfold hasN; simp [e2]
      rw [hE, if_neg (by decide)]
      have HF : ∀ w', New w w' → (Chk w' B C M g ns ia ic IL oa oc OL ∧ KP B w w') ∧ MapAt w' M ns.length (hasN ns) := fun w' k => ⟨⟨h.new k, KXg.of_new k⟩, h.nm.new k⟩
      clear h e1 e2 hE
      go_enter Tryz.func124, Tryz.ntmps124
      go_wp2_with fail
      refine HN.mono ?_
      rintro e w2 ⟨rfl, k2⟩
      obtain ⟨HF1, hm⟩ := HF _ k2
      replace c5 := k2.cell c5
      have hr := run_look s hm hs
      rw [hV] at hr
      clear hV HF hm
      have hCl2 : C < w2.heap.size := Nat.lt_of_lt_of_le hCl k2.size
      go_wp2_with fail
      go_ret
      exact ⟨rfl, HF1⟩
    | false =>
      have hE : nameE ns s = 0 := by unfold nameE; simp [e1, e2]
      have hV : hasN ns s = 0 := by unfold hasN; simp [e2]
      rw [hE, if_pos rfl]
      have HF : ∀ w', New w w' → MapAt w' M ns.length (hasN ns) ∧ (∀ w2, MapAt w2 M (ns.length + 1) (fun t => if t = s then 1 else hasN ns t) → Keeps (fun k => k = M) w' w2 → Chk w2 B C M g (ns ++ [s]) ia ic IL oa oc OL ∧ KP B w w2) := by
        intro w' k
        have h' := h.new k
        obtain ⟨es, clock, hM⟩ := h'.nm.block
        have hne : ∀ {b : Nat} {cs : Array Value} {t : TypeId} {fr : Nat × Nat}, w'.heap[b]? = some (.cells cs t fr) → ¬ b = M := by
          rintro b cs t fr hb rfl
          rw [hM] at hb; cases hb
        refine ⟨h'.nm, fun w2 hm2 k2 => ⟨⟨k2.heap h'.blk (hne h'.blk), h.loC, h.loM, ?_, ?_, ?_, h.ta, h.ro⟩, ?_⟩⟩
        · rw [List.length_append]
          exact hm2.as (fun t => (hasN_snoc ns s t).symm)
        · refine h'.gi.other k2 (fun i hi => ?_) (fun r hr => hne (h'.gi.row r hr))
          obtain ⟨cur, hc⟩ := tab_tag h'.gi.tab (own_blk hi)
          exact hne hc
        · refine h'.go.other k2 (fun i hi => ?_) (fun r hr => hne (h'.go.row r hr))
          obtain ⟨cur, hc⟩ := tab_tag h'.go.tab (own_blk hi)
          exact hne hc
        · refine (KXg.of_new k).trans (Keeps.mono k2 ?_)
          rintro i _ rfl
          exact ⟨h.loM, _, hM, rfl⟩
      clear h e1 e2 hE
      go_enter Tryz.func124, Tryz.ntmps124
      go_wp2_with fail
      refine HN.mono ?_
      rintro e w2 ⟨rfl, k2⟩
      obtain ⟨hm, HF1⟩ := HF _ k2
      replace c5 := k2.cell c5
      have hr := run_look s hm hs
      rw [hV] at hr
      clear hV HF
      have hCl2 : C < w2.heap.size := Nat.lt_of_lt_of_le hCl k2.size
      go_wp2_with (at_mapUpdate; refine wpList_note rfl _ _ _ rfl rfl rfl rfl hm hs (by omega) (by decide) ?_)
      intro w3 hm3 k3
      have HF2 := HF1 w3 hm3 k3
      clear HF1 hm hm3 hr
      go_wp2_with fail
      go_ret
      exact ⟨rfl, HF2⟩
end Go.Proofs.YtnedmonlofbahaaGreatDoor
namespace Go.Proofs.YtnedmonlofbahaaGreatDoor
open Go Go.RowKit Go.Joins
set_option linter.all false

def side (g : Gr) (n : GAct → Nat) (T : Int → Int → Bool) : List (List Bool) := g.acts.mapIdx fun a x => (List.range (n x)).map fun (p : Nat) => T a p
theorem side_len (g : Gr) (n : GAct → Nat) (T : Int → Int → Bool) : (side g n T).length = g.acts.length := by simp [side]
theorem side_get (g : Gr) (n : GAct → Nat) (T : Int → Int → Bool) {a : Nat} (ha : a < g.acts.length) : (side g n T)[a]? = some ((List.range (n g.acts[a])).map fun (p : Nat) => T a p) := by
  simp [side, ha]
theorem rows_get {g : Gr} {n : GAct → Nat} {T : Int → Int → Bool} {L : List (Nat × List Bool)} (h : L.map (·.2) = side g n T) {a : Nat} (ha : a < g.acts.length) :
    (L.getD a (0, [])).2 = (List.range (n g.acts[a])).map fun (p : Nat) => T a p := by
  have h1 := side_get g n T ha
  rw [← h, List.getElem?_map] at h1
  rw [List.getD_eq_getElem?_getD]
  cases hL : L[a]? with
  | none => rw [hL] at h1; simp at h1
  | some r => rw [hL] at h1; simpa using h1
theorem rows_len {g : Gr} {n : GAct → Nat} {T : Int → Int → Bool} {L : List (Nat × List Bool)} (h : L.map (·.2) = side g n T) : L.length = g.acts.length := by
  have := congrArg List.length h
  rwa [List.length_map, side_len] at this
theorem takeE_side {g : Gr} {n : GAct → Nat} {T : Int → Int → Bool} {L : List (Nat × List Bool)} (h : L.map (·.2) = side g n T) (x p : Int) : takeEg L x p = endE g n (T x p) x p := by
  unfold takeEg endE
  rw [rows_len h]
  by_cases hx : 0 ≤ x ∧ x < g.acts.length
  · rw [if_pos hx, dif_pos hx]
    obtain ⟨a, rfl⟩ := Int.eq_ofNat_of_zero_le hx.1
    have ha : a < g.acts.length := by omega
    simp only [Int.toNat_natCast]
    simp only [rows_get h ha, List.length_map, List.length_range]
    by_cases hp : 0 ≤ p ∧ p < (n g.acts[a] : Int)
    · rw [if_pos hp, if_pos hp]
      obtain ⟨q, rfl⟩ := Int.eq_ofNat_of_zero_le hp.1
      have hq : q < n g.acts[a] := by omega
      simp [List.getD_eq_getElem?_getD, hq]
    · rw [if_neg hp, if_neg hp]
  · rw [if_neg hx, dif_neg hx]
theorem takeL_side {g : Gr} {n : GAct → Nat} {T : Int → Int → Bool} {L : List (Nat × List Bool)} (h : L.map (·.2) = side g n T) {x p : Int} (hE : takeEg L x p = 0) :
    (takeL L x p).map (·.2) = side g n (fun a q => T a q || decide (x = a ∧ p = q)) := by
  have hb : (0 ≤ x ∧ x < L.length) ∧ (0 ≤ p ∧ p < (L.getD x.toNat (0, [])).2.length) := by
    unfold takeEg at hE
    split at hE
    · split at hE
      · exact ⟨‹_›, ‹_›⟩
      · cases hE
    · cases hE
  obtain ⟨⟨hx0, hx1⟩, hp0, hp1⟩ := hb
  obtain ⟨a, rfl⟩ := Int.eq_ofNat_of_zero_le hx0
  obtain ⟨q, rfl⟩ := Int.eq_ofNat_of_zero_le hp0
  unfold takeL
  rw [if_pos hE]
  simp only [Int.toNat_natCast] at *
  have hla := rows_len h
  have ha : a < g.acts.length := by omega
  have hr := rows_get h ha
  rw [hr] at hp1
  simp only [List.length_map, List.length_range] at hp1
  apply List.ext_getElem?
  intro i
  rw [List.getElem?_map, List.getElem?_set]
  by_cases hi : a = i
  · subst hi
    rw [if_pos rfl, if_pos (by omega)]
    rw [side_get g n _ ha]
    simp only [Option.map_some, Option.some.injEq, hr]
    apply List.ext_getElem?
    intro j
    rw [List.getElem?_set]
    by_cases hj : q = j
    · subst hj
      simp [show q < n g.acts[a] by omega]
    · rw [if_neg hj]
      by_cases hjn : j < n g.acts[a]
      · have : ¬ ((q : Int) = (j : Int)) := by omega
        simp [hjn, this]
      · simp [hjn]
  · rw [if_neg hi]
    by_cases hil : i < g.acts.length
    · rw [side_get g n _ hil]
      have h1 := side_get g n T hil
      rw [← h, List.getElem?_map] at h1
      rw [h1]
      have : ¬ ((a : Int) = (i : Int)) := by omega
      simp [this]
    · have h1 : (side g n (fun a' q' => T a' q' || decide ((a : Int) = a' ∧ (q : Int) = q')))[i]? = none := by rw [List.getElem?_eq_none_iff, side_len]; omega
      rw [h1, List.getElem?_eq_none (by omega)]; rfl
theorem side_ext {g : Gr} {n : GAct → Nat} {T U : Int → Int → Bool} (h : ∀ a p, T a p = U a p) : side g n T = side g n U := by
  have : T = U := funext fun a => funext fun p => h a p
  rw [this]
theorem side_none (g : Gr) (n : GAct → Nat) : side g n (fun _ _ => false) = g.acts.map fun x => List.replicate (n x) false := by
  apply List.ext_getElem?
  intro i
  by_cases hi : i < g.acts.length
  · rw [side_get g n _ hi]
    simp [hi, List.map_const']
  · rw [List.getElem?_eq_none (by rw [side_len]; omega), List.getElem?_eq_none (by simp; omega)]
theorem outTk_zero (g : Gr) (a p : Int) : outTk g 0 0 a p = false := by simp [outTk]
theorem inTk_zero (g : Gr) (a p : Int) : inTk g 0 0 a p = false := by simp [inTk]
theorem outTk_edge (g : Gr) {k : Nat} (hk : k < g.edges.length) (a p : Int) : outTk g (k + 1) 0 a p = (outTk g k 0 a p || decide (g.edges[k].f = a ∧ g.edges[k].fp = p)) := by
  unfold outTk; rw [List.take_succ_eq_append_getElem hk, List.any_append]; simp
theorem inTk_edge (g : Gr) {k : Nat} (hk : k < g.edges.length) (a p : Int) : inTk g (k + 1) 0 a p = (inTk g k 0 a p || decide (g.edges[k].t = a ∧ g.edges[k].tp = p)) := by
  unfold inTk; rw [List.take_succ_eq_append_getElem hk, List.any_append]; simp
theorem outTk_out (g : Gr) (e : Nat) {k : Nat} (hk : k < g.outs.length) (a p : Int) : outTk g e (k + 1) a p = (outTk g e k a p || decide (g.outs[k].ac = a ∧ g.outs[k].po = p)) := by
  unfold outTk; rw [List.take_succ_eq_append_getElem hk, List.any_append]; simp [Bool.or_assoc]
theorem inTk_in (g : Gr) (e : Nat) {k : Nat} (hk : k < g.ins.length) (a p : Int) : inTk g e (k + 1) a p = (inTk g e k a p || decide (g.ins[k].ac = a ∧ g.ins[k].po = p)) := by
  unfold inTk; rw [List.take_succ_eq_append_getElem hk, List.any_append]; simp [Bool.or_assoc]
theorem names_act (g : Gr) {k : Nat} (hk : k < g.acts.length) : namesOf g (k + 1) 0 0 = namesOf g k 0 0 ++ [g.acts[k].name] := by
  unfold namesOf; simp only [List.take_succ_eq_append_getElem hk, List.map_append, List.map_cons, List.map_nil, List.take_zero, List.append_nil, List.append_assoc]
theorem names_in (g : Gr) (a : Nat) {k : Nat} (hk : k < g.ins.length) : namesOf g a (k + 1) 0 = namesOf g a k 0 ++ [g.ins[k].name] := by
  unfold namesOf; simp only [List.take_succ_eq_append_getElem hk, List.map_append, List.map_cons, List.map_nil, List.take_zero, List.append_nil, List.append_assoc]
theorem names_out (g : Gr) (a i : Nat) {k : Nat} (hk : k < g.outs.length) : namesOf g a i (k + 1) = namesOf g a i k ++ [g.outs[k].name] := by
  unfold namesOf; simp only [List.take_succ_eq_append_getElem hk, List.map_append, List.map_cons, List.map_nil, List.take_zero, List.append_nil, List.append_assoc]
theorem names_len (g : Gr) (a i o : Nat) : (namesOf g a i o).length ≤ a + i + o := by
  unfold namesOf
  simp only [List.length_append, List.length_map, List.length_take]
  omega
theorem firstE_skip {α : Type} {E : Nat → α → Int × Int} {l : List α} {k : Nat} (hk : k < l.length) (hb : ∀ j (hj : j < l.length), j < k → (E j l[j]).1 = 0) (hh : (E k l[k]).1 ≠ 0) : firstE E 0 l = some (k, E k l[k]) := by
  have h := firstE_hit (E := E) l 0 k hk (fun j hj hjk => by simpa using hb j hj hjk) (by simpa using hh)
  simpa using h
theorem firstE_all {α : Type} {E : Nat → α → Int × Int} {l : List α} (hb : ∀ j (hj : j < l.length), j < l.length → (E j l[j]).1 = 0) : firstE E 0 l = none :=
  firstE_none l 0 (fun j hj => by simpa using hb j hj hj)

def spotV (e k i d : Int) : Value := .tuple #[I e, .agg #[.int .u8 k, I i, I d]]
def Stage (r : Option (Nat × Int × Int)) (kind : Int) (ok : World → Prop) (e : Ending) (w' : World) : Prop := match r with
  | some (i, x, d) => e = .returned (spotV x kind i d)
  | none => e = .returned (spotV 0 0 0 0) ∧ ok w'
theorem spot_cells {w : World} {B : Nat} {a b c : Value} (h : w.heap[B]? = some (.cells #[a, b, c] 85 (0, 0))) :
    (w.cell? ⟨B, 0, none⟩ = some a ∧ w.cell? ⟨B, 1, none⟩ = some b ∧ w.cell? ⟨B, 2, none⟩ = some c) ∧ (w.frozen? ⟨B, 0, none⟩ = false ∧ w.frozen? ⟨B, 1, none⟩ = false ∧ w.frozen? ⟨B, 2, none⟩ = false) ∧ B < w.heap.size := by
  refine ⟨⟨?_, ?_, ?_⟩, ⟨unfrozen_of_block h 0, unfrozen_of_block h 1, unfrozen_of_block h 2⟩, (Array.getElem?_eq_some_iff.1 h).1⟩
  all_goals rw [cell_of_block h]; rfl
def headG (g : Gr) : Int × Int × Int × Int := if nameB g.name = false then (82, 0, 0, 0) else if g.acts.length = 0 then (80, 0, 0, 0) else manyG g
def spotOf (f : Int × Int × Int × Int) : Value := spotV f.1 f.2.1 f.2.2.1 f.2.2.2
set_option maxRecDepth 100000 in
set_option maxHeartbeats 8000000 in
theorem chead_any (w : World) (C M : Nat) (g : Gr) (ia : Option Addr) (ni ic : Nat) (oa : Option Addr) (no oc : Nat) (h : w.heap[C]? = some (.cells (chkC g M ia ni ic oa no oc) 149 (0, 0))) (hl : GLen g) :
    Calls Tryz.prog 83 #[.pointer (some ⟨C, 0, none⟩)] w fun e w' => e = .returned (spotOf (headG g)) ∧ New w w' := by
  obtain ⟨⟨c0, c1, c2, c3, c4, _, _, _⟩, _, hCl⟩ := chk_cells h
  have hla := hl.a
  have hle := hl.e
  have hli := hl.i
  have hlo := hl.o
  have HN : ∀ W, Calls Tryz.prog 71 #[.string g.name] W fun e w' => e = .returned (.bool (nameB g.name)) ∧ New W w' := fun W => cname_any W _ hl.n
  clear hl h
  unfold headG manyG spotOf
  obtain ⟨gname, gaa, gac, gacts, gea, gec, gedges, gia, gic, gins, goa, goc, gouts⟩ := g
  simp only at hla hle hli hlo HN c0 c1 c2 c3 c4 ⊢
  generalize nameB gname = nb at HN ⊢
  cases nb with
  | false =>
    rw [if_pos rfl]
    go_enter Tryz.func83, Tryz.ntmps83
    go_wp2_with fail
    have hs0 : (w.alloc (.cells #[.int .u8 0, I 0, I 0] 85)).heap.size = w.heap.size + 1 := size_alloc _ _
    have k0 : New w (w.alloc (.cells #[.int .u8 0, I 0, I 0] 85)) := (New.refl w).alloc _
    have hbx : (w.alloc (.cells #[.int .u8 0, I 0, I 0] 85)).heap[w.heap.size]? = some (.cells #[.int .u8 0, I 0, I 0] 85 (0, 0)) := heap_alloc_new w _
    generalize (w.alloc (.cells #[.int .u8 0, I 0, I 0] 85)) = w0 at k0 hbx hs0 ⊢
    have HB := Lib.hid hbx
    clear hbx
    have k1 : New w0 (w0.alloc (.cells #[.string gname, .slice gaa gacts.length gac, .slice gea gedges.length gec, .slice gia gins.length gic, .slice goa gouts.length goc] 26)) := (New.refl w0).alloc _
    have hby : (w0.alloc (.cells #[.string gname, .slice gaa gacts.length gac, .slice gea gedges.length gec, .slice gia gins.length gic, .slice goa gouts.length goc] 26)).heap[w0.heap.size]? = some (.cells #[.string gname, .slice gaa gacts.length gac, .slice gea gedges.length gec, .slice gia gins.length gic, .slice goa gouts.length goc] 26 (0, 0)) := heap_alloc_new w0 _
    rw [hs0] at hby
    generalize (w0.alloc (.cells #[.string gname, .slice gaa gacts.length gac, .slice gea gedges.length gec, .slice gia gins.length gic, .slice goa gouts.length goc] 26)) = w1 at k1 hby ⊢
    have x0 : w1.cell? ⟨w.heap.size + 1, 0, none⟩ = some (.string gname) := by rw [cell_of_block hby 0]; simp
    have x1 : w1.cell? ⟨w.heap.size + 1, 1, none⟩ = some (.slice gaa gacts.length gac) := by rw [cell_of_block hby 1]; simp
    have x2 : w1.cell? ⟨w.heap.size + 1, 2, none⟩ = some (.slice gea gedges.length gec) := by rw [cell_of_block hby 2]; simp
    have x3 : w1.cell? ⟨w.heap.size + 1, 3, none⟩ = some (.slice gia gins.length gic) := by rw [cell_of_block hby 3]; simp
    have x4 : w1.cell? ⟨w.heap.size + 1, 4, none⟩ = some (.slice goa gouts.length goc) := by rw [cell_of_block hby 4]; simp
    clear hby
    replace HB := Lib.hid (Keeps.heap k1 HB.out (fun h => h))
    replace k0 := k0.trans k1
    clear k1 hs0 c0 c1 c2 c3 c4
    refine (HN w1).mono ?_
    rintro e w2 ⟨rfl, k2⟩
    replace x0 := k2.cell x0
    replace x1 := k2.cell x1
    replace x2 := k2.cell x2
    replace x3 := k2.cell x3
    replace x4 := k2.cell x4
    replace HB := Lib.hid (Keeps.heap k2 HB.out (fun h => h))
    replace k0 := k0.trans k2
    clear k2
    obtain ⟨⟨r0, r1, r2⟩, ⟨f0, f1, f2⟩, hBB⟩ := spot_cells HB.out
    go_wp2_with fail
    exact bodyPost_ret (v := .tuple #[I 82, .agg #[.int .u8 0, I 0, I 0]]) (by simp [results, Tryz.results83, go_sem, r0, r1, r2, f0, f1, f2, hBB]) rfl ⟨rfl, ((k0.setCell (by simp) _).setCell (by simp) _).setCell (by simp) _⟩
  | true =>
    rw [if_neg (by simp)]
    by_cases h0 : gacts.length = 0
    · rw [if_pos h0]
      have d0 : ((gacts.length : Int) == 0) = true := by simp [h0]
      have d0' : decide ((gacts.length : Int) = 0) = true := by simp [h0]
      have d0'' : decide (gacts.length = 0) = true := by simp [h0]
      clear h0
      go_enter Tryz.func83, Tryz.ntmps83
      go_wp2_with fail
      have hs0 : (w.alloc (.cells #[.int .u8 0, I 0, I 0] 85)).heap.size = w.heap.size + 1 := size_alloc _ _
      have k0 : New w (w.alloc (.cells #[.int .u8 0, I 0, I 0] 85)) := (New.refl w).alloc _
      have hbx : (w.alloc (.cells #[.int .u8 0, I 0, I 0] 85)).heap[w.heap.size]? = some (.cells #[.int .u8 0, I 0, I 0] 85 (0, 0)) := heap_alloc_new w _
      generalize (w.alloc (.cells #[.int .u8 0, I 0, I 0] 85)) = w0 at k0 hbx hs0 ⊢
      have HB := Lib.hid hbx
      clear hbx
      have k1 : New w0 (w0.alloc (.cells #[.string gname, .slice gaa gacts.length gac, .slice gea gedges.length gec, .slice gia gins.length gic, .slice goa gouts.length goc] 26)) := (New.refl w0).alloc _
      have hby : (w0.alloc (.cells #[.string gname, .slice gaa gacts.length gac, .slice gea gedges.length gec, .slice gia gins.length gic, .slice goa gouts.length goc] 26)).heap[w0.heap.size]? = some (.cells #[.string gname, .slice gaa gacts.length gac, .slice gea gedges.length gec, .slice gia gins.length gic, .slice goa gouts.length goc] 26 (0, 0)) := heap_alloc_new w0 _
      rw [hs0] at hby
      generalize (w0.alloc (.cells #[.string gname, .slice gaa gacts.length gac, .slice gea gedges.length gec, .slice gia gins.length gic, .slice goa gouts.length goc] 26)) = w1 at k1 hby ⊢
      have x0 : w1.cell? ⟨w.heap.size + 1, 0, none⟩ = some (.string gname) := by rw [cell_of_block hby 0]; simp
      have x1 : w1.cell? ⟨w.heap.size + 1, 1, none⟩ = some (.slice gaa gacts.length gac) := by rw [cell_of_block hby 1]; simp
      have x2 : w1.cell? ⟨w.heap.size + 1, 2, none⟩ = some (.slice gea gedges.length gec) := by rw [cell_of_block hby 2]; simp
      have x3 : w1.cell? ⟨w.heap.size + 1, 3, none⟩ = some (.slice gia gins.length gic) := by rw [cell_of_block hby 3]; simp
      have x4 : w1.cell? ⟨w.heap.size + 1, 4, none⟩ = some (.slice goa gouts.length goc) := by rw [cell_of_block hby 4]; simp
      clear hby
      replace HB := Lib.hid (Keeps.heap k1 HB.out (fun h => h))
      replace k0 := k0.trans k1
      clear k1 hs0 c0 c1 c2 c3 c4
      refine (HN w1).mono ?_
      rintro e w2 ⟨rfl, k2⟩
      replace x0 := k2.cell x0
      replace x1 := k2.cell x1
      replace x2 := k2.cell x2
      replace x3 := k2.cell x3
      replace x4 := k2.cell x4
      replace HB := Lib.hid (Keeps.heap k2 HB.out (fun h => h))
      replace k0 := k0.trans k2
      clear k2
      obtain ⟨⟨r0, r1, r2⟩, ⟨f0, f1, f2⟩, hBB⟩ := spot_cells HB.out
      go_wp2_with fail
      exact bodyPost_ret (v := .tuple #[I 80, .agg #[.int .u8 0, I 0, I 0]]) (by simp [results, Tryz.results83, go_sem, r0, r1, r2, f0, f1, f2, hBB]) rfl ⟨rfl, ((k0.setCell (by simp) _).setCell (by simp) _).setCell (by simp) _⟩
    · rw [if_neg h0]
      have d0 : ((gacts.length : Int) == 0) = false := by
        rw [beq_eq_false_iff_ne]; omega
      have d0' : decide ((gacts.length : Int) = 0) = false := decide_eq_false (by omega)
      have d0'' : decide (gacts.length = 0) = false := decide_eq_false (by omega)
      clear h0
      by_cases h0 : 32 < gacts.length
      · rw [if_pos h0]
        have d0x : decide ((32 : Int) < (gacts.length : Int)) = true := decide_eq_true (by omega)
        clear h0
        go_enter Tryz.func83, Tryz.ntmps83
        go_wp2_with fail
        have hs0 : (w.alloc (.cells #[.int .u8 0, I 0, I 0] 85)).heap.size = w.heap.size + 1 := size_alloc _ _
        have k0 : New w (w.alloc (.cells #[.int .u8 0, I 0, I 0] 85)) := (New.refl w).alloc _
        have hbx : (w.alloc (.cells #[.int .u8 0, I 0, I 0] 85)).heap[w.heap.size]? = some (.cells #[.int .u8 0, I 0, I 0] 85 (0, 0)) := heap_alloc_new w _
        generalize (w.alloc (.cells #[.int .u8 0, I 0, I 0] 85)) = w0 at k0 hbx hs0 ⊢
        have HB := Lib.hid hbx
        clear hbx
        have k1 : New w0 (w0.alloc (.cells #[.string gname, .slice gaa gacts.length gac, .slice gea gedges.length gec, .slice gia gins.length gic, .slice goa gouts.length goc] 26)) := (New.refl w0).alloc _
        have hby : (w0.alloc (.cells #[.string gname, .slice gaa gacts.length gac, .slice gea gedges.length gec, .slice gia gins.length gic, .slice goa gouts.length goc] 26)).heap[w0.heap.size]? = some (.cells #[.string gname, .slice gaa gacts.length gac, .slice gea gedges.length gec, .slice gia gins.length gic, .slice goa gouts.length goc] 26 (0, 0)) := heap_alloc_new w0 _
        rw [hs0] at hby
        generalize (w0.alloc (.cells #[.string gname, .slice gaa gacts.length gac, .slice gea gedges.length gec, .slice gia gins.length gic, .slice goa gouts.length goc] 26)) = w1 at k1 hby ⊢
        have x0 : w1.cell? ⟨w.heap.size + 1, 0, none⟩ = some (.string gname) := by rw [cell_of_block hby 0]; simp
        have x1 : w1.cell? ⟨w.heap.size + 1, 1, none⟩ = some (.slice gaa gacts.length gac) := by rw [cell_of_block hby 1]; simp
        have x2 : w1.cell? ⟨w.heap.size + 1, 2, none⟩ = some (.slice gea gedges.length gec) := by rw [cell_of_block hby 2]; simp
        have x3 : w1.cell? ⟨w.heap.size + 1, 3, none⟩ = some (.slice gia gins.length gic) := by rw [cell_of_block hby 3]; simp
        have x4 : w1.cell? ⟨w.heap.size + 1, 4, none⟩ = some (.slice goa gouts.length goc) := by rw [cell_of_block hby 4]; simp
        clear hby
        replace HB := Lib.hid (Keeps.heap k1 HB.out (fun h => h))
        replace k0 := k0.trans k1
        clear k1 hs0 c0 c1 c2 c3 c4
        refine (HN w1).mono ?_
        rintro e w2 ⟨rfl, k2⟩
        replace x0 := k2.cell x0
        replace x1 := k2.cell x1
        replace x2 := k2.cell x2
        replace x3 := k2.cell x3
        replace x4 := k2.cell x4
        replace HB := Lib.hid (Keeps.heap k2 HB.out (fun h => h))
        replace k0 := k0.trans k2
        clear k2
        obtain ⟨⟨r0, r1, r2⟩, ⟨f0, f1, f2⟩, hBB⟩ := spot_cells HB.out
        go_wp2_with fail
        exact bodyPost_ret (v := .tuple #[I 81, .agg #[.int .u8 1, I 32, I 0]]) (by simp [results, Tryz.results83, go_sem, r0, r1, r2, f0, f1, f2, hBB]) rfl ⟨rfl, ((k0.setCell (by simp) _).setCell (by simp) _).setCell (by simp) _⟩
      · rw [if_neg h0]
        by_cases h1 : 96 < gedges.length
        · rw [if_pos h1]
          have d0x : decide ((32 : Int) < (gacts.length : Int)) = false := decide_eq_false (by omega)
          have d1x : decide ((96 : Int) < (gedges.length : Int)) = true := decide_eq_true (by omega)
          clear h0 h1
          go_enter Tryz.func83, Tryz.ntmps83
          go_wp2_with fail
          have hs0 : (w.alloc (.cells #[.int .u8 0, I 0, I 0] 85)).heap.size = w.heap.size + 1 := size_alloc _ _
          have k0 : New w (w.alloc (.cells #[.int .u8 0, I 0, I 0] 85)) := (New.refl w).alloc _
          have hbx : (w.alloc (.cells #[.int .u8 0, I 0, I 0] 85)).heap[w.heap.size]? = some (.cells #[.int .u8 0, I 0, I 0] 85 (0, 0)) := heap_alloc_new w _
          generalize (w.alloc (.cells #[.int .u8 0, I 0, I 0] 85)) = w0 at k0 hbx hs0 ⊢
          have HB := Lib.hid hbx
          clear hbx
          have k1 : New w0 (w0.alloc (.cells #[.string gname, .slice gaa gacts.length gac, .slice gea gedges.length gec, .slice gia gins.length gic, .slice goa gouts.length goc] 26)) := (New.refl w0).alloc _
          have hby : (w0.alloc (.cells #[.string gname, .slice gaa gacts.length gac, .slice gea gedges.length gec, .slice gia gins.length gic, .slice goa gouts.length goc] 26)).heap[w0.heap.size]? = some (.cells #[.string gname, .slice gaa gacts.length gac, .slice gea gedges.length gec, .slice gia gins.length gic, .slice goa gouts.length goc] 26 (0, 0)) := heap_alloc_new w0 _
          rw [hs0] at hby
          generalize (w0.alloc (.cells #[.string gname, .slice gaa gacts.length gac, .slice gea gedges.length gec, .slice gia gins.length gic, .slice goa gouts.length goc] 26)) = w1 at k1 hby ⊢
          have x0 : w1.cell? ⟨w.heap.size + 1, 0, none⟩ = some (.string gname) := by rw [cell_of_block hby 0]; simp
          have x1 : w1.cell? ⟨w.heap.size + 1, 1, none⟩ = some (.slice gaa gacts.length gac) := by rw [cell_of_block hby 1]; simp
          have x2 : w1.cell? ⟨w.heap.size + 1, 2, none⟩ = some (.slice gea gedges.length gec) := by rw [cell_of_block hby 2]; simp
          have x3 : w1.cell? ⟨w.heap.size + 1, 3, none⟩ = some (.slice gia gins.length gic) := by rw [cell_of_block hby 3]; simp
          have x4 : w1.cell? ⟨w.heap.size + 1, 4, none⟩ = some (.slice goa gouts.length goc) := by rw [cell_of_block hby 4]; simp
          clear hby
          replace HB := Lib.hid (Keeps.heap k1 HB.out (fun h => h))
          replace k0 := k0.trans k1
          clear k1 hs0 c0 c1 c2 c3 c4
          refine (HN w1).mono ?_
          rintro e w2 ⟨rfl, k2⟩
          replace x0 := k2.cell x0
          replace x1 := k2.cell x1
          replace x2 := k2.cell x2
          replace x3 := k2.cell x3
          replace x4 := k2.cell x4
          replace HB := Lib.hid (Keeps.heap k2 HB.out (fun h => h))
          replace k0 := k0.trans k2
          clear k2
          obtain ⟨⟨r0, r1, r2⟩, ⟨f0, f1, f2⟩, hBB⟩ := spot_cells HB.out
          go_wp2_with fail
          exact bodyPost_ret (v := .tuple #[I 81, .agg #[.int .u8 2, I 96, I 0]]) (by simp [results, Tryz.results83, go_sem, r0, r1, r2, f0, f1, f2, hBB]) rfl ⟨rfl, ((k0.setCell (by simp) _).setCell (by simp) _).setCell (by simp) _⟩
        · rw [if_neg h1]
          by_cases h2 : 16 < gins.length
          · rw [if_pos h2]
            have d0x : decide ((32 : Int) < (gacts.length : Int)) = false := decide_eq_false (by omega)
            have d1x : decide ((96 : Int) < (gedges.length : Int)) = false := decide_eq_false (by omega)
            have d2x : decide ((16 : Int) < (gins.length : Int)) = true := decide_eq_true (by omega)
            clear h0 h1 h2
            go_enter Tryz.func83, Tryz.ntmps83
            go_wp2_with fail
            have hs0 : (w.alloc (.cells #[.int .u8 0, I 0, I 0] 85)).heap.size = w.heap.size + 1 := size_alloc _ _
            have k0 : New w (w.alloc (.cells #[.int .u8 0, I 0, I 0] 85)) := (New.refl w).alloc _
            have hbx : (w.alloc (.cells #[.int .u8 0, I 0, I 0] 85)).heap[w.heap.size]? = some (.cells #[.int .u8 0, I 0, I 0] 85 (0, 0)) := heap_alloc_new w _
            generalize (w.alloc (.cells #[.int .u8 0, I 0, I 0] 85)) = w0 at k0 hbx hs0 ⊢
            have HB := Lib.hid hbx
            clear hbx
            have k1 : New w0 (w0.alloc (.cells #[.string gname, .slice gaa gacts.length gac, .slice gea gedges.length gec, .slice gia gins.length gic, .slice goa gouts.length goc] 26)) := (New.refl w0).alloc _
            have hby : (w0.alloc (.cells #[.string gname, .slice gaa gacts.length gac, .slice gea gedges.length gec, .slice gia gins.length gic, .slice goa gouts.length goc] 26)).heap[w0.heap.size]? = some (.cells #[.string gname, .slice gaa gacts.length gac, .slice gea gedges.length gec, .slice gia gins.length gic, .slice goa gouts.length goc] 26 (0, 0)) := heap_alloc_new w0 _
            rw [hs0] at hby
            generalize (w0.alloc (.cells #[.string gname, .slice gaa gacts.length gac, .slice gea gedges.length gec, .slice gia gins.length gic, .slice goa gouts.length goc] 26)) = w1 at k1 hby ⊢
            have x0 : w1.cell? ⟨w.heap.size + 1, 0, none⟩ = some (.string gname) := by rw [cell_of_block hby 0]; simp
            have x1 : w1.cell? ⟨w.heap.size + 1, 1, none⟩ = some (.slice gaa gacts.length gac) := by rw [cell_of_block hby 1]; simp
            have x2 : w1.cell? ⟨w.heap.size + 1, 2, none⟩ = some (.slice gea gedges.length gec) := by rw [cell_of_block hby 2]; simp
            have x3 : w1.cell? ⟨w.heap.size + 1, 3, none⟩ = some (.slice gia gins.length gic) := by rw [cell_of_block hby 3]; simp
            have x4 : w1.cell? ⟨w.heap.size + 1, 4, none⟩ = some (.slice goa gouts.length goc) := by rw [cell_of_block hby 4]; simp
            clear hby
            replace HB := Lib.hid (Keeps.heap k1 HB.out (fun h => h))
            replace k0 := k0.trans k1
            clear k1 hs0 c0 c1 c2 c3 c4
            refine (HN w1).mono ?_
            rintro e w2 ⟨rfl, k2⟩
            replace x0 := k2.cell x0
            replace x1 := k2.cell x1
            replace x2 := k2.cell x2
            replace x3 := k2.cell x3
            replace x4 := k2.cell x4
            replace HB := Lib.hid (Keeps.heap k2 HB.out (fun h => h))
            replace k0 := k0.trans k2
            clear k2
            obtain ⟨⟨r0, r1, r2⟩, ⟨f0, f1, f2⟩, hBB⟩ := spot_cells HB.out
            go_wp2_with fail
            exact bodyPost_ret (v := .tuple #[I 81, .agg #[.int .u8 3, I 16, I 0]]) (by simp [results, Tryz.results83, go_sem, r0, r1, r2, f0, f1, f2, hBB]) rfl ⟨rfl, ((k0.setCell (by simp) _).setCell (by simp) _).setCell (by simp) _⟩
          · rw [if_neg h2]
            by_cases h3 : 16 < gouts.length
            · rw [if_pos h3]
              have d0x : decide ((32 : Int) < (gacts.length : Int)) = false := decide_eq_false (by omega)
              have d1x : decide ((96 : Int) < (gedges.length : Int)) = false := decide_eq_false (by omega)
              have d2x : decide ((16 : Int) < (gins.length : Int)) = false := decide_eq_false (by omega)
              have d3x : decide ((16 : Int) < (gouts.length : Int)) = true := decide_eq_true (by omega)
              clear h0 h1 h2 h3
              go_enter Tryz.func83, Tryz.ntmps83
              go_wp2_with fail
              have hs0 : (w.alloc (.cells #[.int .u8 0, I 0, I 0] 85)).heap.size = w.heap.size + 1 := size_alloc _ _
              have k0 : New w (w.alloc (.cells #[.int .u8 0, I 0, I 0] 85)) := (New.refl w).alloc _
              have hbx : (w.alloc (.cells #[.int .u8 0, I 0, I 0] 85)).heap[w.heap.size]? = some (.cells #[.int .u8 0, I 0, I 0] 85 (0, 0)) := heap_alloc_new w _
              generalize (w.alloc (.cells #[.int .u8 0, I 0, I 0] 85)) = w0 at k0 hbx hs0 ⊢
              have HB := Lib.hid hbx
              clear hbx
              have k1 : New w0 (w0.alloc (.cells #[.string gname, .slice gaa gacts.length gac, .slice gea gedges.length gec, .slice gia gins.length gic, .slice goa gouts.length goc] 26)) := (New.refl w0).alloc _
              have hby : (w0.alloc (.cells #[.string gname, .slice gaa gacts.length gac, .slice gea gedges.length gec, .slice gia gins.length gic, .slice goa gouts.length goc] 26)).heap[w0.heap.size]? = some (.cells #[.string gname, .slice gaa gacts.length gac, .slice gea gedges.length gec, .slice gia gins.length gic, .slice goa gouts.length goc] 26 (0, 0)) := heap_alloc_new w0 _
              rw [hs0] at hby
              generalize (w0.alloc (.cells #[.string gname, .slice gaa gacts.length gac, .slice gea gedges.length gec, .slice gia gins.length gic, .slice goa gouts.length goc] 26)) = w1 at k1 hby ⊢
              have x0 : w1.cell? ⟨w.heap.size + 1, 0, none⟩ = some (.string gname) := by rw [cell_of_block hby 0]; simp
              have x1 : w1.cell? ⟨w.heap.size + 1, 1, none⟩ = some (.slice gaa gacts.length gac) := by rw [cell_of_block hby 1]; simp
              have x2 : w1.cell? ⟨w.heap.size + 1, 2, none⟩ = some (.slice gea gedges.length gec) := by rw [cell_of_block hby 2]; simp
              have x3 : w1.cell? ⟨w.heap.size + 1, 3, none⟩ = some (.slice gia gins.length gic) := by rw [cell_of_block hby 3]; simp
              have x4 : w1.cell? ⟨w.heap.size + 1, 4, none⟩ = some (.slice goa gouts.length goc) := by rw [cell_of_block hby 4]; simp
              clear hby
              replace HB := Lib.hid (Keeps.heap k1 HB.out (fun h => h))
              replace k0 := k0.trans k1
              clear k1 hs0 c0 c1 c2 c3 c4
              refine (HN w1).mono ?_
              rintro e w2 ⟨rfl, k2⟩
              replace x0 := k2.cell x0
              replace x1 := k2.cell x1
              replace x2 := k2.cell x2
              replace x3 := k2.cell x3
              replace x4 := k2.cell x4
              replace HB := Lib.hid (Keeps.heap k2 HB.out (fun h => h))
              replace k0 := k0.trans k2
              clear k2
              obtain ⟨⟨r0, r1, r2⟩, ⟨f0, f1, f2⟩, hBB⟩ := spot_cells HB.out
              go_wp2_with fail
              exact bodyPost_ret (v := .tuple #[I 81, .agg #[.int .u8 4, I 16, I 0]]) (by simp [results, Tryz.results83, go_sem, r0, r1, r2, f0, f1, f2, hBB]) rfl ⟨rfl, ((k0.setCell (by simp) _).setCell (by simp) _).setCell (by simp) _⟩
            · rw [if_neg h3]
              have d0x : decide ((32 : Int) < (gacts.length : Int)) = false := decide_eq_false (by omega)
              have d1x : decide ((96 : Int) < (gedges.length : Int)) = false := decide_eq_false (by omega)
              have d2x : decide ((16 : Int) < (gins.length : Int)) = false := decide_eq_false (by omega)
              have d3x : decide ((16 : Int) < (gouts.length : Int)) = false := decide_eq_false (by omega)
              clear h0 h1 h2 h3
              go_enter Tryz.func83, Tryz.ntmps83
              go_wp2_with fail
              have hs0 : (w.alloc (.cells #[.int .u8 0, I 0, I 0] 85)).heap.size = w.heap.size + 1 := size_alloc _ _
              have k0 : New w (w.alloc (.cells #[.int .u8 0, I 0, I 0] 85)) := (New.refl w).alloc _
              have hbx : (w.alloc (.cells #[.int .u8 0, I 0, I 0] 85)).heap[w.heap.size]? = some (.cells #[.int .u8 0, I 0, I 0] 85 (0, 0)) := heap_alloc_new w _
              generalize (w.alloc (.cells #[.int .u8 0, I 0, I 0] 85)) = w0 at k0 hbx hs0 ⊢
              have HB := Lib.hid hbx
              clear hbx
              have k1 : New w0 (w0.alloc (.cells #[.string gname, .slice gaa gacts.length gac, .slice gea gedges.length gec, .slice gia gins.length gic, .slice goa gouts.length goc] 26)) := (New.refl w0).alloc _
              have hby : (w0.alloc (.cells #[.string gname, .slice gaa gacts.length gac, .slice gea gedges.length gec, .slice gia gins.length gic, .slice goa gouts.length goc] 26)).heap[w0.heap.size]? = some (.cells #[.string gname, .slice gaa gacts.length gac, .slice gea gedges.length gec, .slice gia gins.length gic, .slice goa gouts.length goc] 26 (0, 0)) := heap_alloc_new w0 _
              rw [hs0] at hby
              generalize (w0.alloc (.cells #[.string gname, .slice gaa gacts.length gac, .slice gea gedges.length gec, .slice gia gins.length gic, .slice goa gouts.length goc] 26)) = w1 at k1 hby ⊢
              have x0 : w1.cell? ⟨w.heap.size + 1, 0, none⟩ = some (.string gname) := by rw [cell_of_block hby 0]; simp
              have x1 : w1.cell? ⟨w.heap.size + 1, 1, none⟩ = some (.slice gaa gacts.length gac) := by rw [cell_of_block hby 1]; simp
              have x2 : w1.cell? ⟨w.heap.size + 1, 2, none⟩ = some (.slice gea gedges.length gec) := by rw [cell_of_block hby 2]; simp
              have x3 : w1.cell? ⟨w.heap.size + 1, 3, none⟩ = some (.slice gia gins.length gic) := by rw [cell_of_block hby 3]; simp
              have x4 : w1.cell? ⟨w.heap.size + 1, 4, none⟩ = some (.slice goa gouts.length goc) := by rw [cell_of_block hby 4]; simp
              clear hby
              replace HB := Lib.hid (Keeps.heap k1 HB.out (fun h => h))
              replace k0 := k0.trans k1
              clear k1 hs0 c0 c1 c2 c3 c4
              refine (HN w1).mono ?_
              rintro e w2 ⟨rfl, k2⟩
              replace x0 := k2.cell x0
              replace x1 := k2.cell x1
              replace x2 := k2.cell x2
              replace x3 := k2.cell x3
              replace x4 := k2.cell x4
              replace HB := Lib.hid (Keeps.heap k2 HB.out (fun h => h))
              replace k0 := k0.trans k2
              clear k2
              obtain ⟨⟨r0, r1, r2⟩, ⟨f0, f1, f2⟩, hBB⟩ := spot_cells HB.out
              go_wp2_with fail
              exact bodyPost_ret (v := .tuple #[I 0, .agg #[.int .u8 0, I 0, I 0]]) (by simp [results, Tryz.results83, go_sem, r0, r1, r2, f0, f1, f2, hBB]) rfl ⟨rfl, ((k0.setCell (by simp) _).setCell (by simp) _).setCell (by simp) _⟩
theorem made_false (n : Nat) : madeCells (Value.bool false).cells (n * 1) = (List.replicate n (Value.bool false)).toArray := by
  apply Array.ext
  · simp [size_madeCells]
  · intro i h1 h2
    simp [madeCells, Value.cells, Nat.mod_one]
theorem step_bools {w : World} {ops : Array Oper} {o : Oper} {a : Act} {K : Act → World → Prop} {Q : Exit → Act → World → Prop} {E : Prop} {dec : Decidable (Region.wanted o (yielded ops a.tmps) = true)} (hgd : o.guard = none) (l c : Operand) (ho : o.op = Op.makeSlice 200 l c)
    (n : Nat) (hl : a.eval l = I n) (hc : a.eval c = I n) (hn : n ≤ 1000)
    (h : K (a.put o.dst (.slice (some ⟨w.heap.size, 0, none⟩) n n)) (w.alloc (.cells (List.replicate n (Value.bool false)).toArray 4))) :
    @ite Prop (Region.wanted o (yielded ops a.tmps) = true) dec (Oper.wp Tryz.prog o a w K Q) E := by
  have hw : Region.wanted o (yielded ops a.tmps) = true := by simp [Region.wanted, hgd]
  rw [if_pos hw]
  obtain ⟨i, hi, hz0, hz1, hz2⟩ := info_parts (show (Tryz.prog.info? 4).map (fun i => (i.zero, i.size, i.bytes)) = some (some (.bool false), 1, 1) by kernel_rfl)
  have hr := run_make (P := Tryz.prog) (w := w) 200 4 i (.bool false) Tryz.underlying200 hi hz0 .i64 .i64 (n : Int) (n : Int) (by omega) (Int.le_refl _) (by rw [hz2]; omega) (by omega)
  simp only [Int.toNat_natCast, hz1, made_false] at hr
  unfold Oper.wp execOp
  simp only [ho, Sem.run_bind, Sem.run_pure, Result.andThen_ok, hl, hc, hr]
  exact h
theorem act_cells {w : World} {C : Nat} {a0 a1 a2 : Value} (h : w.heap[C]? = some (.cells #[a0, a1, a2] 63 (0, 0))) :
    w.cell? ⟨C, 0, none⟩ = some a0 ∧ w.cell? ⟨C, 1, none⟩ = some a1 ∧ w.cell? ⟨C, 2, none⟩ = some a2 ∧ C < w.heap.size := by
  refine ⟨?_, ?_, ?_, (Array.getElem?_eq_some_iff.1 h).1⟩
  all_goals rw [cell_of_block h]; rfl
theorem infoRow : (Tryz.prog.info? 200).map (fun i => (i.zero, i.size, i.bytes)) = some (some (.slice none 0 0), 1, 24) := by kernel_rfl
theorem moved_blk {w : World} {a a' : Option Addr} (h : Moved w a a') {k : Nat} (hk : blk a' k) : blk a k ∨ w.heap.size ≤ k := by
  rcases h with rfl | ⟨g, rfl, hg⟩
  · exact .inl hk
  · obtain ⟨y, hy, rfl⟩ := hk; cases hy; exact .inr hg
theorem Chk.addI {w w1 w2 : World} {B C M : Nat} {g : Gr} {ns : List ByteArray} {ia : Option Addr} {ic : Nat} {IL : List (Nat × List Bool)} {oa : Option Addr} {oc : Nat} {OL : List (Nat × List Bool)} (h : Chk w B C M g ns ia ic IL oa oc OL) (hB : B ≤ w.heap.size) {n R c' : Nat} {a' : Option Addr} (k1 : New w w1) (hR : w1.heap[R]? = some (.cells (List.replicate n (Value.bool false)).toArray 4 (0, 0))) (hRn : w.heap.size ≤ R)
    (hown : w2.ownsRow B 200 1 (.slice a' (IL.length + 1) c') (IL.length + 1) (IL.map rowV ++ [.slice (some ⟨R, 0, none⟩) n n])) (hk : Keeps (Go.Proofs.YtnedmonlofbahaaGreatDoor.blk ia) w1 w2) (hm : Moved w1 ia a') :
    (w2.cell? ⟨C, 6, none⟩ = some (.slice ia IL.length ic) ∧ w2.frozen? ⟨C, 6, none⟩ = false ∧ C < w2.heap.size) ∧ Chk (w2.setCell ⟨C, 6, none⟩ (.slice a' (IL.length + 1) c')) B C M g ns a' c' (IL ++ [(R, List.replicate n false)]) oa oc OL ∧ KB B w (w2.setCell ⟨C, 6, none⟩ (.slice a' (IL.length + 1) c')) := by
  have h1 := h.new k1
  have htag : ∀ i, Go.Proofs.YtnedmonlofbahaaGreatDoor.blk ia i → B ≤ i ∧ ∃ cur, w1.heap[i]? = some (.cells cur 200 (0, 0)) := fun i hi => ⟨(own_of_blk h1.gi.tab hi).1, tab_tag h1.gi.tab (own_blk hi)⟩
  have hnb : ∀ {b : Nat} {cs : Array Value} {t : TypeId} {fr : Nat × Nat}, w1.heap[b]? = some (.cells cs t fr) → t ≠ 200 → ¬ Go.Proofs.YtnedmonlofbahaaGreatDoor.blk ia b := fun hb hne hx => by
    obtain ⟨_, cur, hc⟩ := htag _ hx
    rw [hb] at hc; cases hc; exact hne rfl
  have hC2 := hk.heap h1.blk (hnb h1.blk (by decide))
  have hC3 := block_setCell (i := 6) hC2 (.slice a' (IL.length + 1) c')
  have hks : Keeps (fun k => k = C) w2 (w2.setCell ⟨C, 6, none⟩ (.slice a' (IL.length + 1) c')) := Keeps.setCell w2 _ _ rfl
  have hnC : ∀ {b : Nat} {cs : Array Value} {t : TypeId} {fr : Nat × Nat}, w2.heap[b]? = some (.cells cs t fr) → t ≠ 149 → ¬ b = C := by
    rintro b cs t fr hb hne rfl
    rw [hC2] at hb; cases hb; exact hne rfl
  obtain ⟨es, clock, hM⟩ := h1.nm.block
  have hM2 := hk.heap hM (fun hx => by
    obtain ⟨_, cur, hc⟩ := htag _ hx
    rw [hM] at hc; cases hc)
  have hmv : ∀ k, Go.Proofs.YtnedmonlofbahaaGreatDoor.blk a' k → Go.Proofs.YtnedmonlofbahaaGreatDoor.blk ia k ∨ w1.heap.size ≤ k := fun k hb => moved_blk hm hb
  refine ⟨⟨?_, unfrozen_of_block hC2 6, (Array.getElem?_eq_some_iff.1 hC2).1⟩, ⟨?_, h.loC, h.loM, ?_, ?_, ?_, ?_, ?_⟩, ?_⟩
  · rw [cell_of_block hC2 6]; rfl
  · rw [hC3]; simp
  · refine (h1.nm.keeps hk (fun hx => ?_)).keeps hks (fun hx => ?_)
    · obtain ⟨_, cur, hc⟩ := htag _ hx
      rw [hM] at hc; cases hc
    · subst hx; rw [hM2] at hC2; cases hC2
  · refine ⟨?_, fun r hr => ?_, fun r hr => ?_, ?_⟩
    · have h0 := hks.owns hown (fun i hi e => by
        obtain ⟨cur, hc⟩ := tab_tag hown hi
        exact hnC hc (by decide) e)
      simpa [rowV] using h0
    · rcases List.mem_append.1 hr with hr | hr
      · have h3 := hk.heap (h1.gi.row r hr) (hnb (h1.gi.row r hr) (by decide))
        exact hks.heap h3 (hnC h3 (by decide))
      · rw [List.mem_singleton.1 hr]
        have h3 := hk.heap hR (hnb hR (by decide))
        have h4 := hks.heap h3 (hnC h3 (by decide))
        simpa using h4
    · rcases List.mem_append.1 hr with hr | hr
      · exact h.gi.lo r hr
      · rw [List.mem_singleton.1 hr]; exact Nat.le_trans hB hRn
    · rw [List.map_append, List.nodup_append]
      refine ⟨h.gi.nd, by simp, fun x hx y hy => ?_⟩
      obtain ⟨r, hr, rfl⟩ := List.mem_map.1 hx
      obtain rfl : y = R := by simpa using hy
      have := (Array.getElem?_eq_some_iff.1 (h.gi.row r hr)).1
      omega
  · refine (h1.go.other hk (fun i hi => ?_) (fun r hr => hnb (h1.go.row r hr) (by decide))).other hks (fun i hi => ?_) (fun r hr => ?_)
    · intro hx
      exact h.ta i hx hi
    · obtain ⟨cur, hc⟩ := tab_tag h1.go.tab (own_blk hi)
      have h3 := hk.heap hc (fun hx => h.ta i hx hi)
      exact hnC h3 (by decide)
    · have h3 := hk.heap (h1.go.row r hr) (hnb (h1.go.row r hr) (by decide))
      exact hnC h3 (by decide)
  · intro k hk1 hk2
    rcases hmv k hk1 with hx | hx
    · exact h.ta k hx hk2
    · have := (own_of_blk h.go.tab hk2).2
      have := k1.size
      omega
  · intro r hr r' hr'
    rcases List.mem_append.1 hr with hr | hr
    · exact h.ro r hr r' hr'
    · rw [List.mem_singleton.1 hr]
      have := (Array.getElem?_eq_some_iff.1 (h.go.row r' hr')).1
      simp only
      omega
  · refine ((KXg.of_new k1).trans (Keeps.mono hk (fun i _ hi => ?_))).trans (KXg.set hC2 h.loC rfl _)
    obtain ⟨h5, cur, h6⟩ := htag i hi
    exact ⟨h5, _, h6, rfl⟩
theorem Chk.addO {w w1 w2 : World} {B C M : Nat} {g : Gr} {ns : List ByteArray} {ia : Option Addr} {ic : Nat} {IL : List (Nat × List Bool)} {oa : Option Addr} {oc : Nat} {OL : List (Nat × List Bool)} (h : Chk w B C M g ns ia ic IL oa oc OL) (hB : B ≤ w.heap.size) {n R c' : Nat} {a' : Option Addr} (k1 : New w w1) (hR : w1.heap[R]? = some (.cells (List.replicate n (Value.bool false)).toArray 4 (0, 0))) (hRn : w.heap.size ≤ R)
    (hown : w2.ownsRow B 200 1 (.slice a' (OL.length + 1) c') (OL.length + 1) (OL.map rowV ++ [.slice (some ⟨R, 0, none⟩) n n])) (hk : Keeps (Go.Proofs.YtnedmonlofbahaaGreatDoor.blk oa) w1 w2) (hm : Moved w1 oa a') :
    (w2.cell? ⟨C, 7, none⟩ = some (.slice oa OL.length oc) ∧ w2.frozen? ⟨C, 7, none⟩ = false ∧ C < w2.heap.size) ∧ Chk (w2.setCell ⟨C, 7, none⟩ (.slice a' (OL.length + 1) c')) B C M g ns ia ic IL a' c' (OL ++ [(R, List.replicate n false)]) ∧ KB B w (w2.setCell ⟨C, 7, none⟩ (.slice a' (OL.length + 1) c')) := by
  have h1 := h.new k1
  have htag : ∀ i, Go.Proofs.YtnedmonlofbahaaGreatDoor.blk oa i → B ≤ i ∧ ∃ cur, w1.heap[i]? = some (.cells cur 200 (0, 0)) := fun i hi => ⟨(own_of_blk h1.go.tab hi).1, tab_tag h1.go.tab (own_blk hi)⟩
  have hnb : ∀ {b : Nat} {cs : Array Value} {t : TypeId} {fr : Nat × Nat}, w1.heap[b]? = some (.cells cs t fr) → t ≠ 200 → ¬ Go.Proofs.YtnedmonlofbahaaGreatDoor.blk oa b := fun hb hne hx => by
    obtain ⟨_, cur, hc⟩ := htag _ hx
    rw [hb] at hc; cases hc; exact hne rfl
  have hC2 := hk.heap h1.blk (hnb h1.blk (by decide))
  have hC3 := block_setCell (i := 7) hC2 (.slice a' (OL.length + 1) c')
  have hks : Keeps (fun k => k = C) w2 (w2.setCell ⟨C, 7, none⟩ (.slice a' (OL.length + 1) c')) := Keeps.setCell w2 _ _ rfl
  have hnC : ∀ {b : Nat} {cs : Array Value} {t : TypeId} {fr : Nat × Nat}, w2.heap[b]? = some (.cells cs t fr) → t ≠ 149 → ¬ b = C := by
    rintro b cs t fr hb hne rfl
    rw [hC2] at hb; cases hb; exact hne rfl
  obtain ⟨es, clock, hM⟩ := h1.nm.block
  have hM2 := hk.heap hM (fun hx => by
    obtain ⟨_, cur, hc⟩ := htag _ hx
    rw [hM] at hc; cases hc)
  have hmv : ∀ k, Go.Proofs.YtnedmonlofbahaaGreatDoor.blk a' k → Go.Proofs.YtnedmonlofbahaaGreatDoor.blk oa k ∨ w1.heap.size ≤ k := fun k hb => moved_blk hm hb
  refine ⟨⟨?_, unfrozen_of_block hC2 7, (Array.getElem?_eq_some_iff.1 hC2).1⟩, ⟨?_, h.loC, h.loM, ?_, ?_, ?_, ?_, ?_⟩, ?_⟩
  · rw [cell_of_block hC2 7]; rfl
  · rw [hC3]; simp
  · refine (h1.nm.keeps hk (fun hx => ?_)).keeps hks (fun hx => ?_)
    · obtain ⟨_, cur, hc⟩ := htag _ hx
      rw [hM] at hc; cases hc
    · subst hx; rw [hM2] at hC2; cases hC2
  · refine (h1.gi.other hk (fun i hi => ?_) (fun r hr => hnb (h1.gi.row r hr) (by decide))).other hks (fun i hi => ?_) (fun r hr => ?_)
    · intro hx
      exact h.ta i hi hx
    · obtain ⟨cur, hc⟩ := tab_tag h1.gi.tab (own_blk hi)
      have h3 := hk.heap hc (fun hx => h.ta i hi hx)
      exact hnC h3 (by decide)
    · have h3 := hk.heap (h1.gi.row r hr) (hnb (h1.gi.row r hr) (by decide))
      exact hnC h3 (by decide)
  · refine ⟨?_, fun r hr => ?_, fun r hr => ?_, ?_⟩
    · have h0 := hks.owns hown (fun i hi e => by
        obtain ⟨cur, hc⟩ := tab_tag hown hi
        exact hnC hc (by decide) e)
      simpa [rowV] using h0
    · rcases List.mem_append.1 hr with hr | hr
      · have h3 := hk.heap (h1.go.row r hr) (hnb (h1.go.row r hr) (by decide))
        exact hks.heap h3 (hnC h3 (by decide))
      · rw [List.mem_singleton.1 hr]
        have h3 := hk.heap hR (hnb hR (by decide))
        have h4 := hks.heap h3 (hnC h3 (by decide))
        simpa using h4
    · rcases List.mem_append.1 hr with hr | hr
      · exact h.go.lo r hr
      · rw [List.mem_singleton.1 hr]; exact Nat.le_trans hB hRn
    · rw [List.map_append, List.nodup_append]
      refine ⟨h.go.nd, by simp, fun x hx y hy => ?_⟩
      obtain ⟨r, hr, rfl⟩ := List.mem_map.1 hx
      obtain rfl : y = R := by simpa using hy
      have := (Array.getElem?_eq_some_iff.1 (h.go.row r hr)).1
      omega
  · intro k hk1 hk2
    rcases hmv k hk2 with hx | hx
    · exact h.ta k hk1 hx
    · have := (own_of_blk h.gi.tab hk1).2
      have := k1.size
      omega
  · intro r hr r' hr'
    rcases List.mem_append.1 hr' with hr' | hr'
    · exact h.ro r hr r' hr'
    · rw [List.mem_singleton.1 hr']
      have := (Array.getElem?_eq_some_iff.1 (h.gi.row r hr)).1
      simp only
      omega
  · refine ((KXg.of_new k1).trans (Keeps.mono hk (fun i _ hi => ?_))).trans (KXg.set hC2 h.loC rfl _)
    obtain ⟨h5, cur, h6⟩ := htag i hi
    exact ⟨h5, _, h6, rfl⟩
theorem Chk.other {S : Nat → Prop} {w w' : World} {B C M : Nat} {g : Gr} {ns : List ByteArray} {ia : Option Addr} {ic : Nat} {IL : List (Nat × List Bool)} {oa : Option Addr} {oc : Nat} {OL : List (Nat × List Bool)} (h : Chk w B C M g ns ia ic IL oa oc OL)
    (k : Keeps S w w') (hS : ∀ i, S i → ∃ o, w.heap[i]? = some o ∧ chkO o = false) : Chk w' B C M g ns ia ic IL oa oc OL := by
  have hn : ∀ {i : Nat} {o : Obj}, w.heap[i]? = some o → chkO o = true → ¬ S i := fun hi ho hs => by
    obtain ⟨o', h1, h2⟩ := hS _ hs
    rw [hi] at h1; cases h1; rw [ho] at h2; cases h2
  obtain ⟨es, clock, hM⟩ := h.nm.block
  refine ⟨k.heap h.blk (hn h.blk rfl), h.loC, h.loM, h.nm.keeps k (hn hM rfl), h.gi.other k (fun i hi => ?_) (fun r hr => hn (h.gi.row r hr) rfl), h.go.other k (fun i hi => ?_) (fun r hr => hn (h.go.row r hr) rfl), h.ta, h.ro⟩
  · obtain ⟨cur, hc⟩ := tab_tag h.gi.tab (own_blk hi)
    exact hn hc rfl
  · obtain ⟨cur, hc⟩ := tab_tag h.go.tab (own_blk hi)
    exact hn hc rfl
theorem KXg.setCell {pk : Obj → Bool} {B : Nat} {w w' : World} (h : KXg pk B w w') {p : Addr} (hp : w.heap.size ≤ p.block) (v : Value) : KXg pk B w (w'.setCell p v) :=
  Keeps.trans h (Keeps.setCell (S := fun k => k = p.block) w' p v rfl) (fun i hi e => by omega)
theorem Chk.spot {w : World} {B C M : Nat} {g : Gr} {ns : List ByteArray} {ia : Option Addr} {ic : Nat} {IL : List (Nat × List Bool)} {oa : Option Addr} {oc : Nat} {OL : List (Nat × List Bool)} {P : Nat} {cs : Array Value} (h : Chk w B C M g ns ia ic IL oa oc OL)
    (hb : w.heap[P]? = some (.cells cs 85 (0, 0))) (u v x : Value) : Chk (((w.setCell ⟨P, 0, none⟩ u).setCell ⟨P, 1, none⟩ v).setCell ⟨P, 2, none⟩ x) B C M g ns ia ic IL oa oc OL :=
  h.other (S := fun k => k = P) (((Keeps.setCell (S := fun k => k = P) w _ _ rfl).trans (Keeps.setCell (S := fun k => k = P) _ _ _ rfl) (fun _ _ h => h)).trans (Keeps.setCell (S := fun k => k = P) _ _ _ rfl) (fun _ _ h => h)) (fun i hi => ⟨_, hi ▸ hb, rfl⟩)
theorem actE_eq (g : Gr) (k : Nat) (x : GAct) : actE g k x = (if nameE (namesOf g k 0 0) x.name ≠ 0 then nameE (namesOf g k 0 0) x.name else (shapeS x.tag x.xs).1, 0) := by
  unfold actE; split <;> rfl
theorem bool_next {L : List (Nat × List Bool)} {l : List GAct} {n : GAct → Nat} {k R m : Nat} (h : L.map (·.2) = (l.take k).map (fun x => List.replicate (n x) false)) (hk : k < l.length) (hm : m = n l[k]) :
    (L ++ [(R, List.replicate m false)]).map (·.2) = (l.take (k + 1)).map (fun x => List.replicate (n x) false) := by
  subst hm
  rw [List.take_succ_eq_append_getElem hk, List.map_append, List.map_append, h]; rfl
theorem bool_len {L : List (Nat × List Bool)} {l : List GAct} {n : GAct → Nat} {k : Nat} (h : L.map (·.2) = (l.take k).map (fun x => List.replicate (n x) false)) : L.length ≤ k := by
  have := congrArg List.length h
  rw [List.length_map, List.length_map, List.length_take] at this
  omega

set_option maxRecDepth 100000 in
set_option maxHeartbeats 16000000 in
theorem cactors_any (w0 w : World) (B C M : Nat) (g : Gr) (hg : GrAt w0 g) (hN : New w0 w) (hB : B = w0.heap.size) (hl : GLen g) (hal : g.acts.length ≤ 32) (h : Chk w B C M g [] none 0 [] none 0 []) :
    Calls Tryz.prog 84 #[.pointer (some ⟨C, 0, none⟩)] w fun e w' => Stage (firstE (actE g) 0 g.acts) 1 (fun w' => ∃ ia ic IL oa oc OL, Chk w' B C M g (namesOf g g.acts.length 0 0) ia ic IL oa oc OL ∧ IL.map (·.2) = side g nIn (fun _ _ => false) ∧ OL.map (·.2) = side g nOut (fun _ _ => false)) e w' ∧ KB B w w' := by
  obtain ⟨⟨c0, c1, c2, c3, c4, -, -, -⟩, -, hCl⟩ := chk_cells h.blk
  obtain ⟨it, hit, hz0, hz1, hz2⟩ := info_parts infoRow
  have HAX := Lib.hid hl.ax
  have hla := hl.a
  clear hl
  obtain ⟨ok, hok⟩ : ∃ ok : World → Prop, (fun w' => ∃ ia ic IL oa oc OL, Chk w' B C M g (namesOf g g.acts.length 0 0) ia ic IL oa oc OL ∧ IL.map (·.2) = side g nIn (fun _ _ => false) ∧ OL.map (·.2) = side g nOut (fun _ _ => false)) = ok := ⟨_, rfl⟩
  rw [hok]
  have HOK := Lib.hid hok
  clear hok
  obtain ⟨ga, hga⟩ : ∃ ga, g.aa = ga := ⟨_, rfl⟩
  rw [hga] at c1
  have HGA := Lib.hid hga
  have HG := Lib.hid hg
  have HNw := Lib.hid hN
  have HBB := Lib.hid hB
  have hBw : B ≤ w.heap.size := by rw [hB]; exact hN.size
  clear hga hg hN hB
  go_enter Tryz.func84, Tryz.ntmps84
  go_wp2_with fail
  have k0 : New w (w.alloc (.cells #[.int .u8 0, I 0, I 0] 85)) := (New.refl w).alloc _
  have hbx : (w.alloc (.cells #[.int .u8 0, I 0, I 0] 85)).heap[w.heap.size]? = some (.cells #[.int .u8 0, I 0, I 0] 85 (0, 0)) := heap_alloc_new w _
  generalize (w.alloc (.cells #[.int .u8 0, I 0, I 0] 85)) = v0 at k0 hbx ⊢
  clear c0 c1 c2 c3 c4
  have hCh := h.new k0
  clear h hCl
  go_loopw [15] (fun i wr => ∃ (k : Nat) (ia : Option Addr) (ic : Nat) (IL : List (Nat × List Bool)) (oa : Option Addr) (oc : Nat) (OL : List (Nat × List Bool)), k ≤ g.acts.length ∧ i = .int .i64 k ∧
      Hid (Chk wr B C M g (namesOf g k 0 0) ia ic IL oa oc OL ∧ IL.map (·.2) = (g.acts.take k).map (fun x => List.replicate (nIn x) false) ∧ OL.map (·.2) = (g.acts.take k).map (fun x => List.replicate (nOut x) false) ∧
        (∀ j (hj : j < g.acts.length), j < k → (actE g j g.acts[j]).1 = 0) ∧ wr.heap[w.heap.size]? = some (.cells #[.int .u8 0, I 0, I 0] 85 (0, 0)) ∧ KB B w wr)) (fun i _ => g.acts.length - (intOf i).toNat)
  case atStart => exact ⟨0, none, 0, [], none, 0, [], by omega, rfl, Lib.hid ⟨hCh, by simp, by simp, fun j hj hjk => by omega, hbx, KXg.of_new k0⟩⟩
  case round =>
    clear hCh hbx k0
    obtain ⟨k, ia, ic, IL, oa, oc, OL, hk, rfl, HR⟩ := hrel
    obtain ⟨hC, hI, hO, hE, hb, hKB⟩ := HR.out
    have HI := Lib.hid hI
    have HO := Lib.hid hO
    have HE := Lib.hid hE
    have HB := Lib.hid hb
    clear hI hO hE hb HR
    by_cases hk1 : k < g.acts.length
    · have hkI : (k : Int) < (g.acts.length : Int) := by omega
      have hkd : decide (k < g.acts.length) = true := decide_eq_true hk1
      have hGr := HG.out.new (hKB.new HBB.out HNw.out)
      obtain ⟨b, off, hab, q0, q1, q2⟩ := acts_at hGr.sa hk1
      have hxs := (HAX.out _ (List.getElem_mem hk1)).2
      have hxn := (HAX.out _ (List.getElem_mem hk1)).1
      have hAE : Hid (actE g k g.acts[k] = _) := Lib.hid (actE_eq g k g.acts[k])
      have hfew := shape_few g.acts[k].tag g.acts[k].xs
      have hni : Hid (nIn g.acts[k] = (shapeS g.acts[k].tag g.acts[k].xs).2.1.length) := Lib.hid rfl
      have hno : Hid (nOut g.acts[k] = (shapeS g.acts[k].tag g.acts[k].xs).2.2.length) := Lib.hid rfl
      have HOf : ∀ W, New w0 W → Calls Tryz.prog 125 #[.int .u8 g.acts[k].tag, .slice g.acts[k].a g.acts[k].xs.length g.acts[k].c] W (Rates W (shapeS g.acts[k].tag g.acts[k].xs)) := fun W n => shOf_any _ _ _ _ W ((HG.out.ax _ (List.getElem_mem hk1)).new n) hxn
      have hnl : (namesOf g k 0 0).length ≤ 1000 := by have := names_len g k 0 0; omega
      have hns : Hid (namesOf g (k + 1) 0 0 = namesOf g k 0 0 ++ [g.acts[k].name]) := Lib.hid (names_act g hk1)
      have hIl := bool_len HI.out
      have hOl := bool_len HO.out
      have HIn : ∀ R : Nat, Hid (((IL ++ [(R, List.replicate (shapeS g.acts[k].tag g.acts[k].xs).2.1.length false)] : List (Nat × List Bool))).map (·.2) = (g.acts.take (k + 1)).map (fun x => List.replicate (nIn x) false)) := fun R => Lib.hid (bool_next HI.out hk1 rfl)
      have HOn : ∀ R : Nat, Hid (((OL ++ [(R, List.replicate (shapeS g.acts[k].tag g.acts[k].xs).2.2.length false)] : List (Nat × List Bool))).map (·.2) = (g.acts.take (k + 1)).map (fun x => List.replicate (nOut x) false)) := fun R => Lib.hid (bool_next HO.out hk1 rfl)
      have HF : Hid ((actE g k g.acts[k]).1 ≠ 0 → firstE (actE g) 0 g.acts = some (k, actE g k g.acts[k])) := Lib.hid (fun h => firstE_skip hk1 HE.out h)
      have HE2 : Hid ((actE g k g.acts[k]).1 = 0 → ∀ j (hj : j < g.acts.length), j < k + 1 → (actE g j g.acts[j]).1 = 0) := Lib.hid (fun h j hj hjk => by
        by_cases e : j = k
        · subst e; exact h
        · exact HE.out j hj (by omega))
      have e : ga = some ⟨b, off, none⟩ := HGA.out.symm.trans hab
      subst e
      clear hab hGr HE HI HO HAX
      generalize g.acts[k] = x at q0 q1 q2 hxs hxn hAE hfew hni hno HOf hns HIn HOn HF HE2
      generalize shapeS x.tag x.xs = sh at hAE hfew hni hno HOf HIn HOn
      generalize namesOf g k 0 0 = ns at hC hAE hnl hns
      have hNmC := fun W (n : New wr W) => cnm_any W B C M g ns ia ic IL oa oc OL x.name (hC.new n) hxs hnl
      generalize nameE ns x.name = nm at hAE hNmC
      clear hC
      go_wp2_with fail
      have kb : New wr (wr.alloc (.cells #[.string x.name, .int .u8 x.tag, .slice x.a x.xs.length x.c] 63)) := (New.refl wr).alloc _
      have hby : (wr.alloc (.cells #[.string x.name, .int .u8 x.tag, .slice x.a x.xs.length x.c] 63)).heap[wr.heap.size]? = some (.cells #[.string x.name, .int .u8 x.tag, .slice x.a x.xs.length x.c] 63 (0, 0)) := heap_alloc_new wr _
      generalize (wr.alloc (.cells #[.string x.name, .int .u8 x.tag, .slice x.a x.xs.length x.c] 63)) = w1 at kb hby ⊢
      generalize wr.heap.size = Y at hby ⊢
      replace HB := Lib.hid (Keeps.heap kb HB.out (fun h => h))
      replace hKB := hKB.trans (KXg.of_new kb)
      refine (hNmC w1 kb).mono ?_
      rintro e w2 ⟨rfl, hC2, k2⟩
      have HY := Lib.hid (k2.heap hby rfl)
      replace HB := Lib.hid (k2.heap HB.out rfl)
      replace hKB := hKB.trans k2.wide
      clear hby k2 kb q0 q1 q2 hNmC
      by_cases hnm : nm = 0
      · have e1 : (nm == 0) = true := by simp [hnm]
        have e2 : (nm != 0) = false := by simp [hnm]
        have e3 : decide (nm = 0) = true := decide_eq_true hnm
        rw [if_pos hnm] at hC2
        rw [hnm] at hAE
        replace hAE : Hid (actE g k x = (sh.1, 0)) := Lib.hid (by rw [hAE.out]; simp)
        subst hnm
        clear e1 e2 e3
        obtain ⟨y0, y1, y2, -⟩ := act_cells HY.out
        have hOf := HOf w2 (hKB.new HBB.out HNw.out)
        go_wp2_with fail
        refine hOf.mono ?_
        rintro e w3 ⟨ra, rac, rb, rbc, rfl, hra, hrb, _, k3⟩
        replace HY := Lib.hid (Keeps.heap k3 HY.out (fun h => h))
        replace HB := Lib.hid (Keeps.heap k3 HB.out (fun h => h))
        replace hKB := hKB.trans (KXg.of_new k3)
        have hC3 := hC2.new k3
        clear hra hrb k3 hC2 y0 y1 y2 hOf HOf
        obtain ⟨n1, hn1⟩ : ∃ n, sh.2.1.length = n := ⟨_, rfl⟩
        obtain ⟨n2, hn2⟩ : ∃ n, sh.2.2.length = n := ⟨_, rfl⟩
        rw [hn1] at HIn hfew
        rw [hn2] at HOn hfew
        rw [hn1, hn2]
        have hIl2 : IL.length ≤ 32 := by omega
        have hOl2 : OL.length ≤ 32 := by omega
        have hC := hC3
        clear hC3 hn1 hn2 hni hno
        go_wp2_with fail
        obtain ⟨⟨-, -, -, -, -, -, c6, c7⟩, -, hCl⟩ := chk_cells hC.blk
        have hdr : New w3 w3.drew := (New.refl w3).drew
        have hS0 : (fun w' : World => w'.cell? ⟨C, 6, none⟩ = some (.slice ia IL.length ic) ∧ C < w'.heap.size) w3.drew := ⟨hdr.cell c6, hCl⟩
        clear c6 c7
        refine wp_region_X (fun w' : World => w'.cell? ⟨C, 6, none⟩ = some (.slice ia IL.length ic) ∧ C < w'.heap.size) [12] (by kernel_rfl) hS0 ?_
        refine anyX_tk 0 hS0 ?_
        refine anyX_tk 1 hS0 ?_
        refine anyX_tk 2 hS0 ?_
        refine anyX_tk 3 hS0 ?_
        refine anyX_tk 4 hS0 ?_
        refine anyX_tk 5 hS0 ?_
        refine anyX_tk 6 hS0 ?_
        refine anyX_one 7 (by kernel_rfl) ?_
        intro oi ho; simp only [List.getElem?_toArray, List.getElem?_cons_succ, List.getElem?_cons_zero, Option.some.injEq] at ho; subst ho; intro K hK
        refine step_bools ?_ (.tmp 41) (.tmp 41) ?_ n1 ?_ ?_ (by omega) ?_
        · rfl
        · rfl
        · rfl
        · rfl
        have kA : New w3.drew (w3.drew.alloc (.cells (List.replicate n1 (Value.bool false)).toArray 4)) := (New.refl _).alloc _
        have hRA : (w3.drew.alloc (.cells (List.replicate n1 (Value.bool false)).toArray 4)).heap[w3.drew.heap.size]? = some (.cells (List.replicate n1 (Value.bool false)).toArray 4 (0, 0)) := heap_alloc_new _ _
        have hRn : w3.heap.size ≤ w3.drew.heap.size := hdr.size
        generalize (w3.drew.alloc (.cells (List.replicate n1 (Value.bool false)).toArray 4)) = wA at kA hRA hK ⊢
        generalize w3.drew.heap.size = R at hRA hRn ⊢
        have hSA : (fun w' : World => w'.cell? ⟨C, 6, none⟩ = some (.slice ia IL.length ic) ∧ C < w'.heap.size) wA := ⟨kA.cell hS0.1, Nat.lt_of_lt_of_le hS0.2 kA.size⟩
        replace kA := hdr.trans kA
        refine hK _ _ (fun _ => hSA) ?_
        clear hK K
        refine anyX_one 8 (by kernel_rfl) ?_
        intro oi ho; simp only [List.getElem?_toArray, List.getElem?_cons_succ, List.getElem?_cons_zero, Option.some.injEq] at ho; subst ho; intro K hK
        (try simp only [Act.put, List.setIfInBounds_toArray, List.set_cons_zero, List.set_cons_succ])
        go_simp
        have kB : New wA (wA.alloc (.cells #[.slice (some ⟨R, 0, none⟩) n1 n1] 200)) := (New.refl wA).alloc _
        have hSB : (fun w' : World => w'.cell? ⟨C, 6, none⟩ = some (.slice ia IL.length ic) ∧ C < w'.heap.size) (wA.alloc (.cells #[.slice (some ⟨R, 0, none⟩) n1 n1] 200)) := ⟨kB.cell hSA.1, Nat.lt_of_lt_of_le hSA.2 kB.size⟩
        have hlit : SlAt (wA.alloc (.cells #[.slice (some ⟨R, 0, none⟩) n1 n1] 200)) (some ⟨wA.heap.size, 0, none⟩) [.slice (some ⟨R, 0, none⟩) n1 n1] := SlAt.lit wA _ _
        refine hK _ _ (fun _ => hSB) ?_
        clear hK K
        replace hRA := Keeps.heap kB hRA (fun h => h)
        replace kA := kA.trans kB
        generalize (wA.alloc (.cells #[.slice (some ⟨R, 0, none⟩) n1 n1] 200)) = wB at kA hRA hSB hlit ⊢
        generalize wA.heap.size = Z at hlit ⊢
        clear kB hSA hS0
        refine anyX_one 9 (by kernel_rfl) ?_
        intro oi ho; simp only [List.getElem?_toArray, List.getElem?_cons_succ, List.getElem?_cons_zero, Option.some.injEq] at ho; subst ho; intro K hK
        refine step_app rfl _ _ 147 rfl B 200 it (.slice none 0 0) 1 24 Tryz.underlying147 hit hz0 hz1 hz2 rfl (by decide) ia IL.length ic (IL.map rowV) rfl ((hC.new kA).gi.tab) (some ⟨Z, 0, none⟩) 1 1 [.slice (some ⟨R, 0, none⟩) n1 n1] rfl rfl hlit (by intro u hu; rw [List.mem_singleton.1 hu]; rfl) (by unfold maxLen; omega) (by omega) (Nat.le_trans (Nat.le_trans hBw hKB.size) kA.size) ?_
        intro ao' c' wc hown' hk' hmv
        obtain ⟨⟨hv0, hfz, hCl2⟩, hCn, hKn⟩ := hC.addI (Nat.le_trans hBw hKB.size) kA hRA hRn hown' hk' hmv
        have HCn := Lib.hid hCn
        have hSd : (fun w' : World => w'.cell? ⟨C, 6, none⟩ = some (.slice ia IL.length ic) ∧ C < w'.heap.size) wc := ⟨hv0, hCl2⟩
        refine hK _ _ (fun _ => hSd) ?_
        clear hK K hC hCn hown' hk' hmv kA hRA hRn hlit hSB
        refine anyX_tk 10 hSd ?_
        refine anyX_tk 11 hSd ?_
        refine anyX_one 12 (by kernel_rfl) ?_
        intro oi ho; simp only [List.getElem?_toArray, List.getElem?_cons_succ, List.getElem?_cons_zero, Option.some.injEq] at ho; subst ho; intro K hK
        (try simp only [Act.put, List.setIfInBounds_toArray, List.set_cons_zero, List.set_cons_succ])
        go_simp
        refine hK _ _ (fun hx => by cases hx) ?_
        clear hK K
        refine anyX_done (by kernel_rfl) ?_
        (try simp only [Act.put, List.setIfInBounds_toArray, List.set_cons_zero, List.set_cons_succ])
        replace HY := Lib.hid (hKn.heap HY.out rfl)
        replace HB := Lib.hid (hKn.heap HB.out rfl)
        replace hKB := hKB.trans hKn
        have hC := HCn.out
        generalize (wc.setCell ⟨C, 6, none⟩ (.slice ao' (IL.length + 1) c')) = w5 at HY HB hKB hC ⊢
        clear HCn hKn hv0 hfz hSd hCl2 hdr hCl
        (try simp only [Exit.then])
        replace HIn := HIn R
        generalize (IL ++ [(R, List.replicate n1 false)] : List (Nat × List Bool)) = IL1 at HIn hC
        generalize ao' = ia1 at hC
        generalize c' = ic1 at hC
        go_wp2_with fail
        obtain ⟨⟨-, -, -, -, -, -, c6, c7⟩, -, hCl⟩ := chk_cells hC.blk
        have hdr : New w5 w5.drew := (New.refl w5).drew
        have hS0 : (fun w' : World => w'.cell? ⟨C, 7, none⟩ = some (.slice oa OL.length oc) ∧ C < w'.heap.size) w5.drew := ⟨hdr.cell c7, hCl⟩
        clear c6 c7
        refine wp_region_X (fun w' : World => w'.cell? ⟨C, 7, none⟩ = some (.slice oa OL.length oc) ∧ C < w'.heap.size) [12] (by kernel_rfl) hS0 ?_
        refine anyX_tk 0 hS0 ?_
        refine anyX_tk 1 hS0 ?_
        refine anyX_tk 2 hS0 ?_
        refine anyX_tk 3 hS0 ?_
        refine anyX_tk 4 hS0 ?_
        refine anyX_tk 5 hS0 ?_
        refine anyX_tk 6 hS0 ?_
        refine anyX_one 7 (by kernel_rfl) ?_
        intro oi ho; simp only [List.getElem?_toArray, List.getElem?_cons_succ, List.getElem?_cons_zero, Option.some.injEq] at ho; subst ho; intro K hK
        refine step_bools ?_ (.tmp 53) (.tmp 53) ?_ n2 ?_ ?_ (by omega) ?_
        · rfl
        · rfl
        · rfl
        · rfl
        have kA : New w5.drew (w5.drew.alloc (.cells (List.replicate n2 (Value.bool false)).toArray 4)) := (New.refl _).alloc _
        have hRA : (w5.drew.alloc (.cells (List.replicate n2 (Value.bool false)).toArray 4)).heap[w5.drew.heap.size]? = some (.cells (List.replicate n2 (Value.bool false)).toArray 4 (0, 0)) := heap_alloc_new _ _
        have hRn : w5.heap.size ≤ w5.drew.heap.size := hdr.size
        generalize (w5.drew.alloc (.cells (List.replicate n2 (Value.bool false)).toArray 4)) = wA at kA hRA hK ⊢
        generalize w5.drew.heap.size = R at hRA hRn ⊢
        have hSA : (fun w' : World => w'.cell? ⟨C, 7, none⟩ = some (.slice oa OL.length oc) ∧ C < w'.heap.size) wA := ⟨kA.cell hS0.1, Nat.lt_of_lt_of_le hS0.2 kA.size⟩
        replace kA := hdr.trans kA
        refine hK _ _ (fun _ => hSA) ?_
        clear hK K
        refine anyX_one 8 (by kernel_rfl) ?_
        intro oi ho; simp only [List.getElem?_toArray, List.getElem?_cons_succ, List.getElem?_cons_zero, Option.some.injEq] at ho; subst ho; intro K hK
        (try simp only [Act.put, List.setIfInBounds_toArray, List.set_cons_zero, List.set_cons_succ])
        go_simp
        have kB : New wA (wA.alloc (.cells #[.slice (some ⟨R, 0, none⟩) n2 n2] 200)) := (New.refl wA).alloc _
        have hSB : (fun w' : World => w'.cell? ⟨C, 7, none⟩ = some (.slice oa OL.length oc) ∧ C < w'.heap.size) (wA.alloc (.cells #[.slice (some ⟨R, 0, none⟩) n2 n2] 200)) := ⟨kB.cell hSA.1, Nat.lt_of_lt_of_le hSA.2 kB.size⟩
        have hlit : SlAt (wA.alloc (.cells #[.slice (some ⟨R, 0, none⟩) n2 n2] 200)) (some ⟨wA.heap.size, 0, none⟩) [.slice (some ⟨R, 0, none⟩) n2 n2] := SlAt.lit wA _ _
        refine hK _ _ (fun _ => hSB) ?_
        clear hK K
        replace hRA := Keeps.heap kB hRA (fun h => h)
        replace kA := kA.trans kB
        generalize (wA.alloc (.cells #[.slice (some ⟨R, 0, none⟩) n2 n2] 200)) = wB at kA hRA hSB hlit ⊢
        generalize wA.heap.size = Z at hlit ⊢
        clear kB hSA hS0
        refine anyX_one 9 (by kernel_rfl) ?_
        intro oi ho; simp only [List.getElem?_toArray, List.getElem?_cons_succ, List.getElem?_cons_zero, Option.some.injEq] at ho; subst ho; intro K hK
        refine step_app rfl _ _ 147 rfl B 200 it (.slice none 0 0) 1 24 Tryz.underlying147 hit hz0 hz1 hz2 rfl (by decide) oa OL.length oc (OL.map rowV) rfl ((hC.new kA).go.tab) (some ⟨Z, 0, none⟩) 1 1 [.slice (some ⟨R, 0, none⟩) n2 n2] rfl rfl hlit (by intro u hu; rw [List.mem_singleton.1 hu]; rfl) (by unfold maxLen; omega) (by omega) (Nat.le_trans (Nat.le_trans hBw hKB.size) kA.size) ?_
        intro ao' c' wc hown' hk' hmv
        obtain ⟨⟨hv0, hfz, hCl2⟩, hCn, hKn⟩ := hC.addO (Nat.le_trans hBw hKB.size) kA hRA hRn hown' hk' hmv
        have HCn := Lib.hid hCn
        have hSd : (fun w' : World => w'.cell? ⟨C, 7, none⟩ = some (.slice oa OL.length oc) ∧ C < w'.heap.size) wc := ⟨hv0, hCl2⟩
        refine hK _ _ (fun _ => hSd) ?_
        clear hK K hC hCn hown' hk' hmv kA hRA hRn hlit hSB
        refine anyX_tk 10 hSd ?_
        refine anyX_tk 11 hSd ?_
        refine anyX_one 12 (by kernel_rfl) ?_
        intro oi ho; simp only [List.getElem?_toArray, List.getElem?_cons_succ, List.getElem?_cons_zero, Option.some.injEq] at ho; subst ho; intro K hK
        (try simp only [Act.put, List.setIfInBounds_toArray, List.set_cons_zero, List.set_cons_succ])
        go_simp
        refine hK _ _ (fun hx => by cases hx) ?_
        clear hK K
        refine anyX_done (by kernel_rfl) ?_
        (try simp only [Act.put, List.setIfInBounds_toArray, List.set_cons_zero, List.set_cons_succ])
        replace HY := Lib.hid (hKn.heap HY.out rfl)
        replace HB := Lib.hid (hKn.heap HB.out rfl)
        replace hKB := hKB.trans hKn
        have hC := HCn.out
        generalize (wc.setCell ⟨C, 7, none⟩ (.slice ao' (OL.length + 1) c')) = w7 at HY HB hKB hC ⊢
        clear HCn hKn hv0 hfz hSd hCl2 hdr hCl
        (try simp only [Exit.then])
        replace HOn := HOn R
        generalize (OL ++ [(R, List.replicate n2 false)] : List (Nat × List Bool)) = OL1 at HOn hC
        rw [← hns.out] at hC
        by_cases hs : sh.1 = 0
        · have e2 : (sh.1 != 0) = false := by simp [hs]
          have HG2 := Lib.hid (HE2.out (by rw [hAE.out]; exact hs))
          clear hs hAE HE2 HF
          go_wp2_with fail
          go_roundw
          case rel => exact ⟨k + 1, _, _, _, _, _, _, by omega, by go_num, Lib.hid ⟨hC, HIn.out, HOn.out, HG2.out, HB.out, hKB⟩⟩
          case measure => simp [intOf]; omega
        · have e2 : (sh.1 != 0) = true := by simp [hs]
          have HF2 := Lib.hid (HF.out (by rw [hAE.out]; exact hs))
          clear hs HE2 HF hC
          obtain ⟨⟨r0, r1, r2⟩, ⟨f0, f1, f2⟩, hBB⟩ := spot_cells HB.out
          go_wp2_with fail
          exact bodyPost_ret (v := .tuple #[I sh.1, .agg #[.int .u8 1, I k, I 0]]) (by simp [results, Tryz.results84, go_sem, r0, r1, r2, f0, f1, f2, hBB]) rfl ⟨by unfold Stage; rw [HF2.out, hAE.out]; rfl, ((hKB.setCell (Nat.le_refl _) _).setCell (Nat.le_refl _) _).setCell (Nat.le_refl _) _⟩
      · have e1 : (nm == 0) = false := by simp [hnm]
        have e2 : (nm != 0) = true := by simp [hnm]
        have e3 : decide (nm = 0) = false := decide_eq_false hnm
        have hA2 : Hid (actE g k x = (nm, 0)) := Lib.hid (by rw [hAE.out, if_pos hnm])
        have HF2 := Lib.hid (HF.out (by rw [hA2.out]; exact hnm))
        clear hnm HE2 HF hC2 hAE
        obtain ⟨⟨r0, r1, r2⟩, ⟨f0, f1, f2⟩, hBB⟩ := spot_cells HB.out
        go_wp2_with fail
        exact bodyPost_ret (v := .tuple #[I nm, .agg #[.int .u8 1, I k, I 0]]) (by simp [results, Tryz.results84, go_sem, r0, r1, r2, f0, f1, f2, hBB]) rfl ⟨by unfold Stage; rw [HF2.out, hA2.out]; rfl, ((hKB.setCell (Nat.le_refl _) _).setCell (Nat.le_refl _) _).setCell (Nat.le_refl _) _⟩
    · have hke : k = g.acts.length := by omega
      have hkd : decide (k < g.acts.length) = false := decide_eq_false hk1
      rw [hke] at hC HE HI HO
      have hLI : Hid (IL.map (·.2) = side g nIn (fun _ _ => false)) := Lib.hid (by rw [side_none]; have := HI.out; rw [List.take_length] at this; exact this)
      have hLO : Hid (OL.map (·.2) = side g nOut (fun _ _ => false)) := Lib.hid (by rw [side_none]; have := HO.out; rw [List.take_length] at this; exact this)
      have HFN : Hid (firstE (actE g) 0 g.acts = none) := Lib.hid (firstE_all HE.out)
      have HOKK : Hid (∀ W, Chk W B C M g (namesOf g g.acts.length 0 0) ia ic IL oa oc OL → ok W) := Lib.hid (fun W hW => by
        rw [← HOK.out]; exact ⟨ia, ic, IL, oa, oc, OL, hW, hLI.out, hLO.out⟩)
      clear HE HI HO hke hk hk1 hLI hLO HAX
      obtain ⟨⟨r0, r1, r2⟩, ⟨f0, f1, f2⟩, hBB⟩ := spot_cells HB.out
      have HCS := Lib.hid (fun u v x => hC.spot HB.out u v x)
      clear hC
      go_wp2_with fail
      exact bodyPost_ret (v := .tuple #[I 0, .agg #[.int .u8 0, I 0, I 0]]) (by simp [results, Tryz.results84, go_sem, r0, r1, r2, f0, f1, f2, hBB]) rfl ⟨by unfold Stage; rw [HFN.out]; exact ⟨rfl, HOKK.out _ (HCS.out _ _ _)⟩, ((hKB.setCell (Nat.le_refl _) _).setCell (Nat.le_refl _) _).setCell (Nat.le_refl _) _⟩
end Go.Proofs.YtnedmonlofbahaaGreatDoor
