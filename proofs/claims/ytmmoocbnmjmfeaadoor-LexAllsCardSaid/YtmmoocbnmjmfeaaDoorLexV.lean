/-
  Layer 4: the law's look at the apartness of two lists of tokens: its memory.
-/
import Derived.Test.YtmmoocbnmjmfeaaDoorLexG
import Derived.Lib.AppendStr
namespace Go.Proofs.YtmmoocbnmjmfeaaDoor
open Go Go.RowKit Go.Joins
set_option linter.all false

/-- Marks. -/
def mkT (s : Int) (n : Nat) : List LTok := (List.range n).map fun (i : Nat) => ⟨s, [], (i : Int), 0⟩
theorem mkT_len (s : Int) (n : Nat) : (mkT s n).length = n := by simp [mkT]
theorem mkT_succ (s : Int) (n : Nat) : mkT s (n + 1) = mkT s n ++ [⟨s, [], (n : Int), 0⟩] := by simp [mkT, List.range_succ]
theorem mkT_get (s : Int) (n i : Nat) (h : i < (mkT s n).length) : (mkT s n)[i] = ⟨s, [], (i : Int), 0⟩ := by simp [mkT]
theorem mk_next (s : Int) (l : List LTok) (i : Nat) (h : i < l.length) : (mkT s i ++ l.drop i).set i ⟨s, [], (i : Int), 0⟩ = mkT s (i + 1) ++ l.drop (i + 1) := by
  rw [List.set_append_right _ _ (by rw [mkT_len]; omega), mkT_len, Nat.sub_self, List.drop_eq_getElem_cons h, List.set_cons_zero, mkT_succ, List.append_assoc]
  rfl
theorem flat_set : ∀ (l : List LTok) (k : Nat) (t : LTok), k < l.length → ((((l.flatMap tokCells).set (k * 4) (.int .u8 t.sort)).set (k * 4 + 1) (.string ⟨t.text.toArray⟩)).set (k * 4 + 2) (I t.num)).set (k * 4 + 3) (I t.at_) = (l.set k t).flatMap tokCells := by
  intro l
  induction l with
  | nil => intro k t h; simp at h
  | cons x r ih =>
    intro k t h
    cases k with
    | zero => simp [tokCells]
    | succ k =>
      have hk : k < r.length := by simpa using h
      rw [List.set_cons_succ, List.flatMap_cons, List.flatMap_cons, ← ih k t hk]
      have e : ∀ (j : Nat) (v : Value) (ys : List Value), (tokCells x ++ ys).set ((k + 1) * 4 + j) v = tokCells x ++ ys.set (k * 4 + j) v := fun j v ys => by
        rw [List.set_append_right _ _ (by rw [tokCells_len]; omega), tokCells_len, show (k + 1) * 4 + j - 4 = k * 4 + j by omega]
      have e0 := e 0
      simp only [Nat.add_zero] at e0
      rw [e0, e 1, e 2, e 3]
abbrev TokT : TypeId := 33
/-- A token stored into a row of the call's own. -/
def setTok (w : World) (g k : Nat) (t : LTok) : World :=
  (((w.setCell ⟨g, k * 4, none⟩ (.int .u8 t.sort)).setCell ⟨g, k * 4 + 1, none⟩ (.string ⟨t.text.toArray⟩)).setCell ⟨g, k * 4 + 2, none⟩ (I t.num)).setCell ⟨g, k * 4 + 3, none⟩ (I t.at_)
theorem setTok_keeps (w : World) (g k : Nat) (t : LTok) : Keeps (fun x => x = g) w (setTok w g k t) := by
  unfold setTok
  have k1 : Keeps (fun x => x = g) w (w.setCell ⟨g, k * 4, none⟩ (.int .u8 t.sort)) := Keeps.setCell w _ _ rfl
  exact ((k1.trans (Keeps.setCell (S := fun x => x = g) _ _ _ rfl) (fun _ _ h => h)).trans (Keeps.setCell (S := fun x => x = g) _ _ _ rfl) (fun _ _ h => h)).trans (Keeps.setCell (S := fun x => x = g) _ _ _ rfl) (fun _ _ h => h)
theorem row_store {w : World} {B g n c : Nat} {l : List LTok} (h : w.ownsRow B TokT 4 (.slice (some ⟨g, 0, none⟩) n c) n (l.flatMap tokCells)) (k : Nat) (hk : k < l.length) (t : LTok) :
    (setTok w g k t).ownsRow B TokT 4 (.slice (some ⟨g, 0, none⟩) n c) n ((l.set k t).flatMap tokCells) := by
  have h1 := (h.stored (k * 4) (.int .u8 t.sort)).1
  have h2 := (h1.stored (k * 4 + 1) (.string ⟨t.text.toArray⟩)).1
  have h3 := (h2.stored (k * 4 + 2) (I t.num)).1
  have h4 := (h3.stored (k * 4 + 3) (I t.at_)).1
  rw [flat_set l k t hk] at h4
  exact h4
theorem row_addr {w : World} {B n c : Nat} {a : Option Addr} {xs : List Value} (h : w.ownsRow B TokT 4 (.slice a n c) n xs) (hn : 0 < n) : ∃ g, a = some ⟨g, 0, none⟩ ∧ (∀ o, w.frozen? ⟨g, o, none⟩ = false) ∧ g < w.heap.size := by
  rcases h.2 with ⟨_, h0⟩ | ⟨g, cap, cur, hv, hb, hg, _⟩
  · omega
  · simp only [Value.slice.injEq] at hv
    exact ⟨g, hv.1, fun o => unfrozen_of_block hg o, (Array.getElem?_eq_some_iff.1 hg).1⟩
/-- Two lists, apart. -/
structure Two (w0 wr : World) (a : Option Addr) (n ca : Nat) (xs : List LTok) (b : Option Addr) (m cb : Nat) (ys : List LTok) : Prop where
  nw : New w0 wr
  oa : wr.ownsRow w0.heap.size TokT 4 (.slice a n ca) n (xs.flatMap tokCells)
  ob : wr.ownsRow w0.heap.size TokT 4 (.slice b m cb) m (ys.flatMap tokCells)
  dis : ∀ k, blk a k → ¬ blk b k
theorem Two.storeA {w0 wr : World} {a : Option Addr} {n ca : Nat} {xs : List LTok} {b : Option Addr} {m cb : Nat} {ys : List LTok} (h : Two w0 wr a n ca xs b m cb ys) {g : Nat} (hg : a = some ⟨g, 0, none⟩) (k : Nat) (hk : k < xs.length) (t : LTok) :
    Two w0 (setTok wr g k t) a n ca (xs.set k t) b m cb ys := by
  have ks := setTok_keeps wr g k t
  have hba : blk a g := ⟨_, hg, rfl⟩
  refine ⟨New.keeps h.nw ks (fun i hi hx => by have := (own_of_blk h.oa hba).1; omega), ?_, ks.owns h.ob (fun x hx hxg => ?_), h.dis⟩
  · have := h.oa
    rw [hg] at this ⊢
    exact row_store this k hk t
  · subst hxg; exact h.dis x hba (blk_of_own hx)
theorem Two.storeB {w0 wr : World} {a : Option Addr} {n ca : Nat} {xs : List LTok} {b : Option Addr} {m cb : Nat} {ys : List LTok} (h : Two w0 wr a n ca xs b m cb ys) {g : Nat} (hg : b = some ⟨g, 0, none⟩) (k : Nat) (hk : k < ys.length) (t : LTok) :
    Two w0 (setTok wr g k t) a n ca xs b m cb (ys.set k t) := by
  have ks := setTok_keeps wr g k t
  have hbb : blk b g := ⟨_, hg, rfl⟩
  refine ⟨New.keeps h.nw ks (fun i hi hx => by have := (own_of_blk h.ob hbb).1; omega), ks.owns h.oa (fun x hx hxg => ?_), ?_, h.dis⟩
  · subst hxg; exact h.dis x (blk_of_own hx) hbb
  · have := h.ob
    rw [hg] at this ⊢
    exact row_store this k hk t
/-- Two lists and what they grew to. -/
structure Four (w0 wr : World) (a : Option Addr) (n ca : Nat) (b : Option Addr) (m cb : Nat) (ac : Option Addr) (kc cc : Nat) (ad : Option Addr) (kd cd : Nat) : Prop where
  nw : New w0 wr
  oa : wr.ownsRow w0.heap.size TokT 4 (.slice a n ca) n ((mkT 77 n).flatMap tokCells)
  ob : wr.ownsRow w0.heap.size TokT 4 (.slice b m cb) m ((mkT 78 m).flatMap tokCells)
  oc : wr.ownsRow w0.heap.size TokT 4 (.slice ac (n + kc) cc) (n + kc) ((mkT 77 n ++ mkT 79 kc).flatMap tokCells)
  od : wr.ownsRow w0.heap.size TokT 4 (.slice ad (m + kd) cd) (m + kd) ((mkT 78 m ++ mkT 80 kd).flatMap tokCells)
  dis : ∀ k, (blk a k ∨ blk ac k) → ¬ (blk b k ∨ blk ad k)
  mc : ac = a ∨ ∀ k, blk ac k → ¬ blk a k
  md : ad = b ∨ ∀ k, blk ad k → ¬ blk b k
theorem Four.start {w0 wr : World} {a : Option Addr} {n ca : Nat} {b : Option Addr} {m cb : Nat} (h : Two w0 wr a n ca (mkT 77 n) b m cb (mkT 78 m)) : Four w0 wr a n ca b m cb a 0 ca b 0 cb := by
  refine ⟨h.nw, h.oa, h.ob, ?_, ?_, fun k h1 h2 => h.dis k (by simpa using h1) (by simpa using h2), .inl rfl, .inl rfl⟩
  · have := h.oa; simpa [mkT] using this
  · have := h.ob; simpa [mkT] using this
theorem lx_moved {w : World} {a a' : Option Addr} (h : Moved w a a') {k : Nat} (hk : blk a' k) : blk a k ∨ w.heap.size ≤ k := by
  rcases h with rfl | ⟨g, rfl, hg⟩
  · exact .inl hk
  · obtain ⟨x, hx, rfl⟩ := hk; cases hx; exact .inr hg
theorem Four.appC {w0 wr w1 w2 : World} {a : Option Addr} {n ca : Nat} {b : Option Addr} {m cb : Nat} {ac : Option Addr} {kc cc : Nat} {ad : Option Addr} {kd cd : Nat} (h : Four w0 wr a n ca b m cb ac kc cc ad kd cd) (k12 : New wr w1) {a' : Option Addr} {c' : Nat}
    (ho : w2.ownsRow w0.heap.size TokT 4 (.slice a' (n + kc + 1) c') (n + kc + 1) ((mkT 77 n ++ mkT 79 kc).flatMap tokCells ++ [.int .u8 79, .string ⟨#[]⟩, I (kc : Int), I 0])) (hk : Keeps (blk ac) w1 w2) (hm : Moved w1 ac a') (hh : Heads w1 w2 TokT ac ((n + kc) * 4)) :
    Four w0 w2 a n ca b m cb a' (kc + 1) c' ad kd cd := by
  have la : ∀ k, blk a k → k < w1.heap.size := fun k hx => Nat.lt_of_lt_of_le (own_of_blk h.oa hx).2 k12.size
  have lb : ∀ k, blk b k → k < w1.heap.size := fun k hx => Nat.lt_of_lt_of_le (own_of_blk h.ob hx).2 k12.size
  have ld : ∀ k, blk ad k → k < w1.heap.size := fun k hx => Nat.lt_of_lt_of_le (own_of_blk h.od hx).2 k12.size
  refine ⟨New.keeps (h.nw.trans k12) hk (fun i hi hx => by have := (own_of_blk h.oc hx).1; omega), ?_, ?_, ?_, ?_, ?_, ?_, h.md⟩
  · have h1 := k12.owns h.oa
    rcases h.mc with e | hd
    · rw [e] at hh
      exact ownsRow_kept_head h1 hh (by omega)
    · exact hk.owns h1 (fun x hx hxc => hd x hxc (blk_of_own hx))
  · exact hk.owns (k12.owns h.ob) (fun x hx hxc => h.dis x (.inr hxc) (.inl (blk_of_own hx)))
  · rw [mkT_succ, ← List.append_assoc, List.flatMap_append]
    exact ho
  · exact hk.owns (k12.owns h.od) (fun x hx hxc => h.dis x (.inr hxc) (.inr (blk_of_own hx)))
  · intro k h1 h2
    rcases h1 with h1 | h1
    · exact h.dis k (.inl h1) h2
    · rcases lx_moved hm h1 with h3 | h3
      · exact h.dis k (.inr h3) h2
      · rcases h2 with h2 | h2
        · have := lb k h2; omega
        · have := ld k h2; omega
  · rcases hm with e | ⟨g, e, hg⟩
    · rw [e]; exact h.mc
    · refine .inr (fun k h1 h2 => ?_)
      rw [e] at h1
      obtain ⟨x, hx, rfl⟩ := h1
      cases hx
      have := la _ h2
      simp only at this
      omega
theorem Four.appD {w0 wr w1 w2 : World} {a : Option Addr} {n ca : Nat} {b : Option Addr} {m cb : Nat} {ac : Option Addr} {kc cc : Nat} {ad : Option Addr} {kd cd : Nat} (h : Four w0 wr a n ca b m cb ac kc cc ad kd cd) (k12 : New wr w1) {a' : Option Addr} {c' : Nat}
    (ho : w2.ownsRow w0.heap.size TokT 4 (.slice a' (m + kd + 1) c') (m + kd + 1) ((mkT 78 m ++ mkT 80 kd).flatMap tokCells ++ [.int .u8 80, .string ⟨#[]⟩, I (kd : Int), I 0])) (hk : Keeps (blk ad) w1 w2) (hm : Moved w1 ad a') (hh : Heads w1 w2 TokT ad ((m + kd) * 4)) :
    Four w0 w2 a n ca b m cb ac kc cc a' (kd + 1) c' := by
  have la : ∀ k, blk a k → k < w1.heap.size := fun k hx => Nat.lt_of_lt_of_le (own_of_blk h.oa hx).2 k12.size
  have lb : ∀ k, blk b k → k < w1.heap.size := fun k hx => Nat.lt_of_lt_of_le (own_of_blk h.ob hx).2 k12.size
  have lc : ∀ k, blk ac k → k < w1.heap.size := fun k hx => Nat.lt_of_lt_of_le (own_of_blk h.oc hx).2 k12.size
  refine ⟨New.keeps (h.nw.trans k12) hk (fun i hi hx => by have := (own_of_blk h.od hx).1; omega), ?_, ?_, ?_, ?_, ?_, h.mc, ?_⟩
  · exact hk.owns (k12.owns h.oa) (fun x hx hxc => h.dis x (.inl (blk_of_own hx)) (.inr hxc))
  · have h1 := k12.owns h.ob
    rcases h.md with e | hd
    · rw [e] at hh
      exact ownsRow_kept_head h1 hh (by omega)
    · exact hk.owns h1 (fun x hx hxc => hd x hxc (blk_of_own hx))
  · exact hk.owns (k12.owns h.oc) (fun x hx hxc => h.dis x (.inr (blk_of_own hx)) (.inr hxc))
  · rw [mkT_succ, ← List.append_assoc, List.flatMap_append]
    exact ho
  · intro k h1 h2
    rcases h2 with h2 | h2
    · exact h.dis k h1 (.inl h2)
    · rcases lx_moved hm h2 with h3 | h3
      · exact h.dis k h1 (.inr h3)
      · rcases h1 with h1 | h1
        · have := la k h1; omega
        · have := lc k h1; omega
  · rcases hm with e | ⟨g, e, hg⟩
    · rw [e]; exact h.md
    · refine .inr (fun k h1 h2 => ?_)
      rw [e] at h1
      obtain ⟨x, hx, rfl⟩ := h1
      cases hx
      have := lb _ h2
      simp only at this
      omega
theorem Four.new {w0 wr w1 : World} {a : Option Addr} {n ca : Nat} {b : Option Addr} {m cb : Nat} {ac : Option Addr} {kc cc : Nat} {ad : Option Addr} {kd cd : Nat} (h : Four w0 wr a n ca b m cb ac kc cc ad kd cd) (k : New wr w1) : Four w0 w1 a n ca b m cb ac kc cc ad kd cd :=
  ⟨h.nw.trans k, k.owns h.oa, k.owns h.ob, k.owns h.oc, k.owns h.od, h.dis, h.mc, h.md⟩
end Go.Proofs.YtmmoocbnmjmfeaaDoor
