/-
  SkAq, SkAp, SkAr in one.
-/
import Derived.Test.YtohalcbhckahmaaDoorSkK
import Derived.Lib.AppendStr
import Derived.Deep.OwnRows
namespace Go.Proofs.YtohalcbhckahmaaDoor
open Go Go.RowKit Go.Joins
set_option linter.all false

/-- Marks. -/
abbrev mk1 (s : Int) (i : Nat) : SIt := ⟨s, ⟨#[]⟩, ⟨#[]⟩, none, 0, [], ⟨#[]⟩, 0, 0, ⟨#[]⟩, 0, 0, (i : Int)⟩
def mkS (s : Int) (n : Nat) : List SIt := (List.range n).map fun (i : Nat) => mk1 s i
theorem mkS_len (s : Int) (n : Nat) : (mkS s n).length = n := by simp [mkS]
theorem mkS_succ (s : Int) (n : Nat) : mkS s (n + 1) = mkS s n ++ [mk1 s n] := by simp [mkS, List.range_succ]
theorem mkS_get (s : Int) (n i : Nat) (h : i < (mkS s n).length) : (mkS s n)[i] = (mk1 s i) := by simp [mkS]
theorem mkS_next (s : Int) (l : List SIt) (i : Nat) (h : i < l.length) : (mkS s i ++ l.drop i).set i (mk1 s i) = mkS s (i + 1) ++ l.drop (i + 1) := by
  rw [List.set_append_right _ _ (by rw [mkS_len]; omega), mkS_len, Nat.sub_self, List.drop_eq_getElem_cons h, List.set_cons_zero, mkS_succ, List.append_assoc]
  rfl
theorem itCells_len (x : SIt) : (itCells x).length = 11 := rfl
theorem flat_setS : ∀ (l : List SIt) (k : Nat) (t : SIt), k < l.length → (((((((((((l.flatMap itCells).set (k * 11) (.int .u8 t.kind)).set (k * 11 + 1) (.string t.name)).set (k * 11 + 2) (.string t.tag)).set (k * 11 + 3) (.slice t.a t.xs.length t.c)).set (k * 11 + 4) (.string t.fn)).set (k * 11 + 5) (I t.fp)).set (k * 11 + 6) (I t.fa)).set (k * 11 + 7) (.string t.tn)).set (k * 11 + 8) (I t.tp)).set (k * 11 + 9) (I t.ta)).set (k * 11 + 10) (I t.at_) = (l.set k t).flatMap itCells := by
  intro l
  induction l with
  | nil => intro k t h; simp at h
  | cons x r ih =>
    intro k t h
    cases k with
    | zero => simp [itCells]
    | succ k =>
      have hk : k < r.length := by simpa using h
      rw [List.set_cons_succ, List.flatMap_cons, List.flatMap_cons, ← ih k t hk]
      have e : ∀ (j : Nat) (v : Value) (ys : List Value), (itCells x ++ ys).set ((k + 1) * 11 + j) v = itCells x ++ ys.set (k * 11 + j) v := fun j v ys => by
        rw [List.set_append_right _ _ (by rw [itCells_len]; omega), itCells_len, show (k + 1) * 11 + j - 11 = k * 11 + j by omega]
      have e0 := e 0
      simp only [Nat.add_zero] at e0
      rw [e0, e 1, e 2, e 3, e 4, e 5, e 6, e 7, e 8, e 9, e 10]
/-- An item stored into a row of the call's own. -/
def setItm (w : World) (g k : Nat) (t : SIt) : World := ((((((((((w.setCell ⟨g, k * 11, none⟩ (.int .u8 t.kind)).setCell ⟨g, k * 11 + 1, none⟩ (.string t.name)).setCell ⟨g, k * 11 + 2, none⟩ (.string t.tag)).setCell ⟨g, k * 11 + 3, none⟩ (.slice t.a t.xs.length t.c)).setCell ⟨g, k * 11 + 4, none⟩ (.string t.fn)).setCell ⟨g, k * 11 + 5, none⟩ (I t.fp)).setCell ⟨g, k * 11 + 6, none⟩ (I t.fa)).setCell ⟨g, k * 11 + 7, none⟩ (.string t.tn)).setCell ⟨g, k * 11 + 8, none⟩ (I t.tp)).setCell ⟨g, k * 11 + 9, none⟩ (I t.ta)).setCell ⟨g, k * 11 + 10, none⟩ (I t.at_)
theorem setItm_keeps (w : World) (g k : Nat) (t : SIt) : Keeps (fun x => x = g) w (setItm w g k t) := by
  unfold setItm
  have k1 : Keeps (fun x => x = g) w (w.setCell ⟨g, k * 11, none⟩ (.int .u8 t.kind)) := Keeps.setCell w _ _ rfl
  exact ((((((((((k1.trans (Keeps.setCell (S := fun x => x = g) _ _ _ rfl) (fun _ _ h => h))).trans (Keeps.setCell (S := fun x => x = g) _ _ _ rfl) (fun _ _ h => h)).trans (Keeps.setCell (S := fun x => x = g) _ _ _ rfl) (fun _ _ h => h)).trans (Keeps.setCell (S := fun x => x = g) _ _ _ rfl) (fun _ _ h => h)).trans (Keeps.setCell (S := fun x => x = g) _ _ _ rfl) (fun _ _ h => h)).trans (Keeps.setCell (S := fun x => x = g) _ _ _ rfl) (fun _ _ h => h)).trans (Keeps.setCell (S := fun x => x = g) _ _ _ rfl) (fun _ _ h => h)).trans (Keeps.setCell (S := fun x => x = g) _ _ _ rfl) (fun _ _ h => h)).trans (Keeps.setCell (S := fun x => x = g) _ _ _ rfl) (fun _ _ h => h)).trans (Keeps.setCell (S := fun x => x = g) _ _ _ rfl) (fun _ _ h => h)
theorem row_storeS {w : World} {B g n c : Nat} {l : List SIt} (h : w.ownsRow B ItT 11 (.slice (some ⟨g, 0, none⟩) n c) n (l.flatMap itCells)) (k : Nat) (hk : k < l.length) (t : SIt) :
    (setItm w g k t).ownsRow B ItT 11 (.slice (some ⟨g, 0, none⟩) n c) n ((l.set k t).flatMap itCells) := by
  have h1 := (h.stored (k * 11) (.int .u8 t.kind)).1
  have h2 := (h1.stored (k * 11 + 1) (.string t.name)).1
  have h3 := (h2.stored (k * 11 + 2) (.string t.tag)).1
  have h4 := (h3.stored (k * 11 + 3) (.slice t.a t.xs.length t.c)).1
  have h5 := (h4.stored (k * 11 + 4) (.string t.fn)).1
  have h6 := (h5.stored (k * 11 + 5) (I t.fp)).1
  have h7 := (h6.stored (k * 11 + 6) (I t.fa)).1
  have h8 := (h7.stored (k * 11 + 7) (.string t.tn)).1
  have h9 := (h8.stored (k * 11 + 8) (I t.tp)).1
  have h10 := (h9.stored (k * 11 + 9) (I t.ta)).1
  have h11 := (h10.stored (k * 11 + 10) (I t.at_)).1
  rw [flat_setS l k t hk] at h11
  exact h11
theorem row_addrS {w : World} {B n c : Nat} {a : Option Addr} {xs : List Value} (h : w.ownsRow B ItT 11 (.slice a n c) n xs) (hn : 0 < n) : ∃ g, a = some ⟨g, 0, none⟩ ∧ (∀ o, w.frozen? ⟨g, o, none⟩ = false) ∧ g < w.heap.size := by
  rcases h.2 with ⟨_, h0⟩ | ⟨g, cap, cur, hv, hb, hg, _⟩
  · omega
  · simp only [Value.slice.injEq] at hv
    exact ⟨g, hv.1, fun o => unfrozen_of_block hg o, (Array.getElem?_eq_some_iff.1 hg).1⟩
theorem sk_ne {w : World} {B n c : Nat} {a : Option Addr} {xs : List Value} (h : w.ownsRow B ItT 11 (.slice a n c) n xs) {g : Nat} (hg : blk a g) {P : Nat} {cs : Array Value} (hb : w.heap[P]? = some (.cells cs 24 (0, 0))) : ¬ P = g := by
  rintro rfl
  obtain ⟨cur, hc⟩ := tab_tag h (own_blk hg)
  rw [hb] at hc; simp at hc; exact absurd hc.2 (by decide)
/-- TwoS lists, apart. -/
structure TwoS (PB QB : Nat) (pv qv : Array Value) (w0 wr : World) (a : Option Addr) (n ca : Nat) (xs : List SIt) (b : Option Addr) (m cb : Nat) (ys : List SIt) : Prop where
  nw : New w0 wr
  oa : wr.ownsRow w0.heap.size ItT 11 (.slice a n ca) n (xs.flatMap itCells)
  ob : wr.ownsRow w0.heap.size ItT 11 (.slice b m cb) m (ys.flatMap itCells)
  dis : ∀ k, blk a k → ¬ blk b k
  pb : wr.heap[PB]? = some (.cells pv 24 (0, 0))
  qb : wr.heap[QB]? = some (.cells qv 24 (0, 0))
theorem TwoS.storeA {PB QB : Nat} {pv qv : Array Value} {w0 wr : World} {a : Option Addr} {n ca : Nat} {xs : List SIt} {b : Option Addr} {m cb : Nat} {ys : List SIt} (h : TwoS PB QB pv qv w0 wr a n ca xs b m cb ys) {g : Nat} (hg : a = some ⟨g, 0, none⟩) (k : Nat) (hk : k < xs.length) (t : SIt) :
    TwoS PB QB pv qv w0 (setItm wr g k t) a n ca (xs.set k t) b m cb ys := by
  have ks := setItm_keeps wr g k t
  have hba : blk a g := ⟨_, hg, rfl⟩
  refine ⟨New.keeps h.nw ks (fun i hi hx => by have := (own_of_blk h.oa hba).1; omega), ?_, ks.owns h.ob (fun x hx hxg => ?_), h.dis, ks.heap h.pb (sk_ne h.oa hba h.pb), ks.heap h.qb (sk_ne h.oa hba h.qb)⟩
  · have := h.oa
    rw [hg] at this ⊢
    exact row_storeS this k hk t
  · subst hxg; exact h.dis x hba (blk_of_own hx)
theorem TwoS.storeB {PB QB : Nat} {pv qv : Array Value} {w0 wr : World} {a : Option Addr} {n ca : Nat} {xs : List SIt} {b : Option Addr} {m cb : Nat} {ys : List SIt} (h : TwoS PB QB pv qv w0 wr a n ca xs b m cb ys) {g : Nat} (hg : b = some ⟨g, 0, none⟩) (k : Nat) (hk : k < ys.length) (t : SIt) :
    TwoS PB QB pv qv w0 (setItm wr g k t) a n ca xs b m cb (ys.set k t) := by
  have ks := setItm_keeps wr g k t
  have hbb : blk b g := ⟨_, hg, rfl⟩
  refine ⟨New.keeps h.nw ks (fun i hi hx => by have := (own_of_blk h.ob hbb).1; omega), ks.owns h.oa (fun x hx hxg => ?_), ?_, h.dis, ks.heap h.pb (sk_ne h.ob hbb h.pb), ks.heap h.qb (sk_ne h.ob hbb h.qb)⟩
  · subst hxg; exact h.dis x (blk_of_own hx) hbb
  · have := h.ob
    rw [hg] at this ⊢
    exact row_storeS this k hk t
/-- TwoS lists and what they grew to. -/
structure FourS (PB QB : Nat) (pv qv : Array Value) (w0 wr : World) (a : Option Addr) (n ca : Nat) (b : Option Addr) (m cb : Nat) (ac : Option Addr) (kc cc : Nat) (ad : Option Addr) (kd cd : Nat) : Prop where
  nw : New w0 wr
  oa : wr.ownsRow w0.heap.size ItT 11 (.slice a n ca) n ((mkS 77 n).flatMap itCells)
  ob : wr.ownsRow w0.heap.size ItT 11 (.slice b m cb) m ((mkS 78 m).flatMap itCells)
  oc : wr.ownsRow w0.heap.size ItT 11 (.slice ac (n + kc) cc) (n + kc) ((mkS 77 n ++ mkS 79 kc).flatMap itCells)
  od : wr.ownsRow w0.heap.size ItT 11 (.slice ad (m + kd) cd) (m + kd) ((mkS 78 m ++ mkS 80 kd).flatMap itCells)
  dis : ∀ k, (blk a k ∨ blk ac k) → ¬ (blk b k ∨ blk ad k)
  mc : ac = a ∨ ∀ k, blk ac k → ¬ blk a k
  md : ad = b ∨ ∀ k, blk ad k → ¬ blk b k
  pb : wr.heap[PB]? = some (.cells pv 24 (0, 0))
  qb : wr.heap[QB]? = some (.cells qv 24 (0, 0))
theorem FourS.start {PB QB : Nat} {pv qv : Array Value} {w0 wr : World} {a : Option Addr} {n ca : Nat} {b : Option Addr} {m cb : Nat} (h : TwoS PB QB pv qv w0 wr a n ca (mkS 77 n) b m cb (mkS 78 m)) : FourS PB QB pv qv w0 wr a n ca b m cb a 0 ca b 0 cb := by
  refine ⟨h.nw, h.oa, h.ob, ?_, ?_, fun k h1 h2 => h.dis k (by simpa using h1) (by simpa using h2), .inl rfl, .inl rfl, h.pb, h.qb⟩
  · have := h.oa; simpa [mkS] using this
  · have := h.ob; simpa [mkS] using this
theorem lxS_moved {w : World} {a a' : Option Addr} (h : Moved w a a') {k : Nat} (hk : blk a' k) : blk a k ∨ w.heap.size ≤ k := by
  rcases h with rfl | ⟨g, rfl, hg⟩
  · exact .inl hk
  · obtain ⟨x, hx, rfl⟩ := hk; cases hx; exact .inr hg
theorem FourS.appC {PB QB : Nat} {pv qv : Array Value} {w0 wr w1 w2 : World} {a : Option Addr} {n ca : Nat} {b : Option Addr} {m cb : Nat} {ac : Option Addr} {kc cc : Nat} {ad : Option Addr} {kd cd : Nat} (h : FourS PB QB pv qv w0 wr a n ca b m cb ac kc cc ad kd cd) (k12 : New wr w1) {a' : Option Addr} {c' : Nat}
    (ho : w2.ownsRow w0.heap.size ItT 11 (.slice a' (n + kc + 1) c') (n + kc + 1) ((mkS 77 n ++ mkS 79 kc).flatMap itCells ++ itCells (mk1 79 kc))) (hk : Keeps (blk ac) w1 w2) (hm : Moved w1 ac a') (hh : Heads w1 w2 ItT ac ((n + kc) * 11)) :
    FourS PB QB pv qv w0 w2 a n ca b m cb a' (kc + 1) c' ad kd cd := by
  have la : ∀ k, blk a k → k < w1.heap.size := fun k hx => Nat.lt_of_lt_of_le (own_of_blk h.oa hx).2 k12.size
  have lb : ∀ k, blk b k → k < w1.heap.size := fun k hx => Nat.lt_of_lt_of_le (own_of_blk h.ob hx).2 k12.size
  have ld : ∀ k, blk ad k → k < w1.heap.size := fun k hx => Nat.lt_of_lt_of_le (own_of_blk h.od hx).2 k12.size
  refine ⟨New.keeps (h.nw.trans k12) hk (fun i hi hx => by have := (own_of_blk h.oc hx).1; omega), ?_, ?_, ?_, ?_, ?_, ?_, h.md, hk.heap (Keeps.heap k12 h.pb (fun h => h)) (fun hb => sk_ne (k12.owns h.oc) hb (Keeps.heap k12 h.pb (fun h => h)) rfl), hk.heap (Keeps.heap k12 h.qb (fun h => h)) (fun hb => sk_ne (k12.owns h.oc) hb (Keeps.heap k12 h.qb (fun h => h)) rfl)⟩
  · have h1 := k12.owns h.oa
    rcases h.mc with e | hd
    · rw [e] at hh
      exact ownsRow_kept_head h1 hh (by omega)
    · exact hk.owns h1 (fun x hx hxc => hd x hxc (blk_of_own hx))
  · exact hk.owns (k12.owns h.ob) (fun x hx hxc => h.dis x (.inr hxc) (.inl (blk_of_own hx)))
  · rw [mkS_succ, ← List.append_assoc, List.flatMap_append]
    exact ho
  · exact hk.owns (k12.owns h.od) (fun x hx hxc => h.dis x (.inr hxc) (.inr (blk_of_own hx)))
  · intro k h1 h2
    rcases h1 with h1 | h1
    · exact h.dis k (.inl h1) h2
    · rcases lxS_moved hm h1 with h3 | h3
      · exact h.dis k (.inr h3) h2
      · rcases h2 with h2 | h2
        · have := lb k h2; omega
        · have := ld k h2; omega
  · rcases hm with e | ⟨g, e, hg⟩
    · rw [e]; exact h.mc
    · refine .inr (fun k h1 h2 => ?_)
      rw [e] at h1
      obtain ⟨x, hx, rfl⟩ := h1
      cases hx
      have := la _ h2
      simp only at this
      omega
theorem FourS.appD {PB QB : Nat} {pv qv : Array Value} {w0 wr w1 w2 : World} {a : Option Addr} {n ca : Nat} {b : Option Addr} {m cb : Nat} {ac : Option Addr} {kc cc : Nat} {ad : Option Addr} {kd cd : Nat} (h : FourS PB QB pv qv w0 wr a n ca b m cb ac kc cc ad kd cd) (k12 : New wr w1) {a' : Option Addr} {c' : Nat}
    (ho : w2.ownsRow w0.heap.size ItT 11 (.slice a' (m + kd + 1) c') (m + kd + 1) ((mkS 78 m ++ mkS 80 kd).flatMap itCells ++ itCells (mk1 80 kd))) (hk : Keeps (blk ad) w1 w2) (hm : Moved w1 ad a') (hh : Heads w1 w2 ItT ad ((m + kd) * 11)) :
    FourS PB QB pv qv w0 w2 a n ca b m cb ac kc cc a' (kd + 1) c' := by
  have la : ∀ k, blk a k → k < w1.heap.size := fun k hx => Nat.lt_of_lt_of_le (own_of_blk h.oa hx).2 k12.size
  have lb : ∀ k, blk b k → k < w1.heap.size := fun k hx => Nat.lt_of_lt_of_le (own_of_blk h.ob hx).2 k12.size
  have lc : ∀ k, blk ac k → k < w1.heap.size := fun k hx => Nat.lt_of_lt_of_le (own_of_blk h.oc hx).2 k12.size
  refine ⟨New.keeps (h.nw.trans k12) hk (fun i hi hx => by have := (own_of_blk h.od hx).1; omega), ?_, ?_, ?_, ?_, ?_, h.mc, ?_, hk.heap (Keeps.heap k12 h.pb (fun h => h)) (fun hb => sk_ne (k12.owns h.od) hb (Keeps.heap k12 h.pb (fun h => h)) rfl), hk.heap (Keeps.heap k12 h.qb (fun h => h)) (fun hb => sk_ne (k12.owns h.od) hb (Keeps.heap k12 h.qb (fun h => h)) rfl)⟩
  · exact hk.owns (k12.owns h.oa) (fun x hx hxc => h.dis x (.inl (blk_of_own hx)) (.inr hxc))
  · have h1 := k12.owns h.ob
    rcases h.md with e | hd
    · rw [e] at hh
      exact ownsRow_kept_head h1 hh (by omega)
    · exact hk.owns h1 (fun x hx hxc => hd x hxc (blk_of_own hx))
  · exact hk.owns (k12.owns h.oc) (fun x hx hxc => h.dis x (.inr (blk_of_own hx)) (.inr hxc))
  · rw [mkS_succ, ← List.append_assoc, List.flatMap_append]
    exact ho
  · intro k h1 h2
    rcases h2 with h2 | h2
    · exact h.dis k h1 (.inl h2)
    · rcases lxS_moved hm h2 with h3 | h3
      · exact h.dis k h1 (.inr h3)
      · rcases h1 with h1 | h1
        · have := la k h1; omega
        · have := lc k h1; omega
  · rcases hm with e | ⟨g, e, hg⟩
    · rw [e]; exact h.md
    · refine .inr (fun k h1 h2 => ?_)
      rw [e] at h1
      obtain ⟨x, hx, rfl⟩ := h1
      cases hx
      have := lb _ h2
      simp only at this
      omega
theorem FourS.new {PB QB : Nat} {pv qv : Array Value} {w0 wr w1 : World} {a : Option Addr} {n ca : Nat} {b : Option Addr} {m cb : Nat} {ac : Option Addr} {kc cc : Nat} {ad : Option Addr} {kd cd : Nat} (h : FourS PB QB pv qv w0 wr a n ca b m cb ac kc cc ad kd cd) (k : New wr w1) : FourS PB QB pv qv w0 w1 a n ca b m cb ac kc cc ad kd cd :=
  ⟨h.nw.trans k, k.owns h.oa, k.owns h.ob, k.owns h.oc, k.owns h.od, h.dis, h.mc, h.md, Keeps.heap k h.pb (fun h => h), Keeps.heap k h.qb (fun h => h)⟩
end Go.Proofs.YtohalcbhckahmaaDoor
namespace Go.Proofs.YtohalcbhckahmaaDoor
open Go Go.RowKit Go.Joins
set_option linter.all false


/-- The marks of list j. -/
def apMk (j n : Nat) : List Value := (List.range n).map fun k : Nat => I ((j : Int) * 1000003 + (k : Int))
def apNg (j n : Nat) : List Value := (List.range n).map fun k : Nat => I (-(j : Int) * 1000003 - (k : Int) - 1)

theorem apMk_len (j n : Nat) : (apMk j n).length = n := by simp [apMk]
theorem apNg_len (j n : Nat) : (apNg j n).length = n := by simp [apNg]
theorem apMk_at (j n k : Nat) (h : k < n) : (apMk j n)[k]? = some (I ((j : Int) * 1000003 + k)) := by simp [apMk, h]
theorem apMk_succ (j n : Nat) : apMk j (n + 1) = apMk j n ++ [I ((j : Int) * 1000003 + (n : Int))] := by simp [apMk, List.range_succ]
theorem apNg_succ (j n : Nat) : apNg j (n + 1) = apNg j n ++ [I (-(j : Int) * 1000003 - n - 1)] := by simp [apNg, List.range_succ]

/-- Lists of ints in rows of their own: list j is (A j, N j, C j) and holds X j. -/
structure Rows2 (w : World) (B m : Nat) (A : Nat → Option Addr) (N C : Nat → Nat) (X : Nat → List Value) : Prop where
  own : ∀ j, j < m → w.ownsRow B 3 1 (.slice (A j) (N j) (C j)) (N j) (X j)

theorem own_addr {w : World} {B : Nat} {e : TypeId} {a : Option Addr} {n c : Nat} {xs : List Value} (h : w.ownsRow B e 1 (.slice a n c) n xs) (hn : 0 < n) : ∃ g, a = some ⟨g, 0, none⟩ := by
  rcases h.2 with ⟨_, h0⟩ | ⟨g, cap, cur, hv, _⟩
  · omega
  · simp only [Value.slice.injEq] at hv
    exact ⟨g, hv.1⟩

/-- The first phase, in list i before place k. -/
structure Ap1 (w wr : World) (b0 o0 L m B : Nat) (A : Nat → Option Addr) (N C : Nat → Nat) (X : Nat → List Value) (i k : Nat) : Prop where
  ls : ∀ j, j < m → wr.cell? ⟨b0, o0 + j, none⟩ = some (.slice (A j) (N j) (C j))
  low : ∀ j, j < m → wr.ownsRow B 3 1 (.slice (A j) (N j) (C j)) (N j) (if j < i then apMk j (N j) else if j = i then apMk j k ++ (X j).drop k else X j)
  long : wr.ownsRow w.heap.size 38 1 (.slice (some ⟨L, 0, none⟩) m m) m ((List.range m).map fun j => if j < i then .slice (A j) (N j) (C j) else .slice none 0 0)
  dis : ∀ i j, i < m → j < m → i ≠ j → ∀ k, blk (A i) k → ¬ blk (A j) k
  off : ∀ j, j < m → ∀ k, blk (A j) k → k ≠ L ∧ k ≠ b0
  ne : b0 ≠ L
  keeps : Keeps (fun k => ∃ j, j < m ∧ blk (A j) k) w wr
  new : w.heap.size ≤ L

theorem Ap1.store {w wr : World} {b0 o0 L m B : Nat} {A : Nat → Option Addr} {N C : Nat → Nat} {X : Nat → List Value} {i k g : Nat} (h : Ap1 w wr b0 o0 L m B A N C X i k) (hi : i < m) (hk : k < N i) (hg : A i = some ⟨g, 0, none⟩)
    (hX : ∀ j, j < m → (X j).length = N j) :
    Ap1 w (wr.setCell ⟨g, k, none⟩ (I ((i : Int) * 1000003 + k))) b0 o0 L m B A N C X i (k + 1) := by
  have hb : blk (A i) g := ⟨_, hg, rfl⟩
  have hks : Keeps (fun x => x = g) wr (wr.setCell ⟨g, k, none⟩ (I ((i : Int) * 1000003 + k))) := Keeps.setCell wr ⟨g, k, none⟩ _ rfl
  have hoff := h.off i hi g hb
  refine ⟨fun j hj => hks.cell (h.ls j hj) (fun e => hoff.2 e.symm), ?_, ?_, h.dis, h.off, h.ne, h.keeps.trans hks (fun x _ e => ⟨i, hi, e ▸ hb⟩), h.new⟩
  · intro j hj
    by_cases e : j = i
    · subst e
      have h0 := h.low j hj
      rw [hg] at h0 ⊢
      have h1 := (h0.stored k (I ((j : Int) * 1000003 + k))).1
      simp only [Nat.lt_irrefl, if_false, if_true] at h1 ⊢
      have e2 : (apMk j k ++ (X j).drop k).set k (I ((j : Int) * 1000003 + k)) = apMk j (k + 1) ++ (X j).drop (k + 1) := by
        have hl := hX j hj
        rw [List.set_append_right _ _ (by rw [apMk_len]; omega), apMk_len, Nat.sub_self, List.drop_eq_getElem_cons (by omega), List.set_cons_zero, apMk_succ, List.append_assoc]
        rfl
      rw [← e2]
      exact h1
    · have h0 := h.low j hj
      have : ∀ x, (Value.slice (A j) (N j) (C j)).ownBlock = some x → ¬ x = g := by
        intro x hx hxg
        subst hxg
        refine h.dis i j hi hj (fun e' => e e'.symm) x hb ?_
        cases hA : A j with
        | none => rw [hA] at hx; simp [Value.ownBlock] at hx
        | some a => rw [hA] at hx; simp [Value.ownBlock] at hx; exact ⟨a, rfl, hx⟩
      have h1 := hks.owns h0 this
      simpa [e] using h1
  · exact hks.owns h.long (fun x hx hxg => by simp [Value.ownBlock] at hx; subst hx; exact hoff.1 hxg.symm)

theorem Ap1.next {w wr : World} {b0 o0 L m B : Nat} {A : Nat → Option Addr} {N C : Nat → Nat} {X : Nat → List Value} {i : Nat} (h : Ap1 w wr b0 o0 L m B A N C X i (N i)) (hi : i < m) (hX : ∀ j, j < m → (X j).length = N j) :
    Ap1 w (wr.setCell ⟨L, i, none⟩ (.slice (A i) (N i) (C i))) b0 o0 L m B A N C X (i + 1) 0 := by
  have hks : Keeps (fun x => x = L) wr (wr.setCell ⟨L, i, none⟩ (.slice (A i) (N i) (C i))) := Keeps.setCell wr ⟨L, i, none⟩ _ rfl
  refine ⟨fun j hj => hks.cell (h.ls j hj) h.ne, ?_, ?_, h.dis, h.off, h.ne, h.keeps.trans hks (fun x hx e => by have := h.new; omega), h.new⟩
  · intro j hj
    have h0 := hks.owns (h.low j hj) (fun x hx hxL => by
      have : blk (A j) x := by
        cases hA : A j with
        | none => rw [hA] at hx; simp [Value.ownBlock] at hx
        | some a => rw [hA] at hx; simp [Value.ownBlock] at hx; exact ⟨a, rfl, hx⟩
      exact (h.off j hj x this).1 hxL)
    by_cases e : j = i
    · subst e
      have hl := hX j hj
      rw [if_neg (Nat.lt_irrefl _), if_pos rfl, List.drop_of_length_le (by omega), List.append_nil] at h0
      rw [if_pos (by omega)]
      exact h0
    · by_cases e2 : j < i
      · rw [if_pos e2] at h0; rw [if_pos (by omega)]; exact h0
      · rw [if_neg e2, if_neg e] at h0
        rw [if_neg (by omega)]
        by_cases e3 : j = i + 1
        · rw [if_pos e3]; simpa [apMk] using h0
        · rw [if_neg e3]; exact h0
  · have h0 := (h.long.stored i (.slice (A i) (N i) (C i))).1
    have e2 : ((List.range m).map fun j => if j < i then Value.slice (A j) (N j) (C j) else .slice none 0 0).set i (.slice (A i) (N i) (C i)) = (List.range m).map fun j => if j < i + 1 then Value.slice (A j) (N j) (C j) else .slice none 0 0 := by
      apply List.ext_getElem?
      intro j
      rw [List.getElem?_set]
      by_cases e : i = j
      · subst e; simp [hi]
      · rw [if_neg e]
        by_cases hj : j < m
        · simp [hj]
          by_cases e2 : j < i
          · rw [if_pos e2, if_pos (by omega)]
          · rw [if_neg e2, if_neg (by omega)]
        · simp [hj]
    rw [← e2]
    exact h0

/-- The second phase. -/
structure Ap2 (w wr : World) (b0 o0 L m B : Nat) (A A' : Nat → Option Addr) (N C C' T : Nat → Nat) : Prop where
  ls : ∀ j, j < m → wr.cell? ⟨b0, o0 + j, none⟩ = some (.slice (A j) (N j) (C j))
  low : ∀ j, j < m → wr.ownsRow B 3 1 (.slice (A j) (N j) (C j)) (N j) (apMk j (N j))
  high : ∀ j, j < m → wr.ownsRow B 3 1 (.slice (A' j) (N j + T j) (C' j)) (N j + T j) (apMk j (N j) ++ apNg j (T j))
  long : wr.ownsRow w.heap.size 38 1 (.slice (some ⟨L, 0, none⟩) m m) m ((List.range m).map fun j => .slice (A' j) (N j + T j) (C' j))
  dis : ∀ i j, i < m → j < m → i ≠ j → ∀ k, (blk (A i) k ∨ blk (A' i) k) → ¬ (blk (A j) k ∨ blk (A' j) k)
  off : ∀ j, j < m → ∀ k, (blk (A j) k ∨ blk (A' j) k) → k ≠ L ∧ k ≠ b0
  ne : b0 ≠ L
  keeps : Keeps (fun k => ∃ j, j < m ∧ blk (A j) k) w wr
  new : w.heap.size ≤ L
  moved : ∀ j, j < m → A' j = A j ∨ ∃ g, A' j = some ⟨g, 0, none⟩ ∧ w.heap.size ≤ g
  base : B ≤ w.heap.size

theorem Ap1.done {w wr : World} {b0 o0 L m B : Nat} {A : Nat → Option Addr} {N C : Nat → Nat} {X : Nat → List Value} (h : Ap1 w wr b0 o0 L m B A N C X m 0) (hB : B ≤ w.heap.size) : Ap2 w wr b0 o0 L m B A A N C C (fun _ => 0) := by
  refine ⟨h.ls, ?_, ?_, ?_, ?_, ?_, h.ne, h.keeps, h.new, fun j _ => .inl rfl, hB⟩
  · intro j hj; have := h.low j hj; rwa [if_pos hj] at this
  · intro j hj; have := h.low j hj; rw [if_pos hj] at this; simpa [apNg] using this
  · have := h.long
    have e : ((List.range m).map fun j => if j < m then Value.slice (A j) (N j) (C j) else .slice none 0 0) = (List.range m).map fun j => Value.slice (A j) (N j + 0) (C j) := by
      apply List.map_congr_left
      intro j hj
      rw [if_pos (List.mem_range.1 hj)]; rfl
    rw [e] at this
    exact this
  · intro i j hi hj e k hk hk'; simp only [or_self] at hk hk'; exact h.dis i j hi hj e k hk hk'
  · intro j hj k hk; simp only [or_self] at hk; exact h.off j hj k hk

theorem blk_own {a : Option Addr} {n c x : Nat} (h : (Value.slice a n c).ownBlock = some x) : blk a x := by
  cases a with
  | none => simp [Value.ownBlock] at h
  | some a => simp [Value.ownBlock] at h; exact ⟨a, rfl, h⟩

/-- One append to long[i], stored back. -/
theorem Ap2.app {w wr w1 : World} {b0 o0 L m B : Nat} {A A' : Nat → Option Addr} {N C C' T : Nat → Nat} {i : Nat} (h : Ap2 w wr b0 o0 L m B A A' N C C' T) (hi : i < m) (o : Obj) (a2 : Option Addr) (c2 : Nat)
    (hown : w1.ownsRow B 3 1 (.slice a2 (N i + T i + 1) c2) (N i + T i + 1) (apMk i (N i) ++ apNg i (T i) ++ [I (-(i : Int) * 1000003 - (T i : Int) - 1)]))
    (hk : Keeps (blk (A' i)) (wr.alloc o) w1) (hm : Moved (wr.alloc o) (A' i) a2) (hh : Heads (wr.alloc o) w1 3 (A' i) ((N i + T i) * 1)) :
    Ap2 w (w1.setCell ⟨L, i, none⟩ (.slice a2 (N i + T i + 1) c2)) b0 o0 L m B A (fun j => if j = i then a2 else A' j) N C (fun j => if j = i then c2 else C' j) (fun j => if j = i then T i + 1 else T j) := by
  have hlt : ∀ j, j < m → ∀ k, (blk (A j) k ∨ blk (A' j) k) → k < wr.heap.size := by
    intro j hj k hk
    rcases hk with ⟨a, ha, rfl⟩ | ⟨a, ha, rfl⟩
    · exact (World.ownsRow.lt (h.low j hj) a.block (by rw [ha]; rfl)).2
    · exact (World.ownsRow.lt (h.high j hj) a.block (by rw [ha]; rfl)).2
  have hk0 : Keeps (blk (A' i)) wr w1 := (Keeps.alloc (S := blk (A' i)) wr o).trans hk (fun _ _ h => h)
  have hLlt : L < wr.heap.size := (World.ownsRow.lt h.long L rfl).2
  have hLi : ¬ blk (A' i) L := fun hb => (h.off i hi L (.inr hb)).1 rfl
  have hks : Keeps (fun x => x = L) w1 (w1.setCell ⟨L, i, none⟩ (.slice a2 (N i + T i + 1) c2)) := Keeps.setCell w1 ⟨L, i, none⟩ _ rfl
  have hk2 : Keeps (fun x => blk (A' i) x ∨ x = L) wr (w1.setCell ⟨L, i, none⟩ (.slice a2 (N i + T i + 1) c2)) :=
    (hk0.mono (fun _ _ s => .inl s)).trans hks (fun _ _ s => .inr s)
  have hwsz := h.keeps.size
  have a2blk : ∀ k, blk a2 k → blk (A' i) k ∨ wr.heap.size + 1 ≤ k := by
    intro k hk
    rcases hm with rfl | ⟨g, rfl, hg⟩
    · exact .inl hk
    · obtain ⟨a, ha, rfl⟩ := hk
      simp only [Option.some.injEq] at ha; subst ha
      simp at hg
      exact .inr hg
  have hdis : ∀ p q, p < m → q < m → p ≠ q → ∀ k, (blk (A p) k ∨ blk (if p = i then a2 else A' p) k) → ¬ (blk (A q) k ∨ blk (if q = i then a2 else A' q) k) := by
    have key : ∀ p, p < m → ∀ k, (blk (A p) k ∨ blk (if p = i then a2 else A' p) k) → (blk (A p) k ∨ blk (A' p) k) ∨ (p = i ∧ wr.heap.size + 1 ≤ k) := by
      intro p hp k hk
      by_cases e : p = i
      · subst e
        rw [if_pos rfl] at hk
        rcases hk with hk | hk
        · exact .inl (.inl hk)
        · rcases a2blk k hk with h1 | h1
          · exact .inl (.inr h1)
          · exact .inr ⟨rfl, h1⟩
      · rw [if_neg e] at hk; exact .inl hk
    intro p q hp hq hpq k hkp hkq
    rcases key p hp k hkp with h1 | ⟨e1, h1⟩
    · rcases key q hq k hkq with h2 | ⟨e2, h2⟩
      · exact h.dis p q hp hq hpq k h1 h2
      · have := hlt p hp k h1; omega
    · rcases key q hq k hkq with h2 | ⟨e2, h2⟩
      · have := hlt q hq k h2; omega
      · exact hpq (e1.trans e2.symm)
  refine ⟨?_, ?_, ?_, ?_, hdis, ?_, h.ne, ?_, h.new, ?_, h.base⟩
  · intro j hj
    refine hk2.cell (h.ls j hj) ?_
    rintro (hb | hb)
    · exact (h.off i hi _ (.inr hb)).2 rfl
    · exact h.ne hb
  · intro j hj
    by_cases hb : ∃ x, blk (A j) x ∧ blk (A' i) x
    · obtain ⟨x, ⟨a, ha, hax⟩, ⟨a', ha', hax'⟩⟩ := hb
      -- then it is list i itself, and its row's head stays
      have e : j = i := by
        by_cases e : j = i
        · exact e
        · exact absurd (.inr ⟨a', ha', hax'⟩) (h.dis j i hj hi e x (.inl ⟨a, ha, hax⟩))
      subst e
      have haa : A' j = A j := by
        rcases h.moved j hj with e | ⟨g, e, _⟩
        · exact e
        · rcases (h.low j hj).2 with ⟨hv, _⟩ | ⟨g2, cap, cur, hv, _⟩
          · simp only [Value.slice.injEq] at hv; rw [hv.1] at ha; cases ha
          · simp only [Value.slice.injEq] at hv
            rw [e] at ha'; rw [hv.1] at ha
            simp only [Option.some.injEq] at ha ha'
            subst ha ha'
            simp at hax hax'
            rw [e, hv.1, hax, hax']
      rw [haa] at hh
      have h1 := (Keeps.alloc (S := fun _ => False) wr o).owns (h.low j hj) (fun _ _ h => h)
      have h2 := ownsRow_kept_head h1 hh (by omega)
      exact hks.owns h2 (fun x hx hxL => by subst hxL; exact (h.off j hj x (.inl (blk_own hx))).1 rfl)
    · refine hk2.owns (h.low j hj) ?_
      intro x hx
      rintro (hb2 | hb2)
      · exact hb ⟨x, blk_own hx, hb2⟩
      · subst hb2; exact (h.off j hj x (.inl (blk_own hx))).1 rfl
  · intro j hj
    by_cases e : j = i
    · subst e
      simp only [if_true]
      rw [apNg_succ, ← List.append_assoc]
      refine hks.owns hown ?_
      intro x hx hxL
      subst hxL
      rcases a2blk x (blk_own hx) with h1 | h1
      · exact hLi h1
      · omega
    · simp only [if_neg e]
      refine hk2.owns (h.high j hj) ?_
      intro x hx
      rintro (hb2 | hb2)
      · exact h.dis j i hj hi e x (.inr (blk_own hx)) (.inr hb2)
      · subst hb2; exact (h.off j hj x (.inr (blk_own hx))).1 rfl
  · have h0 := hk0.owns h.long (fun x hx => by simp [Value.ownBlock] at hx; subst hx; exact hLi)
    have h1 := (h0.stored i (.slice a2 (N i + T i + 1) c2)).1
    have e2 : ((List.range m).map fun j => Value.slice (A' j) (N j + T j) (C' j)).set i (.slice a2 (N i + T i + 1) c2) = (List.range m).map fun j => Value.slice (if j = i then a2 else A' j) (N j + if j = i then T i + 1 else T j) (if j = i then c2 else C' j) := by
      apply List.ext_getElem?
      intro j
      rw [List.getElem?_set]
      by_cases e : i = j
      · subst e; simp [hi, Nat.add_assoc]
      · rw [if_neg e]
        by_cases hj : j < m
        · have e' : ¬ j = i := fun h => e h.symm
          simp [hj, e']
        · simp [hj]
    rw [← e2]
    exact h1
  · intro j hj k hk
    by_cases e : j = i
    · subst e
      rw [if_pos rfl] at hk
      rcases hk with hk | hk
      · exact h.off j hj k (.inl hk)
      · rcases a2blk k hk with h1 | h1
        · exact h.off j hj k (.inr h1)
        · have hb0 : b0 < wr.heap.size := World.block_lt_of_cell? wr ⟨b0, _, none⟩ (h.ls j hj)
          exact ⟨by omega, by omega⟩
    · rw [if_neg e] at hk; exact h.off j hj k hk
  · refine h.keeps.trans hk2 ?_
    intro x hx
    rintro (hb | hb)
    · rcases h.moved i hi with e | ⟨g, e, hg⟩
      · exact ⟨i, hi, e ▸ hb⟩
      · obtain ⟨a, ha, hax⟩ := hb
        rw [e] at ha; simp only [Option.some.injEq] at ha; subst ha
        simp at hax; omega
    · have := h.new; omega
  · intro j hj
    by_cases e : j = i
    · subst e
      rw [if_pos rfl]
      rcases hm with rfl | ⟨g, rfl, hg⟩
      · exact h.moved j hj
      · simp at hg; exact .inr ⟨g, rfl, by omega⟩
    · rw [if_neg e]; exact h.moved j hj



theorem Tryd.infoInts : (Tryd.prog.info? 38).map (fun i => (i.zero, i.size, i.bytes)) = some (some (.slice none 0 0), 1, 24) := by kernel_rfl

theorem Ap1.start {w w1 : World} {b0 o0 m B : Nat} {A : Nat → Option Addr} {N C : Nat → Nat} {X : Nat → List Value}
    (hls : ∀ j, j < m → w.cell? ⟨b0, o0 + j, none⟩ = some (.slice (A j) (N j) (C j)))
    (low : ∀ j, j < m → w.ownsRow B 3 1 (.slice (A j) (N j) (C j)) (N j) (X j))
    (dis : ∀ i j, i < m → j < m → i ≠ j → ∀ k, blk (A i) k → ¬ blk (A j) k)
    (off : ∀ j, j < m → ∀ k, blk (A j) k → k ≠ b0) (hb0 : b0 < w.heap.size)
    (hl : w1.ownsRow w.heap.size 38 1 (.slice (some ⟨w.heap.size, 0, none⟩) m m) m (List.replicate m (.slice none 0 0))) (hn : New w w1) :
    Ap1 w w1 b0 o0 w.heap.size m B A N C X 0 0 := by
  refine ⟨fun j hj => hn.cell (hls j hj), ?_, ?_, dis, ?_, by omega, Keeps.mono hn (fun _ _ h => h.elim), Nat.le_refl _⟩
  · intro j hj
    have h0 := hn.owns (low j hj)
    rw [if_neg (by omega)]
    by_cases e : j = 0
    · rw [if_pos e]; simpa [apMk] using h0
    · rw [if_neg e]; exact h0
  · have e : ((List.range m).map fun j => if j < 0 then Value.slice (A j) (N j) (C j) else .slice none 0 0) = List.replicate m (.slice none 0 0) := by
      apply List.ext_getElem?
      intro j
      by_cases hj : j < m <;> simp [hj]
    rw [e]; exact hl
  · intro j hj k hk
    refine ⟨?_, off j hj k hk⟩
    obtain ⟨a, ha, rfl⟩ := hk
    have := (World.ownsRow.lt (low j hj) a.block (by rw [ha]; rfl)).2
    omega

theorem own_get {w : World} {B g n c size : Nat} {e : TypeId} {xs : List Value} (h : w.ownsRow B e size (.slice (some ⟨g, 0, none⟩) n c) n xs) {j : Nat} (hj : j < n * size) : ∃ v, w.cell? ⟨g, j, none⟩ = some v := by
  rw [h.cellAt j hj]
  exact ⟨_, List.getElem?_eq_getElem (by rw [h.1]; exact hj)⟩

/-- What the walk reads of the first phase. -/
theorem Ap1.read {w wr : World} {b0 o0 L m B : Nat} {A : Nat → Option Addr} {N C : Nat → Nat} {X : Nat → List Value} {i k : Nat} (h : Ap1 w wr b0 o0 L m B A N C X i k) (hi : i < m) (hk : k < N i) :
    ∃ g v, A i = some ⟨g, 0, none⟩ ∧ wr.cell? ⟨g, k, none⟩ = some v ∧ wr.frozen? ⟨g, k, none⟩ = false := by
  have h0 := h.low i hi
  obtain ⟨g, hg⟩ := own_addr h0 (by omega)
  rw [hg] at h0
  obtain ⟨v, hv⟩ := own_get h0 (j := k) (by omega)
  exact ⟨g, v, hg, hv, h0.frozenAt k⟩

theorem Ap1.readL {w wr : World} {b0 o0 L m B : Nat} {A : Nat → Option Addr} {N C : Nat → Nat} {X : Nat → List Value} {i k : Nat} (h : Ap1 w wr b0 o0 L m B A N C X i k) (hi : i < m) :
    (∃ v, wr.cell? ⟨L, i, none⟩ = some v) ∧ wr.frozen? ⟨L, i, none⟩ = false := by
  exact ⟨own_get h.long (by omega), h.long.frozenAt i⟩

theorem Ap2.readL {w wr : World} {b0 o0 L m B : Nat} {A A' : Nat → Option Addr} {N C C' T : Nat → Nat} {i : Nat} (h : Ap2 w wr b0 o0 L m B A A' N C C' T) (hi : i < m) :
    wr.cell? ⟨L, i, none⟩ = some (.slice (A' i) (N i + T i) (C' i)) ∧ wr.frozen? ⟨L, i, none⟩ = false := by
  refine ⟨?_, h.long.frozenAt i⟩
  rw [h.long.cellAt i (by omega)]
  simp [hi]

theorem Ap2.readLow {w wr : World} {b0 o0 L m B : Nat} {A A' : Nat → Option Addr} {N C C' T : Nat → Nat} {i k : Nat} (h : Ap2 w wr b0 o0 L m B A A' N C C' T) (hi : i < m) (hk : k < N i) :
    ∃ g, A i = some ⟨g, 0, none⟩ ∧ wr.cell? ⟨g, k, none⟩ = some (.int .i64 ((i : Int) * 1000003 + (k : Int))) := by
  have h0 := h.low i hi
  obtain ⟨g, hg⟩ := own_addr h0 (by omega)
  rw [hg] at h0
  refine ⟨g, hg, ?_⟩
  rw [h0.cellAt k (by omega), apMk_at _ _ _ hk]

theorem Ap2.readHigh {w wr : World} {b0 o0 L m B : Nat} {A A' : Nat → Option Addr} {N C C' T : Nat → Nat} {i k : Nat} (h : Ap2 w wr b0 o0 L m B A A' N C C' T) (hi : i < m) (hk : k < N i) :
    ∃ g, A' i = some ⟨g, 0, none⟩ ∧ wr.cell? ⟨g, k, none⟩ = some (.int .i64 ((i : Int) * 1000003 + (k : Int))) := by
  have h0 := h.high i hi
  obtain ⟨g, hg⟩ := own_addr h0 (by omega)
  rw [hg] at h0
  refine ⟨g, hg, ?_⟩
  rw [h0.cellAt k (by omega), List.getElem?_append_left (by rw [apMk_len]; exact hk), apMk_at _ _ _ hk]

theorem Ap2.readTop {w wr : World} {b0 o0 L m B : Nat} {A A' : Nat → Option Addr} {N C C' T : Nat → Nat} {i k : Nat} (h : Ap2 w wr b0 o0 L m B A A' N C C' T) (hi : i < m) (hk : k < T i) :
    ∃ g, A' i = some ⟨g, 0, none⟩ ∧ wr.cell? ⟨g, N i + k, none⟩ = some (.int .i64 (-(i : Int) * 1000003 - (k : Int) - 1)) := by
  have h0 := h.high i hi
  obtain ⟨g, hg⟩ := own_addr h0 (by omega)
  rw [hg] at h0
  refine ⟨g, hg, ?_⟩
  rw [h0.cellAt _ (by omega), List.getElem?_append_right (by rw [apMk_len]; omega), apMk_len]
  simp [apNg, show N i + k - N i = k by omega, hk]

theorem Ap2.app' {w wr w1 : World} {b0 o0 L m B : Nat} {A A' : Nat → Option Addr} {N C C' T : Nat → Nat} {i : Nat} (h : Ap2 w wr b0 o0 L m B A A' N C C' T) (hi : i < m) (o : Obj) (a2 : Option Addr) (c2 t : Nat) (ht : T i = t) (ys : List Value)
    (hy : ys = apMk i (N i) ++ apNg i (t + 1)) (hown : w1.ownsRow B 3 1 (.slice a2 (N i + t + 1) c2) (N i + t + 1) ys)
    (hk : Keeps (blk (A' i)) (wr.alloc o) w1) (hm : Moved (wr.alloc o) (A' i) a2) (hh : Heads (wr.alloc o) w1 3 (A' i) (N i + t)) :
    ((∃ v, w1.cell? ⟨L, i, none⟩ = some v) ∧ w1.frozen? ⟨L, i, none⟩ = false) ∧
    Ap2 w (w1.setCell ⟨L, i, none⟩ (.slice a2 (N i + t + 1) c2)) b0 o0 L m B A (fun j => if j = i then a2 else A' j) N C (fun j => if j = i then c2 else C' j) (fun j => if j = i then t + 1 else T j) := by
  subst ht hy
  have hk0 : Keeps (blk (A' i)) wr w1 := (Keeps.alloc (S := blk (A' i)) wr o).trans hk (fun _ _ h => h)
  have hL := hk0.owns h.long (fun x hx hb => by simp [Value.ownBlock] at hx; subst hx; exact (h.off i hi _ (.inr hb)).1 rfl)
  refine ⟨⟨own_get hL (by omega), hL.frozenAt i⟩, h.app hi o a2 c2 ?_ hk hm (by rw [Nat.mul_one]; exact hh)⟩
  rw [apNg_succ, ← List.append_assoc] at hown
  exact hown

set_option maxRecDepth 100000 in
set_option maxHeartbeats 4000000 in
theorem apart_any (w : World) (b0 o0 m cm B : Nat) (A : Nat → Option Addr) (N C : Nat → Nat) (X : Nat → List Value)
    (hls : ∀ j, j < m → w.cell? ⟨b0, o0 + j, none⟩ = some (.slice (A j) (N j) (C j)))
    (low : ∀ j, j < m → w.ownsRow B 3 1 (.slice (A j) (N j) (C j)) (N j) (X j))
    (dis : ∀ i j, i < m → j < m → i ≠ j → ∀ k, blk (A i) k → ¬ blk (A j) k)
    (off : ∀ j, j < m → ∀ k, blk (A j) k → k ≠ b0) (hb0 : b0 < w.heap.size) (hB : B ≤ w.heap.size) (hm : m ≤ 3000000) (hN : ∀ j, j < m → (N j + 16) * 8 ≤ 140737488355328) :
    Calls Tryd.prog 37 #[.slice (some ⟨b0, o0, none⟩) m cm] w fun e w' => e = .returned (.bool true) ∧ Keeps (fun k => ∃ j, j < m ∧ blk (A j) k) w w' := by
  have hX : ∀ j, j < m → (X j).length = N j := fun j hj => by have := (low j hj).1; omega
  obtain ⟨i0, hi0, hz0, hz1, hz2⟩ := info_parts Tryd.infoInts
  obtain ⟨i1, hi1, hy0, hy1, hy2⟩ := info_parts Tryd.infoInt
  have HX := Lib.hid hX
  have HLS := Lib.hid hls
  have HLOW := Lib.hid low
  have HDIS := Lib.hid dis
  have HOFF := Lib.hid off
  have HN := Lib.hid hN
  clear hX hls low dis off hN
  go_enter Tryd.func37, Tryd.ntmps37
  go_wp2_with (at_make; refine wpList_make_full _ rfl _ _ 68 rfl w.heap.size 38 i0 (.slice none 0 0) 1 Tryd.underlying68 hi0 hz0 hz1 _ _ _ _ m rfl rfl rfl rfl ?b1 ?b2 ?b3 ?b4)
  case b1 => rw [hz2]; omega
  case b2 => unfold maxLen; omega
  case b3 => simp
  case b4 =>
    intro w1 hown hg
    rw [toList_madeCells_one] at hown
    have hst := Ap1.start HLS.out HLOW.out HDIS.out HOFF.out hb0 hown (Keeps.grown hg (fun k h => by cases h))
    clear hown hg
    go_wp2
    go_loopw [4] (fun i wr => ∃ n : Nat, n ≤ m ∧ i = .int .i64 n ∧ Ap1 w wr b0 o0 w.heap.size m B A N C X n 0) (fun i _ => m - (intOf i).toNat)
    case atStart => exact ⟨0, by omega, rfl, hst⟩
    case round =>
      clear hst
      obtain ⟨n, hn, rfl, hA⟩ := hrel
      by_cases hnm : n < m
      · go_wp2
        go_loopw [5] (fun i wr => ∃ k : Nat, k ≤ N n ∧ i = .int .i64 k ∧ Ap1 w wr b0 o0 w.heap.size m B A N C X n k) (fun i _ => N n - (intOf i).toNat)
        case atStart => exact ⟨0, by omega, rfl, hA⟩
        case round =>
          clear hA
          obtain ⟨k, hk, rfl, hA⟩ := hrel
          have hls := hA.ls n hnm
          have hNn := HN.out n hnm
          by_cases hkn : k < N n
          · obtain ⟨g, v, hg, hc, hf⟩ := hA.read hnm hkn
            have hnx := hA.store hnm hkn hg HX.out
            rw [hg] at hls
            have HG := Lib.hid hg
            clear hg hA
            generalize N n = Nn at hls hNn hkn hk hnx
            go_wp2
            go_roundw
            case rel => exact ⟨k + 1, by omega, by go_num, hnx⟩
            case measure => simp [intOf]; omega
          · have hke : k = N n := by omega
            subst hke
            obtain ⟨⟨v, hv⟩, hfz⟩ := hA.readL hnm
            have hnx := hA.next hnm HX.out
            clear hA
            generalize hNe : N n = Nn at hls hNn hk hnx hv hfz
            have HNE := Lib.hid hNe
            clear hNe
            go_wp2
            go_roundw
            case rel => exact ⟨n + 1, by omega, by go_num, hnx⟩
            case measure => simp [intOf]; omega
      · obtain rfl : m = n := by omega
        have hA2 := hA.done hB
        clear hA
        go_wp2
        go_loopw [6] (fun i wr => ∃ n : Nat, n ≤ m ∧ i = .int .i64 n ∧ ∃ A' C' T, Ap2 w wr b0 o0 w.heap.size m B A A' N C C' T ∧ ∀ j, j < m → T j = if j < n then 16 else 0) (fun i _ => m - (intOf i).toNat)
        case atStart => exact ⟨0, by omega, rfl, _, _, _, hA2, fun j _ => by simp⟩
        case round =>
          clear hA2
          obtain ⟨n, hn, rfl, A', C', T, hA, hT⟩ := hrel
          have HT := Lib.hid hT
          clear hT
          by_cases hnm : n < m
          · go_wp2
            go_loopw [7] (fun i wr => ∃ k : Nat, k ≤ 16 ∧ i = .int .i64 k ∧ ∃ A' C' T, Ap2 w wr b0 o0 w.heap.size m B A A' N C C' T ∧ ∀ j, j < m → T j = if j < n then 16 else if j = n then k else 0) (fun i _ => 16 - (intOf i).toNat)
            case atStart =>
              refine ⟨0, by omega, rfl, _, _, _, hA, fun j hj => ?_⟩
              rw [HT.out j hj]
              by_cases e : j < n
              · rw [if_pos e, if_pos e]
              · rw [if_neg e, if_neg e]; by_cases e2 : j = n <;> simp [e2]
            case round =>
              clear hA HT
              obtain ⟨k, hk, rfl, A', C', T, hA, hT⟩ := hrel
              have hTn : T n = k := by rw [hT n hnm, if_neg (Nat.lt_irrefl _), if_pos rfl]
              have HT := Lib.hid hT
              clear hT
              have hNn := HN.out n hnm
              by_cases hk16 : k < 16
              · obtain ⟨hcL, hfL⟩ := hA.readL hnm
                have hown := hA.high n hnm
                rw [hTn] at hcL hown
                have HTN := Lib.hid hTn
                clear hTn
                have hLlt : w.heap.size < wr.heap.size := (World.ownsRow.lt hA.long _ rfl).2
                go_wp2_with ((at_builtin; refine wpList_app rfl _ _ 38 rfl B 3 i1 (.int .i64 0) 1 8 Tryd.underlying38 hi1 hy0 hy1 hy2 rfl (by decide) (A' n) (N n + k) (C' n) _ rfl ((Keeps.alloc (S := fun _ => False) _ _).owns hown (fun _ _ h => h)) _ 1 1 [I (-(n : Int) * 1000003 - (k : Int) - 1)] rfl rfl ?c0 ?c1 ?c2 ?c3 ?c4 ?c5))
                case c0 => exact SlAt.lit _ _ _
                case c1 => intro u hu; simp at hu; subst hu; rfl
                case c2 => unfold maxLen; omega
                case c3 => omega
                case c4 => simp; omega
                case c5 =>
                  intro ao' c' w' hown' hk' hmv hh
                  try simp only [Nat.mul_one] at hh
                  obtain ⟨⟨⟨v, hv⟩, hfz⟩, hnx⟩ := hA.app' hnm _ ao' c' k HTN.out _ (by rw [apNg_succ]) hown' hk' hmv hh
                  have hT2 : ∀ j, j < m → (if j = n then k + 1 else T j) = if j < n then 16 else if j = n then k + 1 else 0 := by
                    intro j hj
                    by_cases e : j = n
                    · subst e; simp
                    · rw [if_neg e, HT.out j hj]; simp [e]
                  have HT2 := Lib.hid hT2
                  clear hT2 hA hown hown' hk' hmv hh hcL hfL
                  go_wp2
                  go_roundw
                  case rel => exact ⟨k + 1, by omega, by go_num, _, _, _, hnx, HT2.out⟩
                  case measure => simp [intOf]; omega
              · obtain rfl : 16 = k := by omega
                have HTN := Lib.hid hTn
                clear hTn
                go_wp2
                go_roundw
                case rel =>
                  refine ⟨n + 1, by omega, by go_num, _, _, _, hA, fun j hj => ?_⟩
                  rw [HT.out j hj]
                  by_cases e : j < n
                  · rw [if_pos e, if_pos (by omega)]
                  · by_cases e2 : j = n
                    · rw [if_neg e, if_pos e2, if_pos (by omega)]
                    · rw [if_neg e, if_neg e2, if_neg (by omega)]
                case measure => simp [intOf]; omega
          · obtain rfl : m = n := by omega
            have hT16 : ∀ j, j < m → T j = 16 := fun j hj => by rw [HT.out j hj, if_pos hj]
            have HT16 := Lib.hid hT16
            have hkeep := hA.keeps
            clear hT16 HT
            go_wp2
            go_loopw [8] (fun i wz => ∃ n : Nat, n ≤ m ∧ i = .int .i64 n ∧ ∃ q, wz = wr.drewN q) (fun i _ => m - (intOf i).toNat)
            case atStart => exact ⟨0, by omega, rfl, 0, rfl⟩
            case round =>
              rename_i wz
              obtain ⟨n, hn, rfl, q, rfl⟩ := hrel
              by_cases hnm : n < m
              · have hls := hA.ls n hnm
                obtain ⟨hcL, hfL⟩ := hA.readL hnm
                rw [HT16.out n hnm] at hcL
                have hNn := HN.out n hnm
                go_wp2
                go_loopw [9] (fun i wz => ∃ k : Nat, k ≤ N n ∧ i = .int .i64 k ∧ ∃ q, wz = wr.drewN q) (fun i _ => N n - (intOf i).toNat)
                case atStart => exact ⟨0, by omega, rfl, q, rfl⟩
                case round =>
                  clear q
                  obtain ⟨k, hk, rfl, q, rfl⟩ := hrel
                  by_cases hkn : k < N n
                  · obtain ⟨g1, hg1, hc1⟩ := hA.readLow hnm hkn
                    obtain ⟨g2, hg2, hc2⟩ := hA.readHigh hnm hkn
                    rw [hg1] at hls
                    rw [hg2] at hcL
                    clear hg1 hg2
                    go_wp2
                    go_roundw
                    case rel => exact ⟨k + 1, by omega, by go_num, _, rfl⟩
                    case measure => simp [intOf]; omega
                  · go_wp2
                    go_loopw [10] (fun i wz => ∃ k : Nat, k ≤ 16 ∧ i = .int .i64 k ∧ ∃ q, wz = wr.drewN q) (fun i _ => 16 - (intOf i).toNat)
                    case atStart => exact ⟨0, by omega, rfl, q, rfl⟩
                    case round =>
                      clear q
                      obtain ⟨t, ht, rfl, q, rfl⟩ := hrel
                      by_cases htn : t < 16
                      · obtain ⟨g2, hg2, hc2⟩ := hA.readTop hnm (k := t) (by rw [HT16.out n hnm]; exact htn)
                        rw [hg2] at hcL
                        clear hg2
                        go_wp2
                        go_quiet (fail)
                        go_wp2
                        go_roundw
                        case rel => exact ⟨t + 1, by omega, by go_num, _, rfl⟩
                        case measure => simp [intOf]; omega
                      · go_wp2
                        go_roundw
                        case rel => exact ⟨n + 1, by omega, by go_num, _, rfl⟩
                        case measure => simp [intOf]; omega
              · go_wp2
                go_ret
                exact ⟨rfl, hkeep.trans (Keeps.drewN _ _) (fun _ _ h => h)⟩


/-- A list of integers that lies somewhere. -/
structure Ent where
  a : Option Addr
  c : Nat
  xs : List Int
def entV (t : Ent) : Value := .slice t.a t.xs.length t.c
def disj (s t : Ent) : Prop := ∀ k, blk s.a k → ¬ blk t.a k
theorem disj_symm {s t : Ent} (h : disj s t) : disj t s := fun k hk hs => h k hs hk

set_option maxRecDepth 100000 in
set_option maxHeartbeats 4000000 in
theorem apart_nil (w : World) :
    Calls Tryd.prog 37 #[.slice none 0 0] w fun e w' => e = .returned (.bool true) ∧ New w w' := by
  obtain ⟨i0, hi0, hz0, hz1, hz2⟩ := info_parts Tryd.infoInts
  go_enter Tryd.func37, Tryd.ntmps37
  go_wp2_with (at_make; refine wpList_make_full _ rfl _ _ 68 rfl w.heap.size 38 i0 (.slice none 0 0) 1 Tryd.underlying68 hi0 hz0 hz1 _ _ _ _ 0 rfl rfl rfl rfl ?b1 ?b2 ?b3 ?b4)
  case b1 => omega
  case b2 => unfold maxLen; omega
  case b3 => exact Nat.le_refl _
  case b4 =>
    intro w1 hown hg
    have hN : New w w1 := Keeps.grown hg (fun k h => by cases h)
    clear hown hg
    go_wp2
    go_loopw [4] (fun i wr => i = .int .i64 0 ∧ wr = w1) (fun _ _ => 0)
    case atStart => exact ⟨rfl, rfl⟩
    case round =>
      obtain ⟨rfl, rfl⟩ := hrel
      obtain ⟨wo, rfl⟩ : ∃ wo : World, wo = wr := ⟨_, rfl⟩
      go_wp2
      go_loopw [6] (fun i wr => i = .int .i64 0 ∧ wr = wo) (fun _ _ => 0)
      case atStart => exact ⟨rfl, rfl⟩
      case round =>
        obtain ⟨rfl, rfl⟩ := hrel
        obtain ⟨wo, rfl⟩ : ∃ wo : World, wo = wr := ⟨_, rfl⟩
        go_wp2
        go_loopw [8] (fun i wr => i = .int .i64 0 ∧ wr = wo) (fun _ _ => 0)
        case atStart => exact ⟨rfl, rfl⟩
        case round =>
          obtain ⟨rfl, rfl⟩ := hrel
          go_wp2
          go_ret
          exact ⟨rfl, hN⟩

theorem apart_rows (w : World) (ao : Option Addr) (c B B2 : Nat) (T : List Ent) (hrow : w.ownsRow B2 38 1 (.slice ao T.length c) T.length (T.map entV))
    (low : ∀ t ∈ T, OwnI w B t.a t.c t.xs) (dis : T.Pairwise disj) (off : ∀ t ∈ T, ∀ k, blk t.a k → k < B2) (hB : B ≤ w.heap.size) (hm : T.length ≤ 3000000) (hN : ∀ t ∈ T, t.xs.length ≤ 3000000) :
    Calls Tryd.prog 37 #[.slice ao T.length c] w fun e w' => e = .returned (.bool true) ∧ Keeps (fun k => ∃ t ∈ T, blk t.a k) w w' := by
  rcases hrow.2 with ⟨h1, h2⟩ | ⟨g, cap, cur, hv, hg, hh, _⟩
  · simp only [Value.slice.injEq] at h1
    obtain ⟨rfl, h3, rfl⟩ := h1
    rw [h3]
    refine (apart_nil w).mono ?_
    rintro e w' ⟨rfl, k⟩
    exact ⟨rfl, Keeps.mono k (fun _ _ h => h.elim)⟩
  · simp only [Value.slice.injEq] at hv
    obtain ⟨rfl, _, rfl⟩ := hv
    have hat : ∀ j (hj : j < T.length), T.getD j ⟨none, 0, []⟩ = T[j] := fun j hj => by rw [List.getD_eq_getElem?_getD, List.getElem?_eq_getElem hj]; rfl
    have hmem : ∀ j (hj : j < T.length), T.getD j ⟨none, 0, []⟩ ∈ T := fun j hj => by rw [hat j hj]; exact List.getElem_mem hj
    refine (apart_any w g 0 T.length c B (fun j => (T.getD j ⟨none, 0, []⟩).a) (fun j => (T.getD j ⟨none, 0, []⟩).xs.length) (fun j => (T.getD j ⟨none, 0, []⟩).c) (fun j => Is (T.getD j ⟨none, 0, []⟩).xs) ?_ ?_ ?_ ?_ (Array.getElem?_eq_some_iff.1 hh).1 hB hm ?_).mono ?_
    · intro j hj
      rw [Nat.zero_add, hrow.cellAt j (by omega), List.getElem?_map, List.getElem?_eq_getElem hj, hat j hj]; rfl
    · intro j hj; exact low _ (hmem j hj)
    · intro i j hi hj hne k h1 h2
      rw [hat i hi] at h1
      rw [hat j hj] at h2
      have hp := List.pairwise_iff_getElem.1 dis
      rcases Nat.lt_or_gt_of_ne hne with h | h
      · exact hp i j hi hj h k h1 h2
      · exact hp j i hj hi h k h2 h1
    · intro j hj k hk e
      have := off _ (hmem j hj) k hk
      omega
    · intro j hj
      have := hN _ (hmem j hj)
      omega
    · rintro e w' ⟨rfl, k⟩
      exact ⟨rfl, Keeps.mono k (fun i _ ⟨j, hj, hb⟩ => ⟨_, hmem j hj, hb⟩)⟩
end Go.Proofs.YtohalcbhckahmaaDoor
namespace Go.Proofs.YtohalcbhckahmaaDoor
open Go Go.RowKit Go.Joins
set_option linter.all false

theorem mkS_at {w : World} {ao : Option Addr} {l : List SIt} (h : SlAt w ao (l.flatMap itCells)) (i : Nat) (s : Int) (j : Nat) (hi : l[i]? = some (mk1 s j)) :
    ∃ b off, ao = some ⟨b, off, none⟩ ∧ w.cell? ⟨b, off + i * 11, none⟩ = some (.int .u8 s) ∧ w.cell? ⟨b, off + i * 11 + 10, none⟩ = some (I j) ∧ b < w.heap.size := by
  have hl : i < l.length := (List.getElem?_eq_some_iff.1 hi).1
  have e : l[i] = mk1 s j := (List.getElem?_eq_some_iff.1 hi).2
  obtain ⟨b, off, ea, q0, q1, q2, q3, q4, q5, q6, q7, q8, q9, q10⟩ := items_row h hl
  rw [e] at q0 q10
  exact ⟨b, off, ea, q0, q10, World.block_lt_of_cell? w _ q0⟩
theorem mkS_get? (s : Int) (n i : Nat) (h : i < n) : (mkS s n)[i]? = some (mk1 s i) := by
  rw [List.getElem?_eq_getElem (by rw [mkS_len]; exact h), mkS_get]
theorem mkS_get2 (s t : Int) (n m i : Nat) (h : i < m) : (mkS s n ++ mkS t m)[n + i]? = some (mk1 t i) := by
  rw [List.getElem?_append_right (by rw [mkS_len]; omega), mkS_len, show n + i - n = i by omega]
  exact mkS_get? t m i h
def entOf (x : SIt) : Ent := ⟨x.a, x.c, x.xs⟩
set_option maxRecDepth 100000 in
set_option maxHeartbeats 64000000 in
theorem apartS_any (w0 w : World) (s t : Sk) (hs : SkOwn w w0.heap.size s) (ht : SkOwn w w0.heap.size t) (hnw : New w0 w) (hdi : ∀ k, blk s.ia k → ¬ blk t.ia k) (hdn : ∀ x ∈ s.items, ∀ y ∈ t.items, ∀ k, blk x.a k → ¬ blk y.a k)
    (hn : s.items.length ≤ 1048600) (hm : t.items.length ≤ 1048600) (hxn : ∀ x ∈ s.items, x.xs.length ≤ 1048600) (hxm : ∀ x ∈ t.items, x.xs.length ≤ 1048600) :
    Calls Tryd.prog 15 #[s.v, t.v] w fun e w' => e = .returned (.bool true) ∧ New w0 w' := by
  obtain ⟨i0, hi0, hz0, hz1, hz2⟩ := info_parts infoItem
  obtain ⟨i1, hi1, hy0, hy1, hy2⟩ := info_parts Tryd.infoInts
  obtain ⟨sn, a, ca, la⟩ := s
  obtain ⟨tn, b, cb, lb⟩ := t
  have HSO := Lib.hid hs
  have HTO := Lib.hid ht
  have HDI := Lib.hid hdi
  have HDN := Lib.hid hdn
  have HXN := Lib.hid hxn
  have HXM := Lib.hid hxm
  have HNW := Lib.hid hnw
  simp only at hn hm
  obtain ⟨n, hln⟩ : ∃ n, la.length = n := ⟨_, rfl⟩
  obtain ⟨m, hlm⟩ : ∃ m, lb.length = m := ⟨_, rfl⟩
  have hv1 : Sk.v ⟨sn, a, ca, la⟩ = .agg #[.string sn, .slice a n ca] := by show Value.agg #[_, .slice _ la.length _] = _; rw [hln]
  have hv2 : Sk.v ⟨tn, b, cb, lb⟩ = .agg #[.string tn, .slice b m cb] := by show Value.agg #[_, .slice _ lb.length _] = _; rw [hlm]
  rw [hv1, hv2]
  rw [hln] at hn
  rw [hlm] at hm
  have HLA := Lib.hid hln
  have HLB := Lib.hid hlm
  clear hs ht hdi hdn hxn hxm hnw hln hlm hv1 hv2
  go_enter Tryd.func15, Tryd.ntmps15
  go_wp2_with fail
  have na : New w (w.alloc (.cells #[.string sn, .slice a n ca] 24)) := (New.refl w).alloc _
  have ha : (w.alloc (.cells #[.string sn, .slice a n ca] 24)).heap[w.heap.size]? = some (.cells #[.string sn, .slice a n ca] 24 (0, 0)) := heap_alloc_new w _
  have sa : (w.alloc (.cells #[.string sn, .slice a n ca] 24)).heap.size = w.heap.size + 1 := by simp
  have nb : New (w.alloc (.cells #[.string sn, .slice a n ca] 24)) ((w.alloc (.cells #[.string sn, .slice a n ca] 24)).alloc (.cells #[.string tn, .slice b m cb] 24)) := (New.refl _).alloc _
  have hb : ((w.alloc (.cells #[.string sn, .slice a n ca] 24)).alloc (.cells #[.string tn, .slice b m cb] 24)).heap[w.heap.size + 1]? = some (.cells #[.string tn, .slice b m cb] 24 (0, 0)) := by
    have := heap_alloc_new (w.alloc (.cells #[.string sn, .slice a n ca] 24)) (.cells #[.string tn, .slice b m cb] 24); rwa [sa] at this
  replace ha := Keeps.heap nb ha (fun h => h)
  have kA := na.trans nb
  clear na nb sa
  obtain ⟨W, hW⟩ : ∃ W, W = ((w.alloc (.cells #[.string sn, .slice a n ca] 24)).alloc (.cells #[.string tn, .slice b m cb] 24)) := ⟨_, rfl⟩
  rw [← hW] at ha hb kA ⊢
  clear hW
  obtain ⟨PB, hPB⟩ : ∃ b, w.heap.size = b := ⟨_, rfl⟩
  rw [hPB] at ha hb ⊢
  obtain ⟨QB, hQB⟩ : ∃ b, PB + 1 = b := ⟨_, rfl⟩
  rw [hQB] at hb ⊢
  clear hPB hQB
  have HA := Lib.hid (And.intro ha hb)
  have KA := Lib.hid kA
  clear ha hb kA
  have HR0 : Hid (W.ownsRow W.heap.size 38 1 (.slice none 0 0) 0 (([] : List Ent).map entV)) := Lib.hid (World.ownsRow_nil _ _ _ _)
  go_loopw [5, 6] (fun y x wr => ∃ (i : Nat) (an : Option Addr) (cn : Nat), i ≤ n ∧ x = .int .i64 i ∧ y = .slice an (i) cn ∧ Hid (New W wr) ∧ Hid (wr.ownsRow W.heap.size 38 1 (.slice an (i) cn) (i) ((((la.take i).map entOf)).map entV))) (fun _ x _ => n - (intOf x).toNat)
  case atStart => exact ⟨0, none, 0, by omega, rfl, rfl, Lib.hid (New.refl _), HR0⟩
  case round =>
    clear HR0
    obtain ⟨i, an, cn, hi, rfl, rfl, HN, HR⟩ := hrel
    obtain ⟨-, c1, -, -, hCl⟩ := sk_get (Keeps.heap HN.out HA.out.1 (fun h => h))
    obtain ⟨-, d1, -, -, hDl⟩ := sk_get (Keeps.heap HN.out HA.out.2 (fun h => h))
    by_cases hi1' : i < n
    · have hil : i < la.length := by rw [HLA.out]; exact hi1'
      have hiI : (i : Int) < (n : Int) := by omega
      obtain ⟨bb, off, hab, q0, q1, q2, q3, q4, q5, q6, q7, q8, q9, q10⟩ := items_row ((HSO.out.at.new (KA.out.trans HN.out)).sl) hil
      have hbw := World.block_lt_of_cell? wr _ q0
      have hnext : la.take (i + 1) = la.take i ++ [la[i]] := List.take_succ_eq_append_getElem hil
      obtain ⟨x, hx⟩ : ∃ x, la[i] = x := ⟨_, rfl⟩
      rw [hx] at q0 q1 q2 q3 q4 q5 q6 q7 q8 q9 q10 hnext
      simp only at hab
      rw [hab] at c1
      have HNX := Lib.hid hnext
      have ka : New wr (wr.alloc (.cells #[.slice x.a x.xs.length x.c] 38)) := (New.refl wr).alloc _
      have hone : ∀ u ∈ [Value.slice x.a x.xs.length x.c], u.oneCell' = true := by intro u hu; simp only [List.mem_cons, List.not_mem_nil, or_false] at hu; rcases hu with rfl; rfl
      have hrow := ka.owns HR.out
      have hsz : W.heap.size ≤ (wr.alloc (.cells #[.slice x.a x.xs.length x.c] 38)).heap.size := Nat.le_trans HN.out.size ka.size
      obtain ⟨XS, hXS⟩ : ∃ XS, (((la.take i).map entOf)).map entV = XS := ⟨_, rfl⟩
      rw [hXS] at hrow
      have HXS := Lib.hid hXS
      have HAB := Lib.hid hab
      clear hXS hx hnext hab
      go_wp2_with (at_builtin; refine wpList_app rfl _ _ 68 rfl W.heap.size 38 i1 _ 1 24 Tryd.underlying68 hi1 hy0 hy1 hy2 rfl (by decide) an (i) cn XS rfl hrow _ 1 1 [.slice x.a x.xs.length x.c] rfl rfl (SlAt.lit _ _ _) hone (by unfold maxLen; omega) (by omega) hsz ?_)
      intro a2 c2 w2 hown hk hmv _
      have HN2 := Lib.hid (New.keeps (HN.out.trans ka) hk (fun k hk hx => by have := (own_of_blk hrow hx).1; omega))
      have HR2 : Hid (w2.ownsRow W.heap.size 38 1 (.slice a2 (i + 1) c2) (i + 1) ((((la.take (i + 1)).map entOf)).map entV)) := Lib.hid (by
        rw [HNX.out]
        have h := hown
        rw [← HXS.out] at h
        simpa [entOf, entV, Nat.add_assoc] using h)
      clear hown hk hmv hrow hone ka c1 d1 hCl hDl q0 q1 q2 q3 q4 q5 q6 q7 q8 q9 q10 hbw hsz
      go_wp2_with fail
      go_roundw
      case rel => exact ⟨i + 1, a2, c2, by omega, by go_num, by first | rfl | (congr 1), HN2, HR2⟩
      case measure => simp [intOf]; omega
    · have hie : i = n := by omega
      have hiI : ¬ (i : Int) < (n : Int) := by omega
      subst hie
      have htk : la.take i = la := List.take_of_length_le (by rw [HLA.out]; omega)
      rw [htk] at HR
      clear htk hi hi1'
      go_wp2_with fail
      clear c1 d1 hCl hDl hiI
      obtain ⟨n, rfl⟩ : ∃ z, z = i := ⟨_, rfl⟩
      go_loopw [5, 7] (fun y x wr => ∃ (i : Nat) (an : Option Addr) (cn : Nat), i ≤ m ∧ x = .int .i64 i ∧ y = .slice an (n + i) cn ∧ Hid (New W wr) ∧ Hid (wr.ownsRow W.heap.size 38 1 (.slice an (n + i) cn) (n + i) ((la.map entOf ++ ((lb.take i).map entOf)).map entV))) (fun _ x _ => m - (intOf x).toNat)
      case atStart => exact ⟨0, an, cn, by omega, rfl, rfl, HN, Lib.hid (by have := HR.out; simpa using this)⟩
      case round =>
        clear HN HR
        obtain ⟨i, an, cn, hi, rfl, rfl, HN, HR⟩ := hrel
        obtain ⟨-, c1, -, -, hCl⟩ := sk_get (Keeps.heap HN.out HA.out.1 (fun h => h))
        obtain ⟨-, d1, -, -, hDl⟩ := sk_get (Keeps.heap HN.out HA.out.2 (fun h => h))
        by_cases hi1' : i < m
        · have hil : i < lb.length := by rw [HLB.out]; exact hi1'
          have hiI : (i : Int) < (m : Int) := by omega
          obtain ⟨bb, off, hab, q0, q1, q2, q3, q4, q5, q6, q7, q8, q9, q10⟩ := items_row ((HTO.out.at.new (KA.out.trans HN.out)).sl) hil
          have hbw := World.block_lt_of_cell? wr _ q0
          have hnext : lb.take (i + 1) = lb.take i ++ [lb[i]] := List.take_succ_eq_append_getElem hil
          obtain ⟨x, hx⟩ : ∃ x, lb[i] = x := ⟨_, rfl⟩
          rw [hx] at q0 q1 q2 q3 q4 q5 q6 q7 q8 q9 q10 hnext
          simp only at hab
          rw [hab] at d1
          have HNX := Lib.hid hnext
          have ka : New wr (wr.alloc (.cells #[.slice x.a x.xs.length x.c] 38)) := (New.refl wr).alloc _
          have hone : ∀ u ∈ [Value.slice x.a x.xs.length x.c], u.oneCell' = true := by intro u hu; simp only [List.mem_cons, List.not_mem_nil, or_false] at hu; rcases hu with rfl; rfl
          have hrow := ka.owns HR.out
          have hsz : W.heap.size ≤ (wr.alloc (.cells #[.slice x.a x.xs.length x.c] 38)).heap.size := Nat.le_trans HN.out.size ka.size
          obtain ⟨XS, hXS⟩ : ∃ XS, (la.map entOf ++ ((lb.take i).map entOf)).map entV = XS := ⟨_, rfl⟩
          rw [hXS] at hrow
          have HXS := Lib.hid hXS
          have HAB := Lib.hid hab
          clear hXS hx hnext hab
          go_wp2_with (at_builtin; refine wpList_app rfl _ _ 68 rfl W.heap.size 38 i1 _ 1 24 Tryd.underlying68 hi1 hy0 hy1 hy2 rfl (by decide) an (n + i) cn XS rfl hrow _ 1 1 [.slice x.a x.xs.length x.c] rfl rfl (SlAt.lit _ _ _) hone (by unfold maxLen; omega) (by omega) hsz ?_)
          intro a2 c2 w2 hown hk hmv _
          have HN2 := Lib.hid (New.keeps (HN.out.trans ka) hk (fun k hk hx => by have := (own_of_blk hrow hx).1; omega))
          have HR2 : Hid (w2.ownsRow W.heap.size 38 1 (.slice a2 (n + (i + 1)) c2) (n + (i + 1)) ((la.map entOf ++ ((lb.take (i + 1)).map entOf)).map entV)) := Lib.hid (by
            rw [HNX.out]
            have h := hown
            rw [← HXS.out] at h
            simpa [entOf, entV, Nat.add_assoc] using h)
          clear hown hk hmv hrow hone ka c1 d1 hCl hDl q0 q1 q2 q3 q4 q5 q6 q7 q8 q9 q10 hbw hsz
          go_wp2_with fail
          go_roundw
          case rel => exact ⟨i + 1, a2, c2, by omega, by go_num, by first | rfl | (congr 1), HN2, HR2⟩
          case measure => simp [intOf]; omega
        · have hie : i = m := by omega
          have hiI : ¬ (i : Int) < (m : Int) := by omega
          subst hie
          have htk : lb.take i = lb := List.take_of_length_le (by rw [HLB.out]; omega)
          rw [htk] at HR
          clear htk hi hi1'
          go_wp2_with fail
          clear c1 d1 hCl hDl hiI
          obtain ⟨m, rfl⟩ : ∃ z, z = i := ⟨_, rfl⟩
          have hTl : (la.map entOf ++ lb.map entOf).length = n + m := by simp [HLA.out, HLB.out]
          have hlow : ∀ t ∈ (la.map entOf ++ lb.map entOf), OwnI wr w0.heap.size t.a t.c t.xs := by
            intro t ht
            have hk := KA.out.trans HN.out
            rcases List.mem_append.1 ht with ht | ht
            · obtain ⟨x, hx, rfl⟩ := List.mem_map.1 ht
              exact (HSO.out.nx x hx).new hk
            · obtain ⟨x, hx, rfl⟩ := List.mem_map.1 ht
              exact (HTO.out.nx x hx).new hk
          have hdis : (la.map entOf ++ lb.map entOf).Pairwise disj := by
            rw [List.pairwise_append]
            refine ⟨?_, ?_, ?_⟩
            · rw [List.pairwise_map]
              have := HSO.out.ap
              rw [List.pairwise_map] at this
              exact this
            · rw [List.pairwise_map]
              have := HTO.out.ap
              rw [List.pairwise_map] at this
              exact this
            · intro x hx y hy
              obtain ⟨x', hx', rfl⟩ := List.mem_map.1 hx
              obtain ⟨y', hy', rfl⟩ := List.mem_map.1 hy
              exact HDN.out x' hx' y' hy'
          have hoff : ∀ t ∈ (la.map entOf ++ lb.map entOf), ∀ k, blk t.a k → k < W.heap.size := by
            intro t ht k hk
            rcases List.mem_append.1 ht with ht | ht
            · obtain ⟨x, hx, rfl⟩ := List.mem_map.1 ht
              exact Nat.lt_of_lt_of_le (own_of_blk (HSO.out.nx x hx) hk).2 KA.out.size
            · obtain ⟨x, hx, rfl⟩ := List.mem_map.1 ht
              exact Nat.lt_of_lt_of_le (own_of_blk (HTO.out.nx x hx) hk).2 KA.out.size
          have hxl : ∀ t ∈ (la.map entOf ++ lb.map entOf), t.xs.length ≤ 3000000 := by
            intro t ht
            rcases List.mem_append.1 ht with ht | ht
            · obtain ⟨x, hx, rfl⟩ := List.mem_map.1 ht
              exact Nat.le_trans (HXN.out x hx) (by omega)
            · obtain ⟨x, hx, rfl⟩ := List.mem_map.1 ht
              exact Nat.le_trans (HXM.out x hx) (by omega)
          have hcall := apart_rows wr an cn w0.heap.size W.heap.size (la.map entOf ++ lb.map entOf) (by rw [hTl]; exact HR.out) hlow hdis hoff (Nat.le_trans HNW.out.size (KA.out.trans HN.out).size) (by rw [hTl]; omega) hxl
          rw [hTl] at hcall
          have HLOW := Lib.hid hlow
          clear hTl hlow hdis hoff hxl
          refine hcall.mono ?_
          rintro e w2 ⟨rfl, hk2⟩
          have hty : ∀ g, (∃ t ∈ (la.map entOf ++ lb.map entOf), blk t.a g) → ∃ cur tt fr, wr.heap[g]? = some (.cells cur tt fr) ∧ tt ≠ 42 ∧ tt ≠ 24 := fun g ⟨t, ht, hb⟩ => by
            obtain ⟨cur, hc⟩ := tab_tag (HLOW.out t ht) (own_blk hb)
            exact ⟨cur, _, _, hc, by decide, by decide⟩
          have hbx : ∀ (P : Nat) (cs : Array Value), wr.heap[P]? = some (.cells cs 24 (0, 0)) → w2.heap[P]? = some (.cells cs 24 (0, 0)) := fun P cs hP => hk2.heap hP (fun hx => by
            obtain ⟨cur, tt, fr, h1, _, h2⟩ := hty P hx
            rw [hP] at h1; cases h1; exact h2 rfl)
          have H0 : Hid (TwoS PB QB #[.string sn, .slice a n ca] #[.string tn, .slice b m cb] w0 w2 a n ca la b m cb lb) := Lib.hid (by
            have hk := KA.out.trans HN.out
            have hsl : la.length = n := HLA.out
            have htl : lb.length = m := HLB.out
            have oa := HSO.out.io
            have ob := HTO.out.io
            simp only at oa ob
            rw [hsl] at oa
            rw [htl] at ob
            exact ⟨New.keeps (HNW.out.trans hk) hk2 (fun i hi ⟨t, ht, hb⟩ => by have := (own_of_blk (HLOW.out t ht) hb).1; omega),
              own_oth (hk.owns oa) hk2 (fun g hg => by obtain ⟨cur, tt, fr, h1, h2, _⟩ := hty g hg; exact ⟨cur, tt, fr, h1, h2⟩),
              own_oth (hk.owns ob) hk2 (fun g hg => by obtain ⟨cur, tt, fr, h1, h2, _⟩ := hty g hg; exact ⟨cur, tt, fr, h1, h2⟩),
              HDI.out, hbx _ _ (Keeps.heap HN.out HA.out.1 (fun h => h)), hbx _ _ (Keeps.heap HN.out HA.out.2 (fun h => h))⟩)
          clear hty hbx hk2 hcall HLOW HR HN HA KA HSO HTO HDI HDN HXN HXM HNW
          go_wp2_with fail
          go_loopw [8] (fun x wr => ∃ i : Nat, i ≤ n ∧ x = .int .i64 i ∧ Hid (TwoS PB QB #[.string sn, .slice a n ca] #[.string tn, .slice b m cb] w0 wr a n ca (mkS 77 i ++ la.drop i) b m cb lb)) (fun x _ => n - (intOf x).toNat)
          case atStart => exact ⟨0, by omega, rfl, Lib.hid (by have := H0.out; simpa [mkS] using this)⟩
          case round =>
            clear H0
            obtain ⟨i, hi, rfl, HT⟩ := hrel
            obtain ⟨-, c1, -, -, hCl⟩ := sk_get HT.out.pb
            obtain ⟨-, d1, -, -, hDl⟩ := sk_get HT.out.qb
            by_cases hi1 : i < n
            · obtain ⟨g, hg, hfz, hgl⟩ := row_addrS HT.out.oa (by omega)
              have hl : i < (mkS 77 i ++ la.drop i).length := by rw [List.length_append, mkS_len, List.length_drop, HLA.out]; omega
              have ht := HT.out.storeA hg i hl (mk1 77 i)
              rw [mkS_next _ _ _ (by rw [HLA.out]; exact hi1)] at ht
              have z0 := hfz (i * 11)
              have z1 := hfz (i * 11 + 1)
              have z2 := hfz (i * 11 + 2)
              have z3 := hfz (i * 11 + 3)
              have z4 := hfz (i * 11 + 4)
              have z5 := hfz (i * 11 + 5)
              have z6 := hfz (i * 11 + 6)
              have z7 := hfz (i * 11 + 7)
              have z8 := hfz (i * 11 + 8)
              have z9 := hfz (i * 11 + 9)
              have z10 := hfz (i * 11 + 10)
              obtain ⟨bq, oq, e', q0, q1, q2, q3, q4, q5, q6, q7, q8, q9, q10⟩ := items_row (SlAt.of_owns HT.out.oa) hl
              have e9 := hg.symm.trans e'
              cases e9
              simp only [Nat.zero_add] at q0 q1 q2 q3 q4 q5 q6 q7 q8 q9 q10
              rw [hg] at c1
              have HGA := Lib.hid hg
              have hiI : (i : Int) < (n : Int) := by omega
              simp only [setItm, mk1, List.length_nil] at ht
              have HT2 := Lib.hid ht
              clear ht hfz e' hg
              go_wp2_with fail
              go_roundw
              case rel => exact ⟨i + 1, by omega, by go_num, HT2⟩
              case measure => simp [intOf]; omega
            · have hie : i = n := by omega
              have hiI : ¬ (i : Int) < (n : Int) := by omega
              have H0 : Hid (TwoS PB QB #[.string sn, .slice a n ca] #[.string tn, .slice b m cb] w0 wr a n ca (mkS 77 n) b m cb lb) := Lib.hid (by
                have := HT.out
                rw [hie, List.drop_of_length_le (by rw [HLA.out]; omega), List.append_nil] at this
                exact this)
              clear HT hie
              go_wp2_with fail
              clear c1 d1 hCl hDl
              go_loopw [9] (fun x wr => ∃ i : Nat, i ≤ m ∧ x = .int .i64 i ∧ Hid (TwoS PB QB #[.string sn, .slice a n ca] #[.string tn, .slice b m cb] w0 wr a n ca (mkS 77 n) b m cb (mkS 78 i ++ lb.drop i))) (fun x _ => m - (intOf x).toNat)
              case atStart => exact ⟨0, by omega, rfl, Lib.hid (by have := H0.out; simpa [mkS] using this)⟩
              case round =>
                clear H0
                obtain ⟨i, hi, rfl, HT⟩ := hrel
                obtain ⟨-, c1, -, -, hCl⟩ := sk_get HT.out.pb
                obtain ⟨-, d1, -, -, hDl⟩ := sk_get HT.out.qb
                by_cases hi1 : i < m
                · obtain ⟨g, hg, hfz, hgl⟩ := row_addrS HT.out.ob (by omega)
                  have hl : i < (mkS 78 i ++ lb.drop i).length := by rw [List.length_append, mkS_len, List.length_drop, HLB.out]; omega
                  have ht := HT.out.storeB hg i hl (mk1 78 i)
                  rw [mkS_next _ _ _ (by rw [HLB.out]; exact hi1)] at ht
                  have z0 := hfz (i * 11)
                  have z1 := hfz (i * 11 + 1)
                  have z2 := hfz (i * 11 + 2)
                  have z3 := hfz (i * 11 + 3)
                  have z4 := hfz (i * 11 + 4)
                  have z5 := hfz (i * 11 + 5)
                  have z6 := hfz (i * 11 + 6)
                  have z7 := hfz (i * 11 + 7)
                  have z8 := hfz (i * 11 + 8)
                  have z9 := hfz (i * 11 + 9)
                  have z10 := hfz (i * 11 + 10)
                  obtain ⟨bq, oq, e', q0, q1, q2, q3, q4, q5, q6, q7, q8, q9, q10⟩ := items_row (SlAt.of_owns HT.out.ob) hl
                  have e9 := hg.symm.trans e'
                  cases e9
                  simp only [Nat.zero_add] at q0 q1 q2 q3 q4 q5 q6 q7 q8 q9 q10
                  rw [hg] at d1
                  have HGA := Lib.hid hg
                  have hiI : (i : Int) < (m : Int) := by omega
                  simp only [setItm, mk1, List.length_nil] at ht
                  have HT2 := Lib.hid ht
                  clear ht hfz e' hg
                  go_wp2_with fail
                  go_roundw
                  case rel => exact ⟨i + 1, by omega, by go_num, HT2⟩
                  case measure => simp [intOf]; omega
                · have hie : i = m := by omega
                  have hiI : ¬ (i : Int) < (m : Int) := by omega
                  have H0 : Hid (FourS PB QB #[.string sn, .slice a n ca] #[.string tn, .slice b m cb] w0 wr a n ca b m cb a 0 ca b 0 cb) := Lib.hid (by
                    have := HT.out
                    rw [hie, List.drop_of_length_le (by rw [HLB.out]; omega), List.append_nil] at this
                    exact FourS.start this)
                  clear HT hie
                  go_wp2_with fail
                  clear c1 d1 hCl hDl
                  go_loopw [10, 12] (fun y x wr => ∃ (i : Nat) (ac : Option Addr) (cc : Nat), i ≤ 16 ∧ x = .int .i64 i ∧ y = .slice ac (n + i) cc ∧ Hid (FourS PB QB #[.string sn, .slice a n ca] #[.string tn, .slice b m cb] w0 wr a n ca b m cb ac i cc b 0 cb)) (fun _ x _ => 16 - (intOf x).toNat)
                  case atStart => exact ⟨0, a, ca, by omega, rfl, rfl, H0⟩
                  case round =>
                    clear H0
                    obtain ⟨i, ac, cc, hi, rfl, rfl, HF⟩ := hrel
                    by_cases hi1 : i < 16
                    · have hiI : (i : Int) < 16 := by omega
                      have hsz := HF.out.nw.size
                      have ka : New wr (wr.alloc (.cells #[.int .u8 79, .string ⟨#[]⟩, .string ⟨#[]⟩, .slice none 0 0, .string ⟨#[]⟩, I 0, I 0, .string ⟨#[]⟩, I 0, I 0, I (i : Int)] 42)) := (New.refl wr).alloc _
                      obtain ⟨XS, hXS⟩ : ∃ XS, (mkS 77 n ++ mkS 79 i).flatMap itCells = XS := ⟨_, rfl⟩
                      have hrow := ka.owns HF.out.oc
                      rw [hXS] at hrow
                      have HXS := Lib.hid hXS
                      clear hXS
                      go_wp2_with (at_builtin; refine wpList_app rfl _ _ 22 rfl w0.heap.size 42 i0 _ 11 136 Tryd.underlying22 hi0 hz0 hz1 hz2 rfl (by decide) ac (n + i) cc XS rfl hrow _ 1 1 (itCells (mk1 79 i)) rfl rfl (SlAt.lit _ _ _) (one_it _) (by unfold maxLen; omega) (by omega) (Nat.le_trans hsz ka.size) ?_)
                      intro a2 c2 w2 hown hk hmv hhd
                      rw [← HXS.out] at hown
                      have HF2 := Lib.hid (HF.out.appC ka hown hk hmv hhd)
                      clear hown hk hmv hhd ka hrow
                      go_wp2_with fail
                      go_roundw
                      case rel => exact ⟨i + 1, a2, c2, by omega, by go_num, by first | rfl | (congr 1), HF2⟩
                      case measure => simp [intOf]; omega
                    · have hie : i = 16 := by omega
                      subst hie
                      have hiI : ¬ ((16 : Nat) : Int) < 16 := by omega
                      obtain ⟨a1, rfl⟩ : ∃ x, x = ac := ⟨_, rfl⟩
                      obtain ⟨c1, rfl⟩ : ∃ x, x = cc := ⟨_, rfl⟩
                      have H0 := Lib.hid HF.out
                      obtain ⟨-, b1', -, -, hCl⟩ := sk_get HF.out.pb
                      obtain ⟨-, d1, -, -, hDl⟩ := sk_get HF.out.qb
                      clear HF
                      go_wp2_with fail
                      clear b1' d1 hCl hDl
                      go_loopw [11, 13] (fun y x wr => ∃ (i : Nat) (ac : Option Addr) (cc : Nat), i ≤ 16 ∧ x = .int .i64 i ∧ y = .slice ac (m + i) cc ∧ Hid (FourS PB QB #[.string sn, .slice a n ca] #[.string tn, .slice b m cb] w0 wr a n ca b m cb a1 16 c1 ac i cc)) (fun _ x _ => 16 - (intOf x).toNat)
                      case atStart => exact ⟨0, b, cb, by omega, rfl, rfl, H0⟩
                      case round =>
                        clear H0
                        obtain ⟨i, ac, cc, hi, rfl, rfl, HF⟩ := hrel
                        by_cases hi1 : i < 16
                        · have hiI : (i : Int) < 16 := by omega
                          have hsz := HF.out.nw.size
                          have ka : New wr (wr.alloc (.cells #[.int .u8 80, .string ⟨#[]⟩, .string ⟨#[]⟩, .slice none 0 0, .string ⟨#[]⟩, I 0, I 0, .string ⟨#[]⟩, I 0, I 0, I (i : Int)] 42)) := (New.refl wr).alloc _
                          obtain ⟨XS, hXS⟩ : ∃ XS, (mkS 78 m ++ mkS 80 i).flatMap itCells = XS := ⟨_, rfl⟩
                          have hrow := ka.owns HF.out.od
                          rw [hXS] at hrow
                          have HXS := Lib.hid hXS
                          clear hXS
                          go_wp2_with (at_builtin; refine wpList_app rfl _ _ 22 rfl w0.heap.size 42 i0 _ 11 136 Tryd.underlying22 hi0 hz0 hz1 hz2 rfl (by decide) ac (m + i) cc XS rfl hrow _ 1 1 (itCells (mk1 80 i)) rfl rfl (SlAt.lit _ _ _) (one_it _) (by unfold maxLen; omega) (by omega) (Nat.le_trans hsz ka.size) ?_)
                          intro a2 c2 w2 hown hk hmv hhd
                          rw [← HXS.out] at hown
                          have HF2 := Lib.hid (HF.out.appD ka hown hk hmv hhd)
                          clear hown hk hmv hhd ka hrow
                          go_wp2_with fail
                          go_roundw
                          case rel => exact ⟨i + 1, a2, c2, by omega, by go_num, by first | rfl | (congr 1), HF2⟩
                          case measure => simp [intOf]; omega
                        · have hie : i = 16 := by omega
                          subst hie
                          have hiI : ¬ ((16 : Nat) : Int) < 16 := by omega
                          obtain ⟨a2, rfl⟩ : ∃ x, x = ac := ⟨_, rfl⟩
                          obtain ⟨c2, rfl⟩ : ∃ x, x = cc := ⟨_, rfl⟩
                          have H0 := Lib.hid HF.out
                          obtain ⟨-, b1', -, -, hCl⟩ := sk_get HF.out.pb
                          obtain ⟨-, d1, -, -, hDl⟩ := sk_get HF.out.qb
                          clear HF
                          go_wp2_with fail
                          clear b1' d1 hCl hDl
                          go_loopw [14] (fun x wr => ∃ i : Nat, i ≤ n ∧ x = .int .i64 i ∧ Hid (FourS PB QB #[.string sn, .slice a n ca] #[.string tn, .slice b m cb] w0 wr a n ca b m cb a1 16 c1 a2 16 c2)) (fun x _ => n - (intOf x).toNat)
                          case atStart => exact ⟨0, by omega, rfl, H0⟩
                          case round =>
                            clear H0
                            obtain ⟨i, hi, rfl, HF⟩ := hrel
                            obtain ⟨-, k1, -, -, hCl⟩ := sk_get HF.out.pb
                            obtain ⟨-, d1, -, -, hDl⟩ := sk_get HF.out.qb
                            by_cases hi1 : i < n
                            · have hiI : (i : Int) < (n : Int) := by omega
                              obtain ⟨b1, o1, e1, q0, q10, hb1⟩ := mkS_at (SlAt.of_owns HF.out.oa) i 77 i (mkS_get? 77 n i hi1)
                              rw [e1] at k1
                              have hee : ((i : Int) == (i : Int)) = true := by simp
                              go_wp2_with fail
                              go_roundw
                              case rel => exact ⟨i + 1, by omega, by go_num, by first | exact HF | exact Lib.hid (HF.out.new ((New.refl _).drewN _))⟩
                              case measure => simp [intOf]; omega
                            · have hiI : ¬ (i : Int) < (n : Int) := by omega

                              have H0 := Lib.hid HF.out
                              go_wp2_with fail
                              clear k1 d1 hCl hDl HF
                              go_loopw [15] (fun x wr => ∃ i : Nat, i ≤ m ∧ x = .int .i64 i ∧ Hid (FourS PB QB #[.string sn, .slice a n ca] #[.string tn, .slice b m cb] w0 wr a n ca b m cb a1 16 c1 a2 16 c2)) (fun x _ => m - (intOf x).toNat)
                              case atStart => exact ⟨0, by omega, rfl, H0⟩
                              case round =>
                                clear H0
                                obtain ⟨i, hi, rfl, HF⟩ := hrel
                                obtain ⟨-, k1, -, -, hCl⟩ := sk_get HF.out.pb
                                obtain ⟨-, d1, -, -, hDl⟩ := sk_get HF.out.qb
                                by_cases hi1 : i < m
                                · have hiI : (i : Int) < (m : Int) := by omega
                                  obtain ⟨b1, o1, e1, q0, q10, hb1⟩ := mkS_at (SlAt.of_owns HF.out.ob) i 78 i (mkS_get? 78 m i hi1)
                                  rw [e1] at d1
                                  have hee : ((i : Int) == (i : Int)) = true := by simp
                                  go_wp2_with fail
                                  go_roundw
                                  case rel => exact ⟨i + 1, by omega, by go_num, by first | exact HF | exact Lib.hid (HF.out.new ((New.refl _).drewN _))⟩
                                  case measure => simp [intOf]; omega
                                · have hiI : ¬ (i : Int) < (m : Int) := by omega

                                  have H0 := Lib.hid HF.out
                                  go_wp2_with fail
                                  clear k1 d1 hCl hDl HF
                                  go_loopw [16] (fun x wr => ∃ i : Nat, i ≤ 16 ∧ x = .int .i64 i ∧ Hid (FourS PB QB #[.string sn, .slice a n ca] #[.string tn, .slice b m cb] w0 wr a n ca b m cb a1 16 c1 a2 16 c2)) (fun x _ => 16 - (intOf x).toNat)
                                  case atStart => exact ⟨0, by omega, rfl, H0⟩
                                  case round =>
                                    clear H0
                                    obtain ⟨i, hi, rfl, HF⟩ := hrel
                                    obtain ⟨-, k1, -, -, hCl⟩ := sk_get HF.out.pb
                                    obtain ⟨-, d1, -, -, hDl⟩ := sk_get HF.out.qb
                                    by_cases hi1 : i < 16
                                    · have hiI : (i : Int) < 16 := by omega
                                      obtain ⟨b1, o1, e1, q0, q10, hb1⟩ := mkS_at (SlAt.of_owns HF.out.oc) (n + i) 79 i (mkS_get2 77 79 n 16 i hi1)
                                      obtain ⟨b2, o2, e2, r0, r10, hb2⟩ := mkS_at (SlAt.of_owns HF.out.od) (m + i) 80 i (mkS_get2 78 80 m 16 i hi1)
                                      subst e1 e2
                                      have w1' : IntKind.i64.wrap ((n : Int) + (i : Int)) = ((n + i : Nat) : Int) := by rw [IntWalk.i64_in _ (by omega)]; omega
                                      have w2' : IntKind.i64.wrap ((m : Int) + (i : Int)) = ((m + i : Nat) : Int) := by rw [IntWalk.i64_in _ (by omega)]; omega
                                      have d1' : ((n + i : Nat) : Int) < ((n + 16 : Nat) : Int) := by omega
                                      have d2' : ((m + i : Nat) : Int) < ((m + 16 : Nat) : Int) := by omega
                                      have hee : ((i : Int) == (i : Int)) = true := by simp
                                      go_wp2_with fail
                                      go_roundw
                                      case rel => exact ⟨i + 1, by omega, by go_num, by first | exact HF | exact Lib.hid (HF.out.new ((New.refl _).drewN _))⟩
                                      case measure => simp [intOf]; omega
                                    · have hie : i = 16 := by omega
                                      subst hie
                                      have H0 := Lib.hid HF.out
                                      go_wp2_with fail
                                      clear k1 d1 hCl hDl HF
                                      (try go_ret)
                                      exact ⟨rfl, H0.out.nw⟩
end Go.Proofs.YtohalcbhckahmaaDoor
