/-
  Layer 20: what Decode defers; Decode.
-/
import Derived.Test.YtfmpjbiaamkobaaDoorCodeU
import Derived.Recover
import Derived.BigRegion
namespace Go.Proofs.YtfmpjbiaamkobaaDoor
open Go Go.RowKit Go.Joins
set_option linter.all false

/-- Two blocks that are written, and nothing else. -/
structure Two (W : World) (R0 R1 T0 T1 : Nat) (cs ds : Array Value) (w : World) : Prop where
  b0 : w.heap[R0]? = some (.cells cs T0 (0, 0))
  b1 : w.heap[R1]? = some (.cells ds T1 (0, 0))
  k : Keeps (fun k => k = R0 ∨ k = R1) W w
theorem Two.set0 {W w : World} {R0 R1 T0 T1 : Nat} {cs ds : Array Value} (h : Two W R0 R1 T0 T1 cs ds w) (hne : R0 ≠ R1) (i : Nat) (v : Value) : Two W R0 R1 T0 T1 (cs.setIfInBounds i v) ds (w.setCell ⟨R0, i, none⟩ v) :=
  have ks : Keeps (fun k => k = R0) w (w.setCell ⟨R0, i, none⟩ v) := Keeps.setCell w _ _ rfl
  ⟨block_setCell h.b0 v, ks.heap h.b1 (fun e => hne e.symm), h.k.trans ks (fun _ _ e => .inl e)⟩
theorem Two.set1 {W w : World} {R0 R1 T0 T1 : Nat} {cs ds : Array Value} (h : Two W R0 R1 T0 T1 cs ds w) (hne : R0 ≠ R1) (i : Nat) (v : Value) : Two W R0 R1 T0 T1 cs (ds.setIfInBounds i v) (w.setCell ⟨R1, i, none⟩ v) :=
  have ks : Keeps (fun k => k = R1) w (w.setCell ⟨R1, i, none⟩ v) := Keeps.setCell w _ _ rfl
  ⟨ks.heap h.b0 hne, block_setCell h.b1 v, h.k.trans ks (fun _ _ e => .inr e)⟩
theorem Two.drew {W w : World} {R0 R1 T0 T1 : Nat} {cs ds : Array Value} (h : Two W R0 R1 T0 T1 cs ds w) : Two W R0 R1 T0 T1 cs ds w.drew := ⟨h.b0, h.b1, h.k.trans (Keeps.drew _) (fun _ _ h => h)⟩

set_option maxRecDepth 100000 in
set_option maxHeartbeats 4000000 in
theorem catch_any (w : World) (R0 R1 : Nat) (x0 x1 x2 x3 x4 x5 x6 d0 d1 : Value) (c a : Int) (older : List PanicEntry) (hne : R0 ≠ R1)
    (h0 : w.heap[R0]? = some (.cells #[x0, x1, x2, x3, x4, x5, x6] 39 (0, 0))) (h1 : w.heap[R1]? = some (.cells #[d0, d1] 43 (0, 0))) :
    CallsD Tryd.prog 22 #[.pointer (some ⟨R0, 0, none⟩), .pointer (some ⟨R1, 0, none⟩)] (.panicking ({ v := .iface 43 (.agg #[I c, I a]), recovered := false } :: older)) w fun e u' w' =>
      e = .returned (.tuple #[]) ∧ u' = .panicking ({ v := .iface 43 (.agg #[I c, I a]), recovered := true } :: older) ∧
      w'.heap[R0]? = some (.cells #[I 0, I 0, I 0, I 0, .slice none 0 0, .slice none 0 0, .slice none 0 0] 39 (0, 0)) ∧ w'.heap[R1]? = some (.cells #[I c, I a] 43 (0, 0)) ∧ Keeps (fun k => k = R0 ∨ k = R1) w w' := by
  have g0 := cell_of_block h0 0
  have g1 := cell_of_block h0 1
  have g2 := cell_of_block h0 2
  have g3 := cell_of_block h0 3
  have g4 := cell_of_block h0 4
  have g5 := cell_of_block h0 5
  have g6 := cell_of_block h0 6
  have e0 := cell_of_block h1 0
  have e1 := cell_of_block h1 1
  have z0 := unfrozen_of_block h0 0
  have z1 := unfrozen_of_block h0 1
  have z2 := unfrozen_of_block h0 2
  have z3 := unfrozen_of_block h0 3
  have z4 := unfrozen_of_block h0 4
  have z5 := unfrozen_of_block h0 5
  have z6 := unfrozen_of_block h0 6
  have y0 := unfrozen_of_block h1 0
  have y1 := unfrozen_of_block h1 1
  simp only [List.getElem?_toArray, List.getElem?_cons_zero, List.getElem?_cons_succ] at g0 g1 g2 g3 g4 g5 g6 e0 e1
  have H0 := Lib.hid h0
  have H1 := Lib.hid h1
  clear h0 h1
  have hta : ∀ w : World, (Instr.typeAssert (.iface 43 (.agg #[I c, I a])) 20 43 false).run Tryd.prog w = .ok (.agg #[I c, I a]) w := fun _ => by first | rfl | kernel_rfl
  refine callsD_of_wpS Tryd.func22 rfl fun c₀ cs hu => ?_
  apply wpS_seq
  apply wpS_region
  simp [wpOpsS, go_sem, recoverD, hu, Tryd.ntmps22, Exit.thenS]
  refine wpS_of_wp ?_
  have ht : #[Value.pointer (some ⟨R0, 0, none⟩), Value.pointer (some ⟨R1, 0, none⟩)] ++ ((Array.replicate 7 undef).setIfInBounds 1 (Value.iface 43 (.agg #[I c, I a]))).setIfInBounds 0 (Value.iface 43 (.agg #[I c, I a]))
    = #[Value.pointer (some ⟨R0, 0, none⟩), Value.pointer (some ⟨R1, 0, none⟩), Value.iface 43 (.agg #[I c, I a]), Value.iface 43 (.agg #[I c, I a]), undef, undef, undef, undef, undef] := by rfl
  rw [ht]
  clear ht
  go_wp2_with fail
  go_region
  have ft := (((((((((Two.mk H0.out H1.out (Keeps.refl _ w)).set0 hne 0 (I 0)).set0 hne 1 (I 0)).set0 hne 2 (I 0)).set0 hne 3 (I 0)).set0 hne 4 (.slice none 0 0)).set0 hne 5 (.slice none 0 0)).set0 hne 6 (.slice none 0 0)).set1 hne 0 (I c)).set1 hne 1 (I a)
  have fd := ft.drew
  clear ft
  obtain ⟨wf, hwf⟩ : ∃ x, x = (((((((((w.setCell ⟨R0, 0, none⟩ (I 0)).setCell ⟨R0, 1, none⟩ (I 0)).setCell ⟨R0, 2, none⟩ (I 0)).setCell ⟨R0, 3, none⟩ (I 0)).setCell ⟨R0, 4, none⟩ (.slice none 0 0)).setCell ⟨R0, 5, none⟩ (.slice none 0 0)).setCell ⟨R0, 6, none⟩ (.slice none 0 0)).setCell ⟨R1, 0, none⟩ (I c)).setCell ⟨R1, 1, none⟩ (I a)).drew := ⟨_, rfl⟩
  rw [← hwf] at fd ⊢
  clear hwf
  obtain ⟨pd, qd, kd⟩ := fd
  have pd2 : wf.heap[R0]? = some (.cells #[I 0, I 0, I 0, I 0, .slice none 0 0, .slice none 0 0, .slice none 0 0] 39 (0, 0)) := by rw [pd]; simp
  have qd2 : wf.heap[R1]? = some (.cells #[I c, I a] 43 (0, 0)) := by rw [qd]; simp
  show bodyPostS _ _ _ _ _ _ _ _ _
  simp [bodyPostS, results, Tryd.results22, hu]
  exact ⟨pd2, qd2, kd⟩

set_option maxRecDepth 100000 in
theorem catch_idle (w : World) (p0 p1 : Value) :
    CallsD Tryd.prog 22 #[p0, p1] .returning w fun e u' w' => e = .returned (.tuple #[]) ∧ u' = .returning ∧ w' = w := by
  refine callsD_of_wpS Tryd.func22 rfl fun c₀ cs hu => ?_
  apply wpS_seq
  apply wpS_region
  simp [wpOpsS, go_sem, recoverD, hu, Tryd.ntmps22, Exit.thenS]
  refine wpS_of_wp ?_
  have ht : #[p0, p1] ++ ((Array.replicate 7 undef).setIfInBounds 1 Value.nilIface).setIfInBounds 0 Value.nilIface = #[p0, p1, Value.nilIface, Value.nilIface, undef, undef, undef, undef, undef] := by rfl
  rw [ht]
  clear ht
  go_wp2_with fail
  show bodyPostS _ _ _ _ _ _ _ _ _
  cases c₀
  simp_all [bodyPostS, results, Tryd.results22]

/-- What Decode hands out. -/
def Decoded (w : World) (res : Except (Int × Int) Pg) (e : Ending) (w' : World) : Prop := match res with
  | .error (c, a) => e = .returned (.tuple #[.agg #[I 0, I 0, I 0, I 0, .slice none 0 0, .slice none 0 0, .slice none 0 0], .agg #[I c, I a]]) ∧ New w w'
  | .ok p => ∃ q : Pg, q.bare = p ∧ e = .returned (.tuple #[q.v, .agg #[I 0, I 0]]) ∧ PgOwn w' w.heap.size q ∧ New w w'

theorem own_len {w : World} {B e size n c : Nat} {a : Option Addr} {xs : List Value} (h : w.ownsRow B e size (.slice a n c) n xs) : n ≤ 9223372036854775807 := by
  rcases h.2 with ⟨h0, h1⟩ | ⟨g, cap, cur, h0, hb, hg, hnc, hcm, _⟩
  · omega
  · unfold maxLen at hcm; omega
theorem lens_of {w : World} {B : Nat} {p : Pg} (h : PgOwn w B p) : Lens p :=
  ⟨own_len h.po, own_len h.lo, own_len h.oo, fun x hx => own_len (h.px x hx), fun x hx => own_len (h.lx x hx)⟩
theorem magic_iff (s : ByteArray) : (s.extract 0 4).toList = [80, 78, 76, 49] ↔ (bytesOf s).take 4 = [80, 78, 76, 49] := by
  rw [Lib.toList_data]
  have h1 : (s.extract 0 4).data.toList = s.data.toList.take 4 := by simp
  rw [h1]
  unfold bytesOf
  rw [← List.map_take]
  have h2 : ([80, 78, 76, 49] : List Int) = ([80, 78, 76, 49] : List UInt8).map (fun b => (b.toNat : Int)) := by decide
  rw [h2]
  refine ⟨fun h => by rw [h], fun h => ?_⟩
  have inj : ∀ (l m : List UInt8), l.map (fun b => (b.toNat : Int)) = m.map (fun b => (b.toNat : Int)) → l = m := by
    intro l
    induction l with
    | nil => intro m h; cases m with
      | nil => rfl
      | cons y m => simp at h
    | cons x l ih => intro m h; cases m with
      | nil => simp at h
      | cons y m =>
        simp only [List.map_cons, List.cons.injEq] at h
        have hx : x.toNat = y.toNat := by have := h.1; omega
        rw [ih m h.2, UInt8.toNat_inj.1 hx]
  exact inj _ _ h

set_option maxRecDepth 100000 in
set_option maxHeartbeats 8000000 in
theorem cdecode_any (w : World) (s : ByteArray) (hs : s.size ≤ 9223372036854775807) :
    Calls Tryd.prog 12 #[.string s] w (Decoded w (decodeR (bytesOf s))) := by
  have hmf : ∀ (fn : Fn) (first cap : Array Value) (w : World), (Instr.makeFunc fn first cap).run Tryd.prog w = .ok (.func fn first cap) w := fun _ _ _ _ => rfl
  by_cases h4 : s.size < 4
  · have hd := decode_magic (bytesOf s) (by rw [bytesOf_len]; exact h4)
    rw [hd]
    clear hd
    go_enter_defers Tryd.func12, Tryd.ntmps12
    go_wp2_with fail
    have hb0 : ((w.alloc (.cells #[I 0, I 0, I 0, I 0, .slice none 0 0, .slice none 0 0, .slice none 0 0] 39)).alloc (.cells #[I 0, I 0] 43)).heap[w.heap.size]? = some (.cells #[I 0, I 0, I 0, I 0, .slice none 0 0, .slice none 0 0, .slice none 0 0] 39 (0, 0)) := Keeps.heap (Keeps.alloc (S := fun _ => False) _ _) (heap_alloc_new w _) (fun h => h)
    have hb1 : ((w.alloc (.cells #[I 0, I 0, I 0, I 0, .slice none 0 0, .slice none 0 0, .slice none 0 0] 39)).alloc (.cells #[I 0, I 0] 43)).heap[w.heap.size + 1]? = some (.cells #[I 0, I 0] 43 (0, 0)) := by
      have := heap_alloc_new (w.alloc (.cells #[I 0, I 0, I 0, I 0, .slice none 0 0, .slice none 0 0, .slice none 0 0] 39)) (.cells #[I 0, I 0] 43)
      simpa using this
    have hN : New w ((w.alloc (.cells #[I 0, I 0, I 0, I 0, .slice none 0 0, .slice none 0 0, .slice none 0 0] 39)).alloc (.cells #[I 0, I 0] 43)) := ((New.refl w).alloc _).alloc _
    have hZ : ((w.alloc (.cells #[I 0, I 0, I 0, I 0, .slice none 0 0, .slice none 0 0, .slice none 0 0] 39)).alloc (.cells #[I 0, I 0] 43)).heap.size = w.heap.size + 2 := by simp
    generalize ((w.alloc (.cells #[I 0, I 0, I 0, I 0, .slice none 0 0, .slice none 0 0, .slice none 0 0] 39)).alloc (.cells #[I 0, I 0] 43)) = wf at hb0 hb1 hN hZ ⊢
    refine leaves_cons (f := 22) (args := #[.pointer (some ⟨w.heap.size, 0, none⟩), .pointer (some ⟨w.heap.size + 1, 0, none⟩)]) (by simp) (by simp [go_sem]) ?_
    refine (catch_any wf w.heap.size (w.heap.size + 1) _ _ _ _ _ _ _ _ _ 202 0 [] (by omega) hb0 hb1).mono ?_
    rintro e u' w'' ⟨rfl, rfl, h0, h1, hk⟩
    have g0 := cell_of_block h0 0
    have g1 := cell_of_block h0 1
    have g2 := cell_of_block h0 2
    have g3 := cell_of_block h0 3
    have g4 := cell_of_block h0 4
    have g5 := cell_of_block h0 5
    have g6 := cell_of_block h0 6
    have e0 := cell_of_block h1 0
    have e1 := cell_of_block h1 1
    simp only [List.getElem?_toArray, List.getElem?_cons_zero, List.getElem?_cons_succ] at g0 g1 g2 g3 g4 g5 g6 e0 e1
    simp [Leaves, settle, results, Tryd.results12, go_sem, g0, g1, g2, g3, g4, g5, g6, e0, e1]
    exact ⟨rfl, hN.keeps hk (fun i hi hb => by omega)⟩
  · by_cases hm : (bytesOf s).take 4 = [80, 78, 76, 49]
    · have hm2 : ((s.extract 0 4).toList == [80, 78, 76, 49]) = true := by simpa using (magic_iff s).2 hm
      obtain ⟨res, hre⟩ : ∃ x, decodeR (bytesOf s) = x := ⟨_, rfl⟩
      rw [hre]
      unfold decodeR at hre
      rw [if_neg (by simp [hm])] at hre
      have HRES := Lib.hid hre
      have h4' : 4 ≤ s.size := by omega
      clear hre hm h4
      go_enter_defers Tryd.func12, Tryd.ntmps12
      go_wp2_with fail
      have hb0 : ((w.alloc (.cells #[I 0, I 0, I 0, I 0, .slice none 0 0, .slice none 0 0, .slice none 0 0] 39)).alloc (.cells #[I 0, I 0] 43)).heap[w.heap.size]? = some (.cells #[I 0, I 0, I 0, I 0, .slice none 0 0, .slice none 0 0, .slice none 0 0] 39 (0, 0)) := Keeps.heap (Keeps.alloc (S := fun _ => False) _ _) (heap_alloc_new w _) (fun h => h)
      have hb1 : ((w.alloc (.cells #[I 0, I 0, I 0, I 0, .slice none 0 0, .slice none 0 0, .slice none 0 0] 39)).alloc (.cells #[I 0, I 0] 43)).heap[w.heap.size + 1]? = some (.cells #[I 0, I 0] 43 (0, 0)) := by
        have := heap_alloc_new (w.alloc (.cells #[I 0, I 0, I 0, I 0, .slice none 0 0, .slice none 0 0, .slice none 0 0] 39)) (.cells #[I 0, I 0] 43)
        simpa using this
      have hN : New w ((w.alloc (.cells #[I 0, I 0, I 0, I 0, .slice none 0 0, .slice none 0 0, .slice none 0 0] 39)).alloc (.cells #[I 0, I 0] 43)) := ((New.refl w).alloc _).alloc _
      have hZ : ((w.alloc (.cells #[I 0, I 0, I 0, I 0, .slice none 0 0, .slice none 0 0, .slice none 0 0] 39)).alloc (.cells #[I 0, I 0] 43)).heap.size = w.heap.size + 2 := by simp
      generalize ((w.alloc (.cells #[I 0, I 0, I 0, I 0, .slice none 0 0, .slice none 0 0, .slice none 0 0] 39)).alloc (.cells #[I 0, I 0] 43)) = wA at hb0 hb1 hN hZ ⊢
      have hcc : CurAt (wA.alloc (.cells #[.string s, I 4] 70)) (w.heap.size + 1 + 1) s ((bytesOf s).drop 4) := ⟨4, h4', rfl, by
        have := heap_alloc_new wA (.cells #[.string s, I 4] 70)
        rw [hZ] at this; exact this⟩
      have kA : New wA (wA.alloc (.cells #[.string s, I 4] 70)) := Keeps.alloc _ _
      replace hb0 := Keeps.heap kA hb0 (fun h => h)
      replace hb1 := Keeps.heap kA hb1 (fun h => h)
      replace hN := hN.trans kA
      have hZ2 : (wA.alloc (.cells #[.string s, I 4] 70)).heap.size = w.heap.size + 3 := by simp [hZ]
      generalize wA.alloc (.cells #[.string s, I 4] 70) = wB at hcc hb0 hb1 hN hZ2 ⊢
      clear kA hZ
      obtain ⟨G, hGe⟩ : ∃ G, G = w.heap.size + 1 + 1 := ⟨_, rfl⟩
      have hG2 : w.heap.size + 2 ≤ G := by omega
      rw [← hGe] at hcc ⊢
      clear hGe
      have hu := cprog_any wB G s ((bytesOf s).drop 4) hs hcc
      generalize progR ((bytesOf s).drop 4) = res2 at hu HRES
      cases res2 with
      | bad c k =>
        have hr := HRES.out
        simp only at hr
        subst hr
        refine hu.mono ?_
        rintro e wf ⟨rfl, hkw⟩
        replace hb0 := hkw.heap hb0 (by omega)
        replace hb1 := hkw.heap hb1 (by omega)
        replace hN := hN.keeps hkw (fun i hi e => by omega)
        rw [bytesOf_len]
        go_wp2
        unfold faultV
        refine leaves_cons (f := 22) (args := #[.pointer (some ⟨w.heap.size, 0, none⟩), .pointer (some ⟨w.heap.size + 1, 0, none⟩)]) (by simp) (by simp [go_sem]) ?_
        refine (catch_any wf w.heap.size (w.heap.size + 1) _ _ _ _ _ _ _ _ _ c ((s.size : Int) - k) [] (by omega) hb0 hb1).mono ?_
        rintro e u' w'' ⟨rfl, rfl, h0, h1, hk⟩
        have g0 := cell_of_block h0 0
        have g1 := cell_of_block h0 1
        have g2 := cell_of_block h0 2
        have g3 := cell_of_block h0 3
        have g4 := cell_of_block h0 4
        have g5 := cell_of_block h0 5
        have g6 := cell_of_block h0 6
        have e0 := cell_of_block h1 0
        have e1 := cell_of_block h1 1
        simp only [List.getElem?_toArray, List.getElem?_cons_zero, List.getElem?_cons_succ] at g0 g1 g2 g3 g4 g5 g6 e0 e1
        simp [Leaves, settle, results, Tryd.results12, go_sem, g0, g1, g2, g3, g4, g5, g6, e0, e1]
        exact ⟨rfl, hN.keeps hk (fun i hi hb => by omega)⟩
      | ok p r =>
        refine hu.mono ?_
        rintro e wf ⟨q, hq, rfl, hown, hcur, hkw⟩
        replace hb0 := hkw.heap hb0 (by omega)
        replace hb1 := hkw.heap hb1 (by omega)
        replace hN := hN.keeps hkw (fun i hi e => by omega)
        have hZ3 : w.heap.size + 3 ≤ wf.heap.size := by have := hkw.size; omega
        have cr0 := cell_of_block hb0 0
        have zr0 := unfrozen_of_block hb0 0
        simp only [List.getElem?_toArray, List.getElem?_cons_zero, List.getElem?_cons_succ] at cr0
        have cr1 := cell_of_block hb0 1
        have zr1 := unfrozen_of_block hb0 1
        simp only [List.getElem?_toArray, List.getElem?_cons_zero, List.getElem?_cons_succ] at cr1
        have cr2 := cell_of_block hb0 2
        have zr2 := unfrozen_of_block hb0 2
        simp only [List.getElem?_toArray, List.getElem?_cons_zero, List.getElem?_cons_succ] at cr2
        have cr3 := cell_of_block hb0 3
        have zr3 := unfrozen_of_block hb0 3
        simp only [List.getElem?_toArray, List.getElem?_cons_zero, List.getElem?_cons_succ] at cr3
        have cr4 := cell_of_block hb0 4
        have zr4 := unfrozen_of_block hb0 4
        simp only [List.getElem?_toArray, List.getElem?_cons_zero, List.getElem?_cons_succ] at cr4
        have cr5 := cell_of_block hb0 5
        have zr5 := unfrozen_of_block hb0 5
        simp only [List.getElem?_toArray, List.getElem?_cons_zero, List.getElem?_cons_succ] at cr5
        have cr6 := cell_of_block hb0 6
        have zr6 := unfrozen_of_block hb0 6
        simp only [List.getElem?_toArray, List.getElem?_cons_zero, List.getElem?_cons_succ] at cr6
        have hGR : G ≠ w.heap.size := by omega
        have hGR' : w.heap.size ≠ G := by omega
        obtain ⟨at_, hat, hdr, hgb⟩ := hcur
        have c1 := cell_of_block hgb 1
        simp only [List.getElem?_toArray, List.getElem?_cons_zero, List.getElem?_cons_succ] at c1
        have hfrom : (at_ : Int) = (s.size : Int) - (r.length : Int) := by
          have := congrArg List.length hdr
          rw [List.length_drop, bytesOf_len] at this
          omega
        have b0 := block_setCell (i := 0) hb0 (I q.mem)
        have b1 := block_setCell (i := 1) b0 (I q.ctr)
        have b2 := block_setCell (i := 2) b1 (I q.ins)
        have b3 := block_setCell (i := 3) b2 (I q.outs)
        have b4 := block_setCell (i := 4) b3 (.slice q.pa q.parts.length q.pc)
        have b5 := block_setCell (i := 5) b4 (.slice q.la q.lines.length q.lc)
        have b6 := block_setCell (i := 6) b5 (.slice q.oa q.ops.length q.oc)
        have hfk : Keeps (fun k => k = w.heap.size) wf (((((((wf.setCell ⟨w.heap.size, 0, none⟩ (I q.mem)).setCell ⟨w.heap.size, 1, none⟩ (I q.ctr)).setCell ⟨w.heap.size, 2, none⟩ (I q.ins)).setCell ⟨w.heap.size, 3, none⟩ (I q.outs)).setCell ⟨w.heap.size, 4, none⟩ (.slice q.pa q.parts.length q.pc)).setCell ⟨w.heap.size, 5, none⟩ (.slice q.la q.lines.length q.lc)).setCell ⟨w.heap.size, 6, none⟩ (.slice q.oa q.ops.length q.oc)) := (((((((Keeps.refl (fun k => k = w.heap.size) wf).trans (Keeps.setCell (S := fun k => k = w.heap.size) _ ⟨w.heap.size, 0, none⟩ (I q.mem) rfl) (fun _ _ h => h)).trans (Keeps.setCell (S := fun k => k = w.heap.size) _ ⟨w.heap.size, 1, none⟩ (I q.ctr) rfl) (fun _ _ h => h)).trans (Keeps.setCell (S := fun k => k = w.heap.size) _ ⟨w.heap.size, 2, none⟩ (I q.ins) rfl) (fun _ _ h => h)).trans (Keeps.setCell (S := fun k => k = w.heap.size) _ ⟨w.heap.size, 3, none⟩ (I q.outs) rfl) (fun _ _ h => h)).trans (Keeps.setCell (S := fun k => k = w.heap.size) _ ⟨w.heap.size, 4, none⟩ (.slice q.pa q.parts.length q.pc) rfl) (fun _ _ h => h)).trans (Keeps.setCell (S := fun k => k = w.heap.size) _ ⟨w.heap.size, 5, none⟩ (.slice q.la q.lines.length q.lc) rfl) (fun _ _ h => h)).trans (Keeps.setCell (S := fun k => k = w.heap.size) _ ⟨w.heap.size, 6, none⟩ (.slice q.oa q.ops.length q.oc) rfl) (fun _ _ h => h)
        have hfb : (((((((wf.setCell ⟨w.heap.size, 0, none⟩ (I q.mem)).setCell ⟨w.heap.size, 1, none⟩ (I q.ctr)).setCell ⟨w.heap.size, 2, none⟩ (I q.ins)).setCell ⟨w.heap.size, 3, none⟩ (I q.outs)).setCell ⟨w.heap.size, 4, none⟩ (.slice q.pa q.parts.length q.pc)).setCell ⟨w.heap.size, 5, none⟩ (.slice q.la q.lines.length q.lc)).setCell ⟨w.heap.size, 6, none⟩ (.slice q.oa q.ops.length q.oc)).heap[w.heap.size]? = some (.cells q.cs 39 (0, 0)) := by rw [b6]; simp
        have hfo : PgOwn (((((((wf.setCell ⟨w.heap.size, 0, none⟩ (I q.mem)).setCell ⟨w.heap.size, 1, none⟩ (I q.ctr)).setCell ⟨w.heap.size, 2, none⟩ (I q.ins)).setCell ⟨w.heap.size, 3, none⟩ (I q.outs)).setCell ⟨w.heap.size, 4, none⟩ (.slice q.pa q.parts.length q.pc)).setCell ⟨w.heap.size, 5, none⟩ (.slice q.la q.lines.length q.lc)).setCell ⟨w.heap.size, 6, none⟩ (.slice q.oa q.ops.length q.oc)) wB.heap.size q := hown.keeps hfk (Tagged.block hb0 (by unfold noT; decide))
        have hf1 := hfk.heap hb1 (by omega)
        have hfN : New w (((((((wf.setCell ⟨w.heap.size, 0, none⟩ (I q.mem)).setCell ⟨w.heap.size, 1, none⟩ (I q.ctr)).setCell ⟨w.heap.size, 2, none⟩ (I q.ins)).setCell ⟨w.heap.size, 3, none⟩ (I q.outs)).setCell ⟨w.heap.size, 4, none⟩ (.slice q.pa q.parts.length q.pc)).setCell ⟨w.heap.size, 5, none⟩ (.slice q.la q.lines.length q.lc)).setCell ⟨w.heap.size, 6, none⟩ (.slice q.oa q.ops.length q.oc)) := hN.keeps hfk (fun i hi e => by omega)
        clear b0 b1 b2 b3 b4 b5 b6 hgb hdr
        have hr := HRES.out
        simp only at hr
        by_cases hre : r = []
        · subst hre
          rw [if_neg (by simp)] at hr
          have hat2 : at_ = s.size := by simp at hfrom; omega
          subst hat2
          have HR := Lib.hid hr
          have HQ := Lib.hid hq
          clear hr hfrom hq
          go_wp2_with fail
          generalize (((((((wf.setCell ⟨w.heap.size, 0, none⟩ (I q.mem)).setCell ⟨w.heap.size, 1, none⟩ (I q.ctr)).setCell ⟨w.heap.size, 2, none⟩ (I q.ins)).setCell ⟨w.heap.size, 3, none⟩ (I q.outs)).setCell ⟨w.heap.size, 4, none⟩ (.slice q.pa q.parts.length q.pc)).setCell ⟨w.heap.size, 5, none⟩ (.slice q.la q.lines.length q.lc)).setCell ⟨w.heap.size, 6, none⟩ (.slice q.oa q.ops.length q.oc)) = W1 at hfk hfb hfo hf1 hfN ⊢
          have hst : stepsR q = stepsR p := by rw [← HQ.out, stepsR_bare]
          refine (ccheck_any W1 q hfo.at (lens_of hfo)).mono ?_
          rw [hst]
          obtain ⟨er, her⟩ : ∃ x, (stepsR p).2 = x := ⟨_, rfl⟩
          rw [her]
          replace HR : Hid ((if er ≠ 0 then Except.error (er, ((bytesOf s).length : Int)) else Except.ok p) = res) := Lib.hid (by rw [← her]; exact HR.out)
          clear her hst HRES
          rintro e W2 ⟨rfl, k2⟩
          have hb2 := Keeps.heap k2 hfb (fun h => h)
          have hb3 := Keeps.heap k2 hf1 (fun h => h)
          have hN2 := hfN.trans k2
          by_cases hs0 : er = 0
          · have hr := HR.out
            subst hs0
            rw [if_neg (by simp)] at hr
            subst hr
            have cs0 : W2.cell? ⟨w.heap.size, 0, none⟩ = some (I q.mem) := by rw [cell_of_block hb2 0]; simp
            have zs0 := unfrozen_of_block hb2 0
            have cs1 : W2.cell? ⟨w.heap.size, 1, none⟩ = some (I q.ctr) := by rw [cell_of_block hb2 1]; simp
            have zs1 := unfrozen_of_block hb2 1
            have cs2 : W2.cell? ⟨w.heap.size, 2, none⟩ = some (I q.ins) := by rw [cell_of_block hb2 2]; simp
            have zs2 := unfrozen_of_block hb2 2
            have cs3 : W2.cell? ⟨w.heap.size, 3, none⟩ = some (I q.outs) := by rw [cell_of_block hb2 3]; simp
            have zs3 := unfrozen_of_block hb2 3
            have cs4 : W2.cell? ⟨w.heap.size, 4, none⟩ = some (.slice q.pa q.parts.length q.pc) := by rw [cell_of_block hb2 4]; simp
            have zs4 := unfrozen_of_block hb2 4
            have cs5 : W2.cell? ⟨w.heap.size, 5, none⟩ = some (.slice q.la q.lines.length q.lc) := by rw [cell_of_block hb2 5]; simp
            have zs5 := unfrozen_of_block hb2 5
            have cs6 : W2.cell? ⟨w.heap.size, 6, none⟩ = some (.slice q.oa q.ops.length q.oc) := by rw [cell_of_block hb2 6]; simp
            have zs6 := unfrozen_of_block hb2 6
            have ct0 := cell_of_block hb3 0
            have zt0 := unfrozen_of_block hb3 0
            simp only [List.getElem?_toArray, List.getElem?_cons_zero, List.getElem?_cons_succ] at ct0
            have ct1 := cell_of_block hb3 1
            have zt1 := unfrozen_of_block hb3 1
            simp only [List.getElem?_toArray, List.getElem?_cons_zero, List.getElem?_cons_succ] at ct1
            clear cr0 cr1 cr2 cr3 cr4 cr5 cr6 zr0 zr1 zr2 zr3 zr4 zr5 zr6 c1
            go_wp2_with fail
            have ft := ((((((((((Two.mk hb2 hb3 (Keeps.refl _ W2)).set0 (by omega) 0 (I q.mem)).set0 (by omega) 1 (I q.ctr)).set0 (by omega) 2 (I q.ins)).set0 (by omega) 3 (I q.outs)).set0 (by omega) 4 (.slice q.pa q.parts.length q.pc)).set0 (by omega) 5 (.slice q.la q.lines.length q.lc)).set0 (by omega) 6 (.slice q.oa q.ops.length q.oc)).set1 (by omega) 0 (I 0)).set1 (by omega) 1 (I 0))
            generalize (((((((((W2.setCell ⟨w.heap.size, 0, none⟩ (I q.mem)).setCell ⟨w.heap.size, 1, none⟩ (I q.ctr)).setCell ⟨w.heap.size, 2, none⟩ (I q.ins)).setCell ⟨w.heap.size, 3, none⟩ (I q.outs)).setCell ⟨w.heap.size, 4, none⟩ (.slice q.pa q.parts.length q.pc)).setCell ⟨w.heap.size, 5, none⟩ (.slice q.la q.lines.length q.lc)).setCell ⟨w.heap.size, 6, none⟩ (.slice q.oa q.ops.length q.oc)).setCell ⟨w.heap.size + 1, 0, none⟩ (I 0)).setCell ⟨w.heap.size + 1, 1, none⟩ (I 0)) = wz at ft ⊢
            obtain ⟨pd, qd, kd⟩ := ft
            have pd2 : wz.heap[w.heap.size]? = some (.cells q.cs 39 (0, 0)) := by rw [pd]; simp
            have qd2 : wz.heap[w.heap.size + 1]? = some (.cells #[I 0, I 0] 43 (0, 0)) := by rw [qd]; simp
            have hzo : PgOwn wz wB.heap.size q := (hfo.new k2).keeps kd (fun g hg => by
              rcases hg with rfl | rfl
              · exact ⟨_, _, _, hb2, by unfold noT; decide⟩
              · exact ⟨_, _, _, hb3, by unfold noT; decide⟩)
            have hzN : New w wz := hN2.keeps kd (fun i hi hb => by omega)
            refine leaves_cons (f := 22) (args := #[.pointer (some ⟨w.heap.size, 0, none⟩), .pointer (some ⟨w.heap.size + 1, 0, none⟩)]) (by simp) (by simp [go_sem]) ?_
            refine (catch_idle wz _ _).mono ?_
            rintro e u' w'' ⟨rfl, rfl, rfl⟩
            have cf0 : w''.cell? ⟨w.heap.size, 0, none⟩ = some (I q.mem) := by rw [cell_of_block pd2 0]; simp
            have cf1 : w''.cell? ⟨w.heap.size, 1, none⟩ = some (I q.ctr) := by rw [cell_of_block pd2 1]; simp
            have cf2 : w''.cell? ⟨w.heap.size, 2, none⟩ = some (I q.ins) := by rw [cell_of_block pd2 2]; simp
            have cf3 : w''.cell? ⟨w.heap.size, 3, none⟩ = some (I q.outs) := by rw [cell_of_block pd2 3]; simp
            have cf4 : w''.cell? ⟨w.heap.size, 4, none⟩ = some (.slice q.pa q.parts.length q.pc) := by rw [cell_of_block pd2 4]; simp
            have cf5 : w''.cell? ⟨w.heap.size, 5, none⟩ = some (.slice q.la q.lines.length q.lc) := by rw [cell_of_block pd2 5]; simp
            have cf6 : w''.cell? ⟨w.heap.size, 6, none⟩ = some (.slice q.oa q.ops.length q.oc) := by rw [cell_of_block pd2 6]; simp
            have e0 := cell_of_block qd2 0
            have e1 := cell_of_block qd2 1
            simp only [List.getElem?_toArray, List.getElem?_cons_zero, List.getElem?_cons_succ] at e0 e1
            simp [Leaves, settle, results, Tryd.results12, go_sem, cf0, cf1, cf2, cf3, cf4, cf5, cf6, e0, e1]
            exact ⟨q, HQ.out, rfl, hzo.rebase (by omega), hzN⟩
          · have hr := HR.out
            rw [if_pos hs0] at hr
            rw [bytesOf_len] at hr
            subst hr
            have es0 : (er != 0) = true := by simpa using hs0
            clear hs0 HR HQ
            go_wp2_with fail
            refine leaves_cons (f := 22) (args := #[.pointer (some ⟨w.heap.size, 0, none⟩), .pointer (some ⟨w.heap.size + 1, 0, none⟩)]) (by simp) (by simp [go_sem]) ?_
            refine (catch_any W2 w.heap.size (w.heap.size + 1) _ _ _ _ _ _ _ _ _ er (s.size : Int) [] (by omega) hb2 hb3).mono ?_
            rintro e u' w'' ⟨rfl, rfl, h0, h1, hk⟩
            have g0 := cell_of_block h0 0
            have g1 := cell_of_block h0 1
            have g2 := cell_of_block h0 2
            have g3 := cell_of_block h0 3
            have g4 := cell_of_block h0 4
            have g5 := cell_of_block h0 5
            have g6 := cell_of_block h0 6
            have e0 := cell_of_block h1 0
            have e1 := cell_of_block h1 1
            simp only [List.getElem?_toArray, List.getElem?_cons_zero, List.getElem?_cons_succ] at g0 g1 g2 g3 g4 g5 g6 e0 e1
            simp [Leaves, settle, results, Tryd.results12, go_sem, g0, g1, g2, g3, g4, g5, g6, e0, e1]
            exact ⟨rfl, hN2.keeps hk (fun i hi hb => by omega)⟩
        · rw [if_pos hre, bytesOf_len] at hr
          subst hr
          have hlt : at_ < s.size := by
            have h1 : 0 < r.length := List.length_pos_iff.2 hre
            omega
          have HF := Lib.hid hfrom
          clear hfrom hre hq
          go_wp2_with fail
          generalize (((((((wf.setCell ⟨w.heap.size, 0, none⟩ (I q.mem)).setCell ⟨w.heap.size, 1, none⟩ (I q.ctr)).setCell ⟨w.heap.size, 2, none⟩ (I q.ins)).setCell ⟨w.heap.size, 3, none⟩ (I q.outs)).setCell ⟨w.heap.size, 4, none⟩ (.slice q.pa q.parts.length q.pc)).setCell ⟨w.heap.size, 5, none⟩ (.slice q.la q.lines.length q.lc)).setCell ⟨w.heap.size, 6, none⟩ (.slice q.oa q.ops.length q.oc)) = W1 at hfk hfb hfo hf1 hfN ⊢
          rw [← HF.out]
          refine leaves_cons (f := 22) (args := #[.pointer (some ⟨w.heap.size, 0, none⟩), .pointer (some ⟨w.heap.size + 1, 0, none⟩)]) (by simp) (by simp [go_sem]) ?_
          refine (catch_any W1 w.heap.size (w.heap.size + 1) _ _ _ _ _ _ _ _ _ 204 (at_ : Int) [] (by omega) hfb hf1).mono ?_
          rintro e u' w'' ⟨rfl, rfl, h0, h1, hk⟩
          have g0 := cell_of_block h0 0
          have g1 := cell_of_block h0 1
          have g2 := cell_of_block h0 2
          have g3 := cell_of_block h0 3
          have g4 := cell_of_block h0 4
          have g5 := cell_of_block h0 5
          have g6 := cell_of_block h0 6
          have e0 := cell_of_block h1 0
          have e1 := cell_of_block h1 1
          simp only [List.getElem?_toArray, List.getElem?_cons_zero, List.getElem?_cons_succ] at g0 g1 g2 g3 g4 g5 g6 e0 e1
          simp [Leaves, settle, results, Tryd.results12, go_sem, g0, g1, g2, g3, g4, g5, g6, e0, e1]
          exact ⟨rfl, hfN.keeps hk (fun i hi hb => by omega)⟩
    · have hm2 : ((s.extract 0 4).toList == [80, 78, 76, 49]) = false := by
        rcases hx : ((s.extract 0 4).toList == [80, 78, 76, 49]) with _ | _
        · rfl
        · exact absurd ((magic_iff s).1 (by simpa using hx)) hm
      have hd : decodeR (bytesOf s) = .error (202, 0) := by unfold decodeR; rw [if_pos hm]
      rw [hd]
      clear hd hm
      go_enter_defers Tryd.func12, Tryd.ntmps12
      go_wp2_with fail
      have hb0 : ((w.alloc (.cells #[I 0, I 0, I 0, I 0, .slice none 0 0, .slice none 0 0, .slice none 0 0] 39)).alloc (.cells #[I 0, I 0] 43)).heap[w.heap.size]? = some (.cells #[I 0, I 0, I 0, I 0, .slice none 0 0, .slice none 0 0, .slice none 0 0] 39 (0, 0)) := Keeps.heap (Keeps.alloc (S := fun _ => False) _ _) (heap_alloc_new w _) (fun h => h)
      have hb1 : ((w.alloc (.cells #[I 0, I 0, I 0, I 0, .slice none 0 0, .slice none 0 0, .slice none 0 0] 39)).alloc (.cells #[I 0, I 0] 43)).heap[w.heap.size + 1]? = some (.cells #[I 0, I 0] 43 (0, 0)) := by
        have := heap_alloc_new (w.alloc (.cells #[I 0, I 0, I 0, I 0, .slice none 0 0, .slice none 0 0, .slice none 0 0] 39)) (.cells #[I 0, I 0] 43)
        simpa using this
      have hN : New w ((w.alloc (.cells #[I 0, I 0, I 0, I 0, .slice none 0 0, .slice none 0 0, .slice none 0 0] 39)).alloc (.cells #[I 0, I 0] 43)) := ((New.refl w).alloc _).alloc _
      have hZ : ((w.alloc (.cells #[I 0, I 0, I 0, I 0, .slice none 0 0, .slice none 0 0, .slice none 0 0] 39)).alloc (.cells #[I 0, I 0] 43)).heap.size = w.heap.size + 2 := by simp
      generalize ((w.alloc (.cells #[I 0, I 0, I 0, I 0, .slice none 0 0, .slice none 0 0, .slice none 0 0] 39)).alloc (.cells #[I 0, I 0] 43)) = wf at hb0 hb1 hN hZ ⊢
      refine leaves_cons (f := 22) (args := #[.pointer (some ⟨w.heap.size, 0, none⟩), .pointer (some ⟨w.heap.size + 1, 0, none⟩)]) (by simp) (by simp [go_sem]) ?_
      refine (catch_any wf w.heap.size (w.heap.size + 1) _ _ _ _ _ _ _ _ _ 202 0 [] (by omega) hb0 hb1).mono ?_
      rintro e u' w'' ⟨rfl, rfl, h0, h1, hk⟩
      have g0 := cell_of_block h0 0
      have g1 := cell_of_block h0 1
      have g2 := cell_of_block h0 2
      have g3 := cell_of_block h0 3
      have g4 := cell_of_block h0 4
      have g5 := cell_of_block h0 5
      have g6 := cell_of_block h0 6
      have e0 := cell_of_block h1 0
      have e1 := cell_of_block h1 1
      simp only [List.getElem?_toArray, List.getElem?_cons_zero, List.getElem?_cons_succ] at g0 g1 g2 g3 g4 g5 g6 e0 e1
      simp [Leaves, settle, results, Tryd.results12, go_sem, g0, g1, g2, g3, g4, g5, g6, e0, e1]
      exact ⟨rfl, hN.keeps hk (fun i hi hb => by omega)⟩
end Go.Proofs.YtfmpjbiaamkobaaDoor
