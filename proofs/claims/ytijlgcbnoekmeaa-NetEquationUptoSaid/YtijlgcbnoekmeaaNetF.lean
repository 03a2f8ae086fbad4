/-
  Layer 10: weave.
-/
import Derived.Test.YtijlgcbnoekmeaaNetG
import Derived.Test.YtijlgcbnoekmeaaRegionX
import Derived.Deep.DeepCutAuto
import Derived.Deep.RegionLaw
import Derived.Deep.OwnRows
namespace Go.Proofs.Ytijlgcbnoekmeaa
open Go Go.RowKit
set_option linter.all false

theorem step_appN {P : Program} {w : World} {ops : Array Oper} {o : Oper} {a : Act} {K : Act → World → Prop} {Q : Exit → Act → World → Prop} {E : Prop} (hgd : o.guard = none) (s x : Operand) (t : TypeId)
    (ho : o.op = .call { callee := .builtin .append, args := #[s, x], argTypes := #[t, t] })
    (base : Nat) (e : TypeId) (i : TypeInfo) (z : Value) (size bytes : Nat) (ht : P.underlying t = some (.slice e)) (hi : P.info? e = some i) (hz : i.zero = some z)
    (hsize : i.size = size) (hby : i.bytes = bytes) (hzs : z.cells.size = size) (hsz : 0 < size)
    (ao : Option Addr) (n c : Nat) (xs : List Value) (hs : a.eval s = .slice ao n c) (hown : w.ownsRow base e size (.slice ao n c) n xs)
    (ad : Option Addr) (m cc : Nat) (news : List Value) (hx : a.eval x = .slice ad m cc) (hl : news.length = m * size) (hat : SlAt w ad news) (h1 : ∀ u ∈ news, u.oneCell' = true)
    (h63 : n + m ≤ maxLen) (hbytes : (n + m) * bytes ≤ 140737488355328) (hbase : base ≤ w.heap.size)
    (h : ∀ ao' c' w', w'.ownsRow base e size (.slice ao' (n + m) c') (n + m) (xs ++ news) → Keeps (blk ao) w w' → Moved w ao ao' → K (a.put o.dst (.slice ao' (n + m) c')) w') :
    if Region.wanted o (yielded ops a.tmps) = true then Oper.wp P o a w K Q else E := by
  have hw : Region.wanted o (yielded ops a.tmps) = true := by simp [Region.wanted, hgd]
  rw [if_pos hw]
  obtain ⟨ao', c', w', hr, h2, h3, h4, _⟩ := run_app (P := P) w base t o.type e i z size bytes ht hi hz hsize hby hzs hsz ao n c xs hown ad m cc news hl hat h1 h63 hbytes hbase
  unfold Oper.wp execOp
  simp only [ho, resolve, invoke, builtin, Sem.run_bind, Sem.run_pure, Result.andThen_ok, List.map_toArray, List.map_cons, List.map_nil, hs, hx, hr]
  exact h ao' c' w' h2 h3 h4

theorem upd_id {u : Nat → Value} {k : Nat} {v : Value} (h : u k = v) : upd u k v = u := by
  funext j; unfold upd; split
  · rename_i e; rw [e, h]
  · rfl
theorem heap_set {w : World} {g : Nat} {cs : Array Value} {e : TypeId} {fr : Nat × Nat} (h : w.heap[g]? = some (.cells cs e fr)) (o : Nat) (v : Value) :
    (w.setCell ⟨g, o, none⟩ v).heap[g]? = some (.cells (cs.setIfInBounds o v) e fr) := by
  have hlt := (Array.getElem?_eq_some_iff.1 h).1
  simp [World.setCell, Array.getElem?_modify, h]
theorem heap_store3 {w : World} {g : Nat} {x y z a b c : Value} {e : TypeId} {fr : Nat × Nat} (h : w.heap[g]? = some (.cells #[x, y, z] e fr)) :
    (((w.setCell ⟨g, 0, none⟩ a).setCell ⟨g, 1, none⟩ b).setCell ⟨g, 2, none⟩ c).heap[g]? = some (.cells #[a, b, c] e fr) := by
  rw [heap_set (heap_set (heap_set h 0 a) 1 b) 2 c]; rfl
theorem made_fresh {B m : Nat} (w : World) (hB : B ≤ w.heap.size) (hm : m ≤ maxLen) : freshRow B m (w.alloc (Obj.cells (madeCells #[Value.slice none 0 0] m) 37)) (.slice (some ⟨w.heap.size, 0, none⟩) m m) :=
  ⟨_, rfl, by simp, .inr ⟨w.heap.size, m, madeCells #[.slice none 0 0] m, rfl, hB, heap_alloc_new w _, Nat.le_refl _, hm, by rw [← Array.length_toList, toList_madeCells_one]; simp, by rw [toList_madeCells_one]; simp⟩⟩

/-- What weave has laid: a struct at g of the arcs' copy and two tables. -/
structure Wv (B m n : Nat) (xs : List Value) (w : World) (g : Nat) (a9 : Option Addr) (c9 L1 L2 : Nat) (A1 : Nat → Option Addr) (N1 C1 : Nat → Nat) (X1 : Nat → List Value)
    (A2 : Nat → Option Addr) (N2 C2 : Nat → Nat) (X2 : Nat → List Value) : Prop where
  hB : B ≤ g
  web : w.heap[g]? = some (.cells #[.slice a9 n c9, .slice (some ⟨L1, 0, none⟩) m m, .slice (some ⟨L2, 0, none⟩) m m] 69 (0, 0))
  arcs : w.ownsRow B 36 5 (.slice a9 n c9) n xs
  t1 : Tab w 37 3 B L1 m A1 N1 C1 X1
  t2 : Tab w 37 3 B L2 m A2 N2 C2 X2
  dis : ∀ k, tabBlk L1 m A1 k → ¬ tabBlk L2 m A2 k
  g1 : ¬ tabBlk L1 m A1 g
  g2 : ¬ tabBlk L2 m A2 g
  d1 : ∀ k, blk a9 k → ¬ tabBlk L1 m A1 k
  d2 : ∀ k, blk a9 k → ¬ tabBlk L2 m A2 k
  dg : ¬ blk a9 g

theorem tabBlk_none {L m k : Nat} (h : tabBlk L m (fun _ => none) k) : k = L := by
  rcases h with h | ⟨j, _, a, ha, _⟩
  · exact h
  · cases ha

theorem wv_made {B m n : Nat} {xs : List Value} {w : World} {v3 v9 v12 v15 : Value} (h9 : copyRow B n xs w v9) (h12 : freshRow B m w v12) (h15 : freshRow B m w v15) (hne : v12 ≠ v15) (h3 : webCell B #[v9, v12, v15] w v3) :
    ∃ g a9 c9 L1 L2, v3 = .pointer (some ⟨g, 0, none⟩) ∧ Wv B m n xs w g a9 c9 L1 L2 (fun _ => none) (fun _ => 0) (fun _ => 0) (fun _ => []) (fun _ => none) (fun _ => 0) (fun _ => 0) (fun _ => []) := by
  obtain ⟨a9, c9, rfl, o9⟩ := h9
  obtain ⟨L1, rfl, o1⟩ := h12
  obtain ⟨L2, rfl, o2⟩ := h15
  obtain ⟨g, rfl, hB, hg⟩ := h3
  obtain ⟨cu1, t1⟩ := own_tag o1 (k := L1) rfl
  obtain ⟨cu2, t2⟩ := own_tag o2 (k := L2) rfl
  have hA : ∀ k, blk a9 k → ∃ cur, w.heap[k]? = some (.cells cur 36 (0, 0)) := by
    rintro k ⟨x, rfl, rfl⟩
    exact own_tag o9 rfl
  refine ⟨g, a9, c9, L1, L2, rfl, ⟨hB, hg, o9, Tab.made o1, Tab.made o2, ?_, ?_, ?_, ?_, ?_, ?_⟩⟩
  · intro k h1 h2
    have e1 := tabBlk_none h1
    have e2 := tabBlk_none h2
    exact hne (by rw [← e1, ← e2])
  · intro h; have e := tabBlk_none h; rw [e, t1] at hg; simp at hg
  · intro h; have e := tabBlk_none h; rw [e, t2] at hg; simp at hg
  · intro k hk h; have e := tabBlk_none h; obtain ⟨cur, hc⟩ := hA k hk; rw [e, t1] at hc; simp at hc
  · intro k hk h; have e := tabBlk_none h; obtain ⟨cur, hc⟩ := hA k hk; rw [e, t2] at hc; simp at hc
  · intro hk; obtain ⟨cur, hc⟩ := hA g hk; rw [hg] at hc; simp at hc

section
variable {B m n : Nat} {xs : List Value} {w w1 : World} {g : Nat} {a9 : Option Addr} {c9 L1 L2 : Nat} {A1 : Nat → Option Addr} {N1 C1 : Nat → Nat} {X1 : Nat → List Value} {A2 : Nat → Option Addr} {N2 C2 : Nat → Nat} {X2 : Nat → List Value}

theorem Wv.keeps {S : Nat → Prop} {w' : World} (h : Wv B m n xs w g a9 c9 L1 L2 A1 N1 C1 X1 A2 N2 C2 X2) (k : Keeps S w w') (hS : ∀ x, B ≤ x → x < w.heap.size → ¬ S x) : Wv B m n xs w' g a9 c9 L1 L2 A1 N1 C1 X1 A2 N2 C2 X2 :=
  ⟨h.hB, k.heap h.web (hS _ h.hB (Array.getElem?_eq_some_iff.1 h.web).1), k.owns h.arcs (fun x hx => by have := World.ownsRow.lt h.arcs x hx; exact hS _ this.1 this.2),
    h.t1.keeps k (fun x hx => hS _ (h.t1.lt hx).1 (h.t1.lt hx).2), h.t2.keeps k (fun x hx => hS _ (h.t2.lt hx).1 (h.t2.lt hx).2), h.dis, h.g1, h.g2, h.d1, h.d2, h.dg⟩
theorem Wv.new {w' : World} (h : Wv B m n xs w g a9 c9 L1 L2 A1 N1 C1 X1 A2 N2 C2 X2) (k : New w w') : Wv B m n xs w' g a9 c9 L1 L2 A1 N1 C1 X1 A2 N2 C2 X2 := h.keeps k (fun _ _ _ h => h)

/-- One element more in a row of the first table. -/
theorem Wv.in1 (h : Wv B m n xs w g a9 c9 L1 L2 A1 N1 C1 X1 A2 N2 C2 X2) {i : Nat} (hi : i < m) (o : Obj) (a2 : Option Addr) (n2 c2 : Nat) (Y : List Value)
    (hown : w1.ownsRow B 3 1 (.slice a2 n2 c2) n2 Y) (hk : Keeps (blk (A1 i)) (w.alloc o) w1) (hm : Moved (w.alloc o) (A1 i) a2) :
    ((∃ v, w1.cell? ⟨L1, i, none⟩ = some v) ∧ w1.frozen? ⟨L1, i, none⟩ = false) ∧
    Wv B m n xs (w1.setCell ⟨L1, i, none⟩ (.slice a2 n2 c2)) g a9 c9 L1 L2 (fun j => if j = i then a2 else A1 j) (fun j => if j = i then n2 else N1 j) (fun j => if j = i then c2 else C1 j) (fun j => if j = i then Y else X1 j) A2 N2 C2 X2 ∧
    Keeps (tabBlk L1 m A1) w (w1.setCell ⟨L1, i, none⟩ (.slice a2 n2 c2)) := by
  obtain ⟨h1, h2, h3, h4⟩ := h.t1.app hi o a2 n2 c2 Y hown hk hm
  have hgl := (Array.getElem?_eq_some_iff.1 h.web).1
  have hal : ∀ k, blk a9 k → k < w.heap.size := fun k hk => (own_of_blk h.arcs hk).2
  refine ⟨h1, ⟨h.hB, h3.heap h.web h.g1, h3.owns h.arcs (fun x hx => h.d1 x (blk_of_own hx)), h2, h.t2.keeps h3 (fun x hx hs => h.dis x hs hx), ?_, ?_, h.g2, ?_, h.d2, h.dg⟩, h3⟩
  · intro k hk hk2
    rcases h4 k hk with h5 | h5
    · exact h.dis k h5 hk2
    · have := (h.t2.lt hk2).2; omega
  · intro hk
    rcases h4 g hk with h5 | h5
    · exact h.g1 h5
    · omega
  · intro k hk hk2
    rcases h4 k hk2 with h5 | h5
    · exact h.d1 k hk h5
    · have := hal k hk; omega

theorem Wv.in2 (h : Wv B m n xs w g a9 c9 L1 L2 A1 N1 C1 X1 A2 N2 C2 X2) {i : Nat} (hi : i < m) (o : Obj) (a2 : Option Addr) (n2 c2 : Nat) (Y : List Value)
    (hown : w1.ownsRow B 3 1 (.slice a2 n2 c2) n2 Y) (hk : Keeps (blk (A2 i)) (w.alloc o) w1) (hm : Moved (w.alloc o) (A2 i) a2) :
    ((∃ v, w1.cell? ⟨L2, i, none⟩ = some v) ∧ w1.frozen? ⟨L2, i, none⟩ = false) ∧
    Wv B m n xs (w1.setCell ⟨L2, i, none⟩ (.slice a2 n2 c2)) g a9 c9 L1 L2 A1 N1 C1 X1 (fun j => if j = i then a2 else A2 j) (fun j => if j = i then n2 else N2 j) (fun j => if j = i then c2 else C2 j) (fun j => if j = i then Y else X2 j) ∧
    Keeps (tabBlk L2 m A2) w (w1.setCell ⟨L2, i, none⟩ (.slice a2 n2 c2)) := by
  obtain ⟨h1, h2, h3, h4⟩ := h.t2.app hi o a2 n2 c2 Y hown hk hm
  have hgl := (Array.getElem?_eq_some_iff.1 h.web).1
  have hal : ∀ k, blk a9 k → k < w.heap.size := fun k hk => (own_of_blk h.arcs hk).2
  refine ⟨h1, ⟨h.hB, h3.heap h.web h.g2, h3.owns h.arcs (fun x hx => h.d2 x (blk_of_own hx)), h.t1.keeps h3 (fun x hx hs => h.dis x hx hs), h2, ?_, h.g1, ?_, h.d1, ?_, h.dg⟩, h3⟩
  · intro k hk1 hk
    rcases h4 k hk with h5 | h5
    · exact h.dis k hk1 h5
    · have := (h.t1.lt hk1).2; omega
  · intro hk
    rcases h4 g hk with h5 | h5
    · exact h.g2 h5
    · omega
  · intro k hk hk2
    rcases h4 k hk2 with h5 | h5
    · exact h.d2 k hk h5
    · have := hal k hk; omega
end

/-- The arcs below k that lead into j, out of j. -/
def inUp (arcs : List ArcD) (k j : Nat) : List Nat := (List.range k).filter fun i => decide ((arcAt arcs i).dst = (j : Int))
def outUp (arcs : List ArcD) (k j : Nat) : List Nat := (List.range k).filter fun i => decide ((arcAt arcs i).fr = (j : Int))
theorem Ns_app (l : List Nat) (k : Nat) : Ns (l ++ [k]) = Ns l ++ [I (k : Int)] := by simp [Ns]
theorem inUp_succ (arcs : List ArcD) (k t : Nat) (h : (arcAt arcs k).dst = (t : Int)) : (fun j => Ns (inUp arcs (k + 1) j)) = fun j => if j = t then Ns (inUp arcs k t) ++ [I (k : Int)] else Ns (inUp arcs k j) := by
  funext j
  unfold inUp
  rw [List.range_succ, List.filter_append]
  by_cases e : j = t
  · subst e; simp [h, Ns]
  · have : ¬ (t : Int) = (j : Int) := by omega
    simp [h, this, e]
theorem outUp_succ (arcs : List ArcD) (k t : Nat) (h : (arcAt arcs k).fr = (t : Int)) : (fun j => Ns (outUp arcs (k + 1) j)) = fun j => if j = t then Ns (outUp arcs k t) ++ [I (k : Int)] else Ns (outUp arcs k j) := by
  funext j
  unfold outUp
  rw [List.range_succ, List.filter_append]
  by_cases e : j = t
  · subst e; simp [h, Ns]
  · have : ¬ (t : Int) = (j : Int) := by omega
    simp [h, this, e]

theorem one1 (k : Nat) : ∀ u ∈ [Value.int .i64 (k : Int)], u.oneCell' = true := by intro u hu; simp at hu; subst hu; rfl
theorem lit1 (w : World) (v : Value) (e : TypeId) : SlAt (w.drew.alloc (.cells #[v] e)) (some ⟨w.heap.size, 0, none⟩) [v] := by
  intro i hi
  have : i = 0 := by simp at hi; omega
  subst this
  have h : (w.drew.alloc (.cells #[v] e)).heap[w.heap.size]? = some (.cells #[v] e) := heap_alloc_new w.drew _
  refine ⟨w.heap.size, 0, rfl, ?_⟩
  simp only [World.cell?, h]; rfl
theorem ownsRow_keepsN {w w' : World} {B : Nat} {e : TypeId} {size : Nat} {v : Value} {n : Nat} {xs : List Value} (h : w.ownsRow B e size v n xs) (k : New w w') : w'.ownsRow B e size v n xs := k.owns h

theorem hl_new (w : World) (o : Obj) (k : Nat) (h : k = w.heap.size) : (w.alloc o).heap[k]? = some o := by subst h; exact heap_alloc_new w o
theorem hl_old {w : World} {o x : Obj} {k : Nat} (h : w.heap[k]? = some x) : (w.alloc o).heap[k]? = some x := (Below.heap_alloc w o k (Array.getElem?_eq_some_iff.1 h).1).trans h
theorem hl_drew {w : World} {x : Obj} {k : Nat} (h : w.heap[k]? = some x) : w.drew.heap[k]? = some x := h
theorem own_empty {w : World} {B e size g : Nat} (hB : B ≤ g) (h : w.heap[g]? = some (.cells #[] e (0, 0))) : w.ownsRow B e size (.slice (some ⟨g, 0, none⟩) 0 0) 0 [] :=
  ⟨by simp, .inr ⟨g, 0, #[], rfl, hB, h, Nat.le_refl _, by decide, by simp, by simp⟩⟩

theorem keepN {W2 w1 : World} {a0 a1 : Addr} {x0 x1 : Value} (h0 : W2.cell? a0 = some x0) (h1 : W2.cell? a1 = some x1) (h : New W2 w1) : w1.cell? a0 = some x0 ∧ w1.cell? a1 = some x1 ∧ New W2 w1 := ⟨h.cell h0, h.cell h1, h⟩
theorem keepA {W2 w1 : World} {a0 a1 : Addr} {x0 x1 : Value} {o : Obj} (h0 : W2.cell? a0 = some x0) (h1 : W2.cell? a1 = some x1) (h : New W2 w1) : (w1.alloc o).cell? a0 = some x0 ∧ (w1.alloc o).cell? a1 = some x1 ∧ New W2 (w1.alloc o) := keepN h0 h1 (h.alloc _)

theorem Try.infoInts2 : (Try.prog.info? 37).map (fun i => (i.zero, i.size, i.bytes)) = some (some (.slice none 0 0), 1, 24) := by kernel_rfl

set_option maxRecDepth 100000 in
set_option maxHeartbeats 4000000 in
theorem weave_any (w : World) (nodes : Nat) (arcs : List ArcD) (ao : Option Addr) (c : Nat) (hs : Sound nodes arcs) (hx : SlAt w ao (arcsCells arcs)) :
    Calls Try.prog 32 #[.agg #[I nodes, .slice ao arcs.length c]] w fun e w' => ∃ g a9 c9 L1 L2 A1 N1 C1 A2 N2 C2, e = .returned (.agg #[.slice a9 arcs.length c9, .slice (some ⟨L1, 0, none⟩) nodes nodes, .slice (some ⟨L2, 0, none⟩) nodes nodes]) ∧
      Wv (w.heap.size + 2) nodes arcs.length (arcsCells arcs) w' g a9 c9 L1 L2 A1 N1 C1 (fun j => Ns (inUp arcs arcs.length j)) A2 N2 C2 (fun j => Ns (outUp arcs arcs.length j)) ∧ New w w' := by
  have hm := hs.m
  have hn := hs.n2
  obtain ⟨i0, hi, hz0, hz1, hz2⟩ := info_parts Try.infoArc
  have hmk := run_make_row' (P := Try.prog) 49 37 (.slice none 0 0) 24 Try.underlying49 Try.infoInts2 rfl .i64 .i64 nodes (by omega) (by omega)
  obtain ⟨iI, hiI, hzI, hsI, hbI⟩ := info_parts Try.infoInt
  have hlen := arcsCells_len arcs
  have HL := Lib.hid hlen
  clear hlen
  go_enter Try.func32, Try.ntmps32
  go_upto_region 1 with fail
  go_cut [3] (fun s w' => ∃ g a9 c9 L1 L2, s = .pointer (some ⟨g, 0, none⟩) ∧ Wv (w.heap.size + 2) nodes arcs.length (arcsCells arcs) w' g a9 c9 L1 L2 (fun _ => none) (fun _ => 0) (fun _ => 0) (fun _ => []) (fun _ => none) (fun _ => 0) (fun _ => 0) (fun _ => []) ∧
    New w w' ∧ w'.heap[w.heap.size + 1]? = some (.cells #[.slice none 0 0, .slice none 0 0, .slice none 0 0] 69 (0, 0)))
  case first =>
    have hb0 : ((w.alloc (.cells #[I nodes, .slice ao arcs.length c] 24)).alloc (.cells #[.slice none 0 0, .slice none 0 0, .slice none 0 0] 69)).cell? ⟨w.heap.size, 0, none⟩ = some (I nodes) := by
      rw [World.cell?_alloc_past _ _ _ (by simp)]; simp
    have hb1 : ((w.alloc (.cells #[I nodes, .slice ao arcs.length c] 24)).alloc (.cells #[.slice none 0 0, .slice none 0 0, .slice none 0 0] 69)).cell? ⟨w.heap.size, 1, none⟩ = some (.slice ao arcs.length c) := by
      rw [World.cell?_alloc_past _ _ _ (by simp)]; simp
    have hx2 := (hx.new (Keeps.alloc w (.cells #[I nodes, .slice ao arcs.length c] 24))).new (Keeps.alloc _ (.cells #[.slice none 0 0, .slice none 0 0, .slice none 0 0] 69))
    have hsz2 : ((w.alloc (.cells #[I nodes, .slice ao arcs.length c] 24)).alloc (.cells #[.slice none 0 0, .slice none 0 0, .slice none 0 0] 69)).heap.size = w.heap.size + 2 := by simp
    have hN2 : New w ((w.alloc (.cells #[I nodes, .slice ao arcs.length c] 24)).alloc (.cells #[.slice none 0 0, .slice none 0 0, .slice none 0 0] 69)) := ((New.refl w).alloc _).alloc _
    have hR2 : ((w.alloc (.cells #[I nodes, .slice ao arcs.length c] 24)).alloc (.cells #[.slice none 0 0, .slice none 0 0, .slice none 0 0] 69)).heap[w.heap.size + 1]? = some (.cells #[.slice none 0 0, .slice none 0 0, .slice none 0 0] 69 (0, 0)) := hl_new _ _ _ (by simp)
    generalize ((w.alloc (.cells #[I nodes, .slice ao arcs.length c] 24)).alloc (.cells #[.slice none 0 0, .slice none 0 0, .slice none 0 0] 69)) = W2 at hb0 hb1 hx2 hsz2 hN2 hR2
    refine wp_region_inv (fun l a w' => ∃ u : Nat → Value, a = ⟨#[.agg #[I ↑nodes, .slice ao arcs.length c], .pointer (some ⟨w.heap.size, 0, none⟩), .pointer (some ⟨w.heap.size + 1, 0, none⟩), u 3, undef, undef, u 6, u 7, u 8, u 9, u 10, u 11, u 12, u 13, u 14, u 15, u 16, undef, undef, undef, undef, undef, undef, undef, undef, undef, undef, undef, undef, undef, undef, undef, undef, undef, undef, undef, undef, undef, undef, undef, undef, undef, undef, undef, undef, undef, undef, undef, undef, undef, undef, undef, undef, undef, undef], []⟩ ∧ Mk3 w.heap.size nodes arcs.length c ao (arcsCells arcs) W2 l w' u) (by kernel_rfl) (by kernel_rfl) ?_ ?_ ?_
    · exact ⟨fun _ => undef, rfl, by constructor <;> first | exact (New.refl W2).drew | simp [On]⟩
    · rintro l a w1 i o hl ⟨u, rfl, h⟩ ho hun hdep K hK
      have hlt : i < 13 := (Array.getElem?_eq_some_iff.1 ho).1
      have hc0 : w1.cell? ⟨w.heap.size, 0, none⟩ = some (.int .i64 nodes) := h.new.cell hb0
      have hc1 : w1.cell? ⟨w.heap.size, 1, none⟩ = some (.slice ao arcs.length c) := h.new.cell hb1
      have hnot : ¬ On l i := by unfold On; rw [hun]; decide
      have hWs : W2.heap.size ≤ w1.heap.size := h.new.size
      match i, hlt with
      | 0, _ =>
        cases ho
        go_simp
        refine hK _ _ ⟨upd u 6 (.slice (some ⟨w1.heap.size, 0, none⟩) 0 0), rfl, (h.world ((New.refl w1).alloc _)).s0 hl ⟨_, rfl, hWs, heap_alloc_new _ _⟩⟩
      | 1, _ =>
        cases ho
        go_simp
        exact hK _ _ ⟨upd u 7 _, rfl, h.s1 hl⟩
      | 4, _ =>
        cases ho
        go_simp
        exact hK _ _ ⟨upd u 10 _, rfl, h.s4 hl⟩
      | 7, _ =>
        cases ho
        go_simp
        exact hK _ _ ⟨upd u 13 _, rfl, h.s7 hl⟩
      | 2, _ =>
        cases ho
        have e := h.f7 (hdep 0 _ rfl rfl)
        rw [e]
        go_simp
        exact hK _ _ ⟨upd (upd u 7 (.pointer (some ⟨w.heap.size, 1, none⟩))) 8 _, rfl, by rw [upd_id e]; exact h.s2 hl⟩
      | 5, _ =>
        cases ho
        have e := h.f10 (hdep 0 _ rfl rfl)
        rw [e]
        go_simp
        exact hK _ _ ⟨upd (upd u 10 (.pointer (some ⟨w.heap.size, 0, none⟩))) 11 _, rfl, by rw [upd_id e]; exact h.s5 hl⟩
      | 8, _ =>
        cases ho
        have e := h.f13 (hdep 0 _ rfl rfl)
        rw [e]
        go_simp
        exact hK _ _ ⟨upd (upd u 13 (.pointer (some ⟨w.heap.size, 0, none⟩))) 14 _, rfl, by rw [upd_id e]; exact h.s8 hl⟩
      | 3, _ =>
        cases ho
        have e8 := h.f8 (hdep 1 _ rfl rfl)
        have h0 := hdep 0 _ rfl rfl
        obtain ⟨g, e6, hg, hgo⟩ := h.f6 h0 hnot
        rw [e8, e6]
        refine step_appN rfl _ _ 22 rfl W2.heap.size 36 i0 _ 5 40 Try.underlying22 hi hz0 hz1 hz2 rfl (by decide) (some ⟨g, 0, none⟩) 0 0 [] rfl (own_empty hg hgo) ao arcs.length c (arcsCells arcs) rfl HL.out (hx2.new h.new) (oneCell_arcs _) (by unfold maxLen; omega) (by omega) hWs ?_
        intro ao' c' w' hown' hk' hmv
        refine hK _ _ ⟨upd (upd (upd u 8 (.slice ao arcs.length c)) 6 (.slice (some ⟨g, 0, none⟩) 0 0)) 9 (.slice ao' arcs.length c'), ?_, ?_⟩
        · simp [upd, Act.put]
        · rw [upd_id e8, upd_id e6]
          refine h.s3 hl hnot ⟨ao', c', rfl, ?_⟩ hk' ?_ ?_
          · simpa using hown'
          · rintro k ⟨x, hx, rfl⟩; cases hx; exact hg
          · rintro k ⟨x, hx, rfl⟩; cases hx; exact ⟨_, hgo⟩
      | 6, _ =>
        cases ho
        have e := h.f11 (hdep 0 _ rfl rfl)
        rw [e]
        go_simp
        exact hK _ _ ⟨upd (upd u 11 (.int .i64 nodes)) 12 _, rfl, by
          rw [upd_id e]
          exact (h.world ((New.refl w1).alloc _)).s6 hl hnot (made_fresh w1 hWs (by unfold maxLen; omega)) (fun ho => by
            obtain ⟨L, e, hL⟩ := h.f15 ho
            have := (World.ownsRow.lt hL L (by rw [e]; rfl)).2
            rw [e]; intro hh; cases hh; omega)⟩
      | 9, _ =>
        cases ho
        have e := h.f14 (hdep 0 _ rfl rfl)
        rw [e]
        go_simp
        exact hK _ _ ⟨upd (upd u 14 (.int .i64 nodes)) 15 _, rfl, by
          rw [upd_id e]
          exact (h.world ((New.refl w1).alloc _)).s9 hl hnot (made_fresh w1 hWs (by unfold maxLen; omega)) (fun ho => by
            obtain ⟨L, e, hL⟩ := h.f12 ho
            have := (World.ownsRow.lt hL L (by rw [e]; rfl)).2
            rw [e]; intro hh; cases hh; omega)⟩
      | 10, _ =>
        cases ho
        have h3 := hdep 0 _ rfl rfl
        have h6 := hdep 1 _ rfl rfl
        have h9 := hdep 2 _ rfl rfl
        obtain ⟨a9, c9, e9, -⟩ := h.f9 h3
        obtain ⟨L12, e12, -⟩ := h.f12 h6
        obtain ⟨L15, e15, -⟩ := h.f15 h9
        rw [e9, e12, e15]
        go_simp
        refine hK _ _ ⟨upd (upd (upd (upd u 9 (.slice a9 arcs.length c9)) 12 (.slice (some ⟨L12, 0, none⟩) nodes nodes)) 15 (.slice (some ⟨L15, 0, none⟩) nodes nodes)) 16 (.agg #[.slice a9 arcs.length c9, .slice (some ⟨L12, 0, none⟩) nodes nodes, .slice (some ⟨L15, 0, none⟩) nodes nodes]), rfl, ?_⟩
        rw [upd_id e9, upd_id e12, upd_id e15]
        have := h.s10 hl hnot h3 h6 h9
        rw [e9, e12, e15] at this
        exact this
      | 11, _ =>
        cases ho
        go_simp
        refine hK _ _ ⟨upd u 3 (.pointer (some ⟨w1.heap.size, 0, none⟩)), rfl, (h.world ((New.refl w1).alloc _)).s11 hl hnot ⟨_, rfl, hWs, heap_alloc_new _ _⟩⟩
      | 12, _ =>
        cases ho
        have h11 := hdep 0 _ rfl rfl
        have h10 := hdep 1 _ rfl rfl
        obtain ⟨g, e3, hg, hgo⟩ := h.f3 h11 hnot
        have e16 := h.f16 h10
        rw [e3, e16]
        have hd := h.d16 h10
        obtain ⟨a9, c9, e9, o9⟩ := h.f9 hd.1
        obtain ⟨L12, e12, o12⟩ := h.f12 hd.2.1
        obtain ⟨L15, e15, o15⟩ := h.f15 hd.2.2
        have k0 : w1.cell? ⟨g, 0, none⟩ = some (.slice none 0 0) := by simp [World.cell?, hgo]
        have k1 : w1.cell? ⟨g, 1, none⟩ = some (.slice none 0 0) := by simp [World.cell?, hgo]
        have k2 : w1.cell? ⟨g, 2, none⟩ = some (.slice none 0 0) := by simp [World.cell?, hgo]
        have z0 : ∀ o, w1.frozen? ⟨g, o, none⟩ = false := by intro o; simp [World.frozen?, hgo]
        rw [e9, e12, e15]
        go_simp
        refine hK _ _ ⟨upd (upd (upd (upd (upd u 3 (.pointer (some ⟨g, 0, none⟩))) 16 (.agg #[u 9, u 12, u 15])) 9 (.slice a9 arcs.length c9)) 12 (.slice (some ⟨L12, 0, none⟩) nodes nodes)) 15 (.slice (some ⟨L15, 0, none⟩) nodes nodes), ?_, ?_⟩
        · rw [e9, e12, e15]; rfl
        · rw [upd_id e3, upd_id e16, upd_id e9, upd_id e12, upd_id e15]
          refine h.s12 hl hd.1 h10 h11 ⟨g, e3, hg, ?_⟩ (S := fun k => k = g) ?_ (fun k hk => hk ▸ hg) (fun k hk => ⟨_, hk ▸ hgo⟩)
          · rw [e9, e12, e15]; exact heap_store3 hgo
          · exact ((Keeps.setCell (S := fun k => k = g) w1 ⟨g, 0, none⟩ _ rfl).trans (Keeps.setCell (S := fun k => k = g) _ ⟨g, 1, none⟩ _ rfl) (fun _ _ h => h)).trans (Keeps.setCell (S := fun k => k = g) _ ⟨g, 2, none⟩ _ rfl) (fun _ _ h => h)
    · rintro l a w1 ⟨u, rfl, h⟩ hall
      obtain ⟨g, a9, c9, L1, L2, e3, hW⟩ := wv_made (h.f9 (hall 3 (by decide))) (h.f12 (hall 6 (by decide))) (h.f15 (hall 9 (by decide))) (h.dis (hall 6 (by decide)) (hall 9 (by decide))) (h.f3' (hall 12 (by decide)))
      rw [hsz2] at hW
      rw [e3]
      simp only [Exit.then]
      rename_i hJ hK
      refine hK _ _ (hJ _ _ ?_)
      refine ⟨.pointer (some ⟨g, 0, none⟩), u 6, u 7, u 8, u 9, u 10, u 11, u 12, u 13, u 14, u 15, u 16, undef, undef, undef, undef, undef, undef, undef, undef, undef, undef, undef, undef, undef, undef, undef, undef, undef, undef, undef, undef, undef, undef, undef, undef, undef, undef, undef, undef, undef, undef, undef, undef, undef, undef, undef, ?_⟩
      exact ⟨⟨g, a9, c9, L1, L2, rfl, hW, hN2.trans h.new, Keeps.heap h.new hR2 (fun h => h)⟩, rfl⟩
  case rest =>
    obtain ⟨g, a9, c9, L1, L2, rfl, hW, hN, hR⟩ := hcut
    have hcw0 : wc.cell? ⟨g, 0, none⟩ = some (.slice a9 arcs.length c9) := by simp [World.cell?, hW.web]
    go_wp2
    clear hcw0 hmk
    go_loopw [20] (fun i wr => ∃ k : Nat, k ≤ arcs.length ∧ i = .int .i64 k ∧ (∃ A1 N1 C1 A2 N2 C2, Wv (w.heap.size + 2) nodes arcs.length (arcsCells arcs) wr g a9 c9 L1 L2 A1 N1 C1 (fun j => Ns (inUp arcs k j)) A2 N2 C2 (fun j => Ns (outUp arcs k j))) ∧
      New w wr ∧ wr.heap[w.heap.size + 1]? = some (.cells #[.slice none 0 0, .slice none 0 0, .slice none 0 0] 69 (0, 0))) (fun i _ => arcs.length - (intOf i).toNat)
    case atStart => exact ⟨0, Nat.zero_le _, rfl, ⟨_, _, _, _, _, _, by simpa [inUp, outUp, Ns] using hW⟩, hN, hR⟩
    case round =>
      clear hW hN hR
      obtain ⟨k, hk, rfl, ⟨A1, N1, C1, A2, N2, C2, hW⟩, hN, hR⟩ := hrel
      have hc0 : wr.cell? ⟨g, 0, none⟩ = some (.slice a9 arcs.length c9) := by simp [World.cell?, hW.web]
      have hc1 : wr.cell? ⟨g, 1, none⟩ = some (.slice (some ⟨L1, 0, none⟩) nodes nodes) := by simp [World.cell?, hW.web]
      have hc2 : wr.cell? ⟨g, 2, none⟩ = some (.slice (some ⟨L2, 0, none⟩) nodes nodes) := by simp [World.cell?, hW.web]
      by_cases hk1 : k < arcs.length
      · obtain ⟨b, off, rfl, q0, q1, q2, q3, q4⟩ := arcs_at (SlAt.of_owns hW.arcs) hk1
        have hmem := hs.fr _ (List.getElem_mem hk1)
        have hmem2 := hs.dst _ (List.getElem_mem hk1)
        generalize hx : arcs[k] = x at q0 q1 q2 q3 q4 hmem hmem2
        obtain ⟨f, hf, hfn⟩ : ∃ f : Nat, x.fr = f ∧ f < nodes := ⟨x.fr.toNat, by omega, by omega⟩
        obtain ⟨t, ht, htn⟩ : ∃ t : Nat, x.dst = t ∧ t < nodes := ⟨x.dst.toNat, by omega, by omega⟩
        rw [hf] at q0
        rw [ht] at q1
        go_wp2
        have htk := (hW.t1.cell htn).1
        have hfk := (hW.t2.cell hfn).1
        have hkk : k < 96 := by omega
        have hn1 : N1 t ≤ 96 := by
          have h1 := (hW.t1.row t htn).1
          have h2 : (inUp arcs k t).length ≤ (List.range k).length := List.length_filter_le _ _
          simp [Ns] at h1 h2; omega
        have hn2 : N2 f ≤ 96 := by
          have h1 := (hW.t2.row f hfn).1
          have h2 : (outUp arcs k f).length ≤ (List.range k).length := List.length_filter_le _ _
          simp [Ns] at h1 h2; omega
        have hsz : wr.heap.size < (wr.alloc (.cells #[.int .i64 f, .int .i64 t, .int .i64 x.give, .int .i64 x.take, .int .i64 x.start] 36)).heap.size := by simp
        have hold1 : ∀ k, tabBlk L1 nodes A1 k → k < wr.heap.size := fun k hk => (hW.t1.lt hk).2
        have hold2 : ∀ k, tabBlk L2 nodes A2 k → k < wr.heap.size := fun k hk => (hW.t2.lt hk).2
        have hBg := hW.hB
        have hgl : g < wr.heap.size := (Array.getElem?_eq_some_iff.1 hW.web).1
        have p0 : (wr.alloc (.cells #[.int .i64 f, .int .i64 t, .int .i64 x.give, .int .i64 x.take, .int .i64 x.start] 36)).cell? ⟨wr.heap.size, 0, none⟩ = some (.int .i64 f) := by simp
        have p1 : (wr.alloc (.cells #[.int .i64 f, .int .i64 t, .int .i64 x.give, .int .i64 x.take, .int .i64 x.start] 36)).cell? ⟨wr.heap.size, 1, none⟩ = some (.int .i64 t) := by simp
        have hNl : New wr (wr.alloc (.cells #[.int .i64 f, .int .i64 t, .int .i64 x.give, .int .i64 x.take, .int .i64 x.start] 36)) := (New.refl wr).alloc _
        have g1 := hNl.cell hc1
        have g2 := hNl.cell hc2
        have hW5 := hW.new hNl
        have ht5 := hNl.cell htk
        have hN5 := hN.trans hNl
        have hR5 := Keeps.heap hNl hR (fun h => h)
        have HW := Lib.hid hW5
        clear hW
        generalize wr.alloc (.cells #[.int .i64 f, .int .i64 t, .int .i64 x.give, .int .i64 x.take, .int .i64 x.start] 36) = W5 at hsz p0 p1 hNl g1 g2 HW ht5 hN5 hR5 hW5
        clear hW5 q0 q1 q2 q3 q4 hc0 hc1 hc2 htk hfk
        have hL1 : L1 < W5.heap.size := by have := hold1 L1 (.inl rfl); omega
        have hB5 : w.heap.size + 2 ≤ W5.heap.size := by omega
        have htI : (t : Int) < (nodes : Int) := by omega
        have ht0 : (0 : Int) ≤ (t : Int) := by omega
        have hSrow := (HW.out.t1.cell htn).1
        have hS0 : (fun w' => w'.cell? ⟨g, 1, none⟩ = some (.slice (some ⟨L1, 0, none⟩) nodes nodes) ∧ w'.cell? ⟨wr.heap.size, 1, none⟩ = some (.int .i64 t) ∧ w'.cell? ⟨L1, t, none⟩ = some (.slice (A1 t) (N1 t) (C1 t))) W5.drew := ⟨New.cell (New.refl W5).drew g1, New.cell (New.refl W5).drew p1, New.cell (New.refl W5).drew hSrow⟩
        refine wp_region_X (fun w' => w'.cell? ⟨g, 1, none⟩ = some (.slice (some ⟨L1, 0, none⟩) nodes nodes) ∧ w'.cell? ⟨wr.heap.size, 1, none⟩ = some (.int .i64 t) ∧ w'.cell? ⟨L1, t, none⟩ = some (.slice (A1 t) (N1 t) (C1 t))) [14] (by kernel_rfl) hS0 ?_
        refine anyX_take 0 (by kernel_rfl) (by kernel_rfl) (by kernel_rfl) (by kernel_rfl) (by kernel_rfl) hS0 ?_
        intro oi ho; cases ho
        refine ⟨?_, fun _ _ _ h => h, Or.inl ⟨by rfl, ?_⟩, ?_⟩; rotate_left 1
        · (intro wS hSw; (try dsimp only at hSw); obtain ⟨hS0, hS1, hS2⟩ := hSw; go_simp; try with_reducible rfl)
        simp only [Act.put, List.setIfInBounds_toArray, List.set_cons_zero, List.set_cons_succ]
        refine anyX_take 1 (by kernel_rfl) (by kernel_rfl) (by kernel_rfl) (by kernel_rfl) (by kernel_rfl) hS0 ?_
        intro oi ho; cases ho
        refine ⟨?_, fun _ _ _ h => h, Or.inl ⟨by rfl, ?_⟩, ?_⟩; rotate_left 1
        · (intro wS hSw; (try dsimp only at hSw); obtain ⟨hS0, hS1, hS2⟩ := hSw; go_simp; try with_reducible rfl)
        simp only [Act.put, List.setIfInBounds_toArray, List.set_cons_zero, List.set_cons_succ]
        refine anyX_take 2 (by kernel_rfl) (by kernel_rfl) (by kernel_rfl) (by kernel_rfl) (by kernel_rfl) hS0 ?_
        intro oi ho; cases ho
        refine ⟨?_, fun _ _ _ h => h, Or.inl ⟨by rfl, ?_⟩, ?_⟩; rotate_left 1
        · (intro wS hSw; (try dsimp only at hSw); obtain ⟨hS0, hS1, hS2⟩ := hSw; go_simp; try with_reducible rfl)
        simp only [Act.put, List.setIfInBounds_toArray, List.set_cons_zero, List.set_cons_succ]
        refine anyX_take 3 (by kernel_rfl) (by kernel_rfl) (by kernel_rfl) (by kernel_rfl) (by kernel_rfl) hS0 ?_
        intro oi ho; cases ho
        refine ⟨?_, fun _ _ _ h => h, Or.inl ⟨by rfl, ?_⟩, ?_⟩; rotate_left 1
        · (intro wS hSw; (try dsimp only at hSw); obtain ⟨hS0, hS1, hS2⟩ := hSw; go_simp; try with_reducible rfl)
        simp only [Act.put, List.setIfInBounds_toArray, List.set_cons_zero, List.set_cons_succ]
        refine anyX_take 4 (by kernel_rfl) (by kernel_rfl) (by kernel_rfl) (by kernel_rfl) (by kernel_rfl) hS0 ?_
        intro oi ho; cases ho
        refine ⟨?_, fun _ _ _ h => h, Or.inl ⟨by rfl, ?_⟩, ?_⟩; rotate_left 1
        · (intro wS hSw; (try dsimp only at hSw); obtain ⟨hS0, hS1, hS2⟩ := hSw; go_simp; try with_reducible rfl)
        simp only [Act.put, List.setIfInBounds_toArray, List.set_cons_zero, List.set_cons_succ]
        refine anyX_take 5 (by kernel_rfl) (by kernel_rfl) (by kernel_rfl) (by kernel_rfl) (by kernel_rfl) hS0 ?_
        intro oi ho; cases ho
        refine ⟨?_, fun _ _ _ h => h, Or.inl ⟨by rfl, ?_⟩, ?_⟩; rotate_left 1
        · (intro wS hSw; (try dsimp only at hSw); obtain ⟨hS0, hS1, hS2⟩ := hSw; go_simp; try with_reducible rfl)
        simp only [Act.put, List.setIfInBounds_toArray, List.set_cons_zero, List.set_cons_succ]
        refine anyX_take 6 (by kernel_rfl) (by kernel_rfl) (by kernel_rfl) (by kernel_rfl) (by kernel_rfl) hS0 ?_
        intro oi ho; cases ho
        refine ⟨?_, fun _ _ _ h => h, Or.inl ⟨by rfl, ?_⟩, ?_⟩; rotate_left 1
        · (intro wS hSw; (try dsimp only at hSw); obtain ⟨hS0, hS1, hS2⟩ := hSw; go_simp; try with_reducible rfl)
        simp only [Act.put, List.setIfInBounds_toArray, List.set_cons_zero, List.set_cons_succ]
        refine anyX_take 7 (by kernel_rfl) (by kernel_rfl) (by kernel_rfl) (by kernel_rfl) (by kernel_rfl) hS0 ?_
        intro oi ho; cases ho
        refine ⟨?_, fun _ _ _ h => h, Or.inl ⟨by rfl, ?_⟩, ?_⟩; rotate_left 1
        · (intro wS hSw; (try dsimp only at hSw); obtain ⟨hS0, hS1, hS2⟩ := hSw; go_simp; try with_reducible rfl)
        simp only [Act.put, List.setIfInBounds_toArray, List.set_cons_zero, List.set_cons_succ]
        refine anyX_take 8 (by kernel_rfl) (by kernel_rfl) (by kernel_rfl) (by kernel_rfl) (by kernel_rfl) hS0 ?_
        intro oi ho; cases ho
        refine ⟨?_, fun _ _ _ h => h, Or.inl ⟨by rfl, ?_⟩, ?_⟩; rotate_left 1
        · (intro wS hSw; (try dsimp only at hSw); obtain ⟨hS0, hS1, hS2⟩ := hSw; go_simp; try with_reducible rfl)
        simp only [Act.put, List.setIfInBounds_toArray, List.set_cons_zero, List.set_cons_succ]
        refine anyX_take 9 (by kernel_rfl) (by kernel_rfl) (by kernel_rfl) (by kernel_rfl) (by kernel_rfl) hS0 ?_
        intro oi ho; cases ho
        refine ⟨?_, fun _ _ _ h => h, Or.inl ⟨by rfl, ?_⟩, ?_⟩; rotate_left 1
        · (intro wS hSw; (try dsimp only at hSw); obtain ⟨hS0, hS1, hS2⟩ := hSw; go_simp; try with_reducible rfl)
        simp only [Act.put, List.setIfInBounds_toArray, List.set_cons_zero, List.set_cons_succ]
        refine anyX_take 10 (by kernel_rfl) (by kernel_rfl) (by kernel_rfl) (by kernel_rfl) (by kernel_rfl) hS0 ?_
        intro oi ho; cases ho
        refine ⟨?_, fun _ _ _ h => h, Or.inl ⟨by rfl, ?_⟩, ?_⟩; rotate_left 1
        · (intro wS hSw; (try dsimp only at hSw); obtain ⟨hS0, hS1, hS2⟩ := hSw; go_simp; try with_reducible rfl)
        simp only [Act.put, List.setIfInBounds_toArray, List.set_cons_zero, List.set_cons_succ]
        refine anyX_one 11 (by kernel_rfl) ?_
        intro oi ho; cases ho; intro K hK
        go_simp
        have hS1 : (fun w' => w'.cell? ⟨g, 1, none⟩ = some (.slice (some ⟨L1, 0, none⟩) nodes nodes) ∧ w'.cell? ⟨wr.heap.size, 1, none⟩ = some (.int .i64 t) ∧ w'.cell? ⟨L1, t, none⟩ = some (.slice (A1 t) (N1 t) (C1 t))) (W5.drew.alloc (.cells #[.int .i64 k] 3)) := ⟨New.cell ((New.refl W5).drew.alloc _) g1, New.cell ((New.refl W5).drew.alloc _) p1, New.cell ((New.refl W5).drew.alloc _) hSrow⟩
        refine hK _ _ (fun _ => hS1) ?_
        clear hK K
        refine anyX_one 12 (by kernel_rfl) ?_
        intro oi ho; cases ho; intro K hK
        refine step_appN rfl _ _ 37 rfl (w.heap.size + 2) 3 iI (.int .i64 0) 1 8 Try.underlying37 hiI hzI hsI hbI rfl (by decide) (A1 t) (N1 t) (C1 t) (Ns (inUp arcs k t)) rfl (ownsRow_keepsN (HW.out.t1.row t htn) ((New.refl W5).drew.alloc _)) (some ⟨W5.heap.size, 0, none⟩) 1 1 [.int .i64 k] rfl rfl (lit1 W5 _ _) (one1 k) (by unfold maxLen; omega) (by omega) (Nat.le_trans hB5 (New.size ((New.refl W5).drew.alloc _))) ?_
        intro ao' c' w' hown' hk' hmv
        obtain ⟨⟨⟨v0, hv0⟩, hfz⟩, hWn, hkn⟩ := (HW.out.new (New.refl W5).drew).in1 htn _ ao' (N1 t + 1) c' _ hown' hk' hmv
        have HWn := Lib.hid hWn
        have HKn := Lib.hid hkn
        clear hWn hkn
        have hS2 : (fun w' => w'.cell? ⟨g, 1, none⟩ = some (.slice (some ⟨L1, 0, none⟩) nodes nodes) ∧ w'.cell? ⟨wr.heap.size, 1, none⟩ = some (.int .i64 t) ∧ w'.cell? ⟨L1, t, none⟩ = some (.slice (A1 t) (N1 t) (C1 t))) w' := ⟨hk'.cell hS1.1 (fun hb => by have := HW.out.g1 (.inr ⟨t, htn, hb⟩); exact this), hk'.cell hS1.2.1 (fun hb => absurd (hold1 wr.heap.size (.inr ⟨t, htn, hb⟩)) (Nat.lt_irrefl _)), hk'.cell hS1.2.2 (fun hb => HW.out.t1.off t htn _ hb rfl)⟩
        refine hK _ _ (fun _ => hS2) ?_
        clear hK K
        refine anyX_take 13 (by kernel_rfl) (by kernel_rfl) (by kernel_rfl) (by kernel_rfl) (by kernel_rfl) hS2 ?_
        intro oi ho; cases ho
        refine ⟨?_, fun _ _ _ h => h, Or.inl ⟨by rfl, ?_⟩, ?_⟩; rotate_left 1
        · (intro wS hSw; (try dsimp only at hSw); obtain ⟨hS0, hS1, hS2⟩ := hSw; go_simp; try with_reducible rfl)
        simp only [Act.put, List.setIfInBounds_toArray, List.set_cons_zero, List.set_cons_succ]
        refine anyX_one 14 (by kernel_rfl) ?_
        intro oi ho; cases ho; intro K hK
        simp only [Act.put, List.setIfInBounds_toArray, List.set_cons_zero, List.set_cons_succ]
        go_simp
        refine hK _ _ (fun hx => by cases hx) ?_
        clear hK K
        refine anyX_done (by kernel_rfl) ?_
        (try simp only [Act.put, List.setIfInBounds_toArray, List.set_cons_zero, List.set_cons_succ])
        clear hS0 hS1 hS2 hSrow
        all_goals (try simp only [Exit.then])
        all_goals go_wp2
        all_goals
          have hk6 : Keeps (tabBlk L1 nodes A1) W5.drew (w'.setCell ⟨L1, t, none⟩ (.slice ao' (N1 t + 1) c')) := HKn.out
          have hW6 := HWn.out
          have p06 := hk6.cell (New.cell (New.refl W5).drew p0) (fun hb => absurd (hold1 wr.heap.size hb) (Nat.lt_irrefl _))
          have g26 := hk6.cell (New.cell (New.refl W5).drew g2) (fun hb => HW.out.g1 hb)
          have hN6 := (hN5.drew).keeps hk6 (fun x hx hb => by have := (HW.out.t1.lt hb).1; omega)
          have hR6 := hk6.heap (Keeps.heap (Keeps.drew (S := fun _ => False) W5) hR5 (fun h => h)) (fun hb => by have := (HW.out.t1.lt hb).1; omega)
          have hs6 : W5.heap.size ≤ _ := hk6.size
          have hf6 := (hW6.t2.cell hfn).1
          have hL2 : L2 < W5.heap.size := by have := hold2 L2 (.inl rfl); omega
          have HW6 := Lib.hid hW6
          clear hk6 hW6 HWn HKn hv0 hfz hown' hk' hmv
          generalize w'.setCell ⟨L1, t, none⟩ (.slice ao' (N1 t + 1) c') = W6 at *
          have q26 := g26
          have q06 := p06
          clear g1 p1 g26 p06
          have hIn := inUp_succ arcs k t (by simp [arcAt, hk1, hx, ht])
          have hOut := outUp_succ arcs k f (by simp [arcAt, hk1, hx, hf])
          rw [← hIn] at HW6
          have HO := Lib.hid hOut
          clear hIn hOut
          have hL26 : L2 < W6.heap.size := by omega
          have hfI : (f : Int) < (nodes : Int) := by omega
          have hf0 : (0 : Int) ≤ (f : Int) := by omega
          have hB6 : w.heap.size + 2 ≤ W6.heap.size := by omega
          have hSrow := (HW6.out.t2.cell hfn).1
          have hS0 : (fun w' => w'.cell? ⟨g, 2, none⟩ = some (.slice (some ⟨L2, 0, none⟩) nodes nodes) ∧ w'.cell? ⟨wr.heap.size, 0, none⟩ = some (.int .i64 f) ∧ w'.cell? ⟨L2, f, none⟩ = some (.slice (A2 f) (N2 f) (C2 f))) W6.drew := ⟨New.cell (New.refl W6).drew q26, New.cell (New.refl W6).drew q06, New.cell (New.refl W6).drew hSrow⟩
          refine wp_region_X (fun w' => w'.cell? ⟨g, 2, none⟩ = some (.slice (some ⟨L2, 0, none⟩) nodes nodes) ∧ w'.cell? ⟨wr.heap.size, 0, none⟩ = some (.int .i64 f) ∧ w'.cell? ⟨L2, f, none⟩ = some (.slice (A2 f) (N2 f) (C2 f))) [14] (by kernel_rfl) hS0 ?_
          refine anyX_take 0 (by kernel_rfl) (by kernel_rfl) (by kernel_rfl) (by kernel_rfl) (by kernel_rfl) hS0 ?_
          intro oi ho; cases ho
          refine ⟨?_, fun _ _ _ h => h, Or.inl ⟨by rfl, ?_⟩, ?_⟩; rotate_left 1
          · (intro wS hSw; (try dsimp only at hSw); obtain ⟨hS0, hS1, hS2⟩ := hSw; go_simp; try with_reducible rfl)
          simp only [Act.put, List.setIfInBounds_toArray, List.set_cons_zero, List.set_cons_succ]
          refine anyX_take 1 (by kernel_rfl) (by kernel_rfl) (by kernel_rfl) (by kernel_rfl) (by kernel_rfl) hS0 ?_
          intro oi ho; cases ho
          refine ⟨?_, fun _ _ _ h => h, Or.inl ⟨by rfl, ?_⟩, ?_⟩; rotate_left 1
          · (intro wS hSw; (try dsimp only at hSw); obtain ⟨hS0, hS1, hS2⟩ := hSw; go_simp; try with_reducible rfl)
          simp only [Act.put, List.setIfInBounds_toArray, List.set_cons_zero, List.set_cons_succ]
          refine anyX_take 2 (by kernel_rfl) (by kernel_rfl) (by kernel_rfl) (by kernel_rfl) (by kernel_rfl) hS0 ?_
          intro oi ho; cases ho
          refine ⟨?_, fun _ _ _ h => h, Or.inl ⟨by rfl, ?_⟩, ?_⟩; rotate_left 1
          · (intro wS hSw; (try dsimp only at hSw); obtain ⟨hS0, hS1, hS2⟩ := hSw; go_simp; try with_reducible rfl)
          simp only [Act.put, List.setIfInBounds_toArray, List.set_cons_zero, List.set_cons_succ]
          refine anyX_take 3 (by kernel_rfl) (by kernel_rfl) (by kernel_rfl) (by kernel_rfl) (by kernel_rfl) hS0 ?_
          intro oi ho; cases ho
          refine ⟨?_, fun _ _ _ h => h, Or.inl ⟨by rfl, ?_⟩, ?_⟩; rotate_left 1
          · (intro wS hSw; (try dsimp only at hSw); obtain ⟨hS0, hS1, hS2⟩ := hSw; go_simp; try with_reducible rfl)
          simp only [Act.put, List.setIfInBounds_toArray, List.set_cons_zero, List.set_cons_succ]
          refine anyX_take 4 (by kernel_rfl) (by kernel_rfl) (by kernel_rfl) (by kernel_rfl) (by kernel_rfl) hS0 ?_
          intro oi ho; cases ho
          refine ⟨?_, fun _ _ _ h => h, Or.inl ⟨by rfl, ?_⟩, ?_⟩; rotate_left 1
          · (intro wS hSw; (try dsimp only at hSw); obtain ⟨hS0, hS1, hS2⟩ := hSw; go_simp; try with_reducible rfl)
          simp only [Act.put, List.setIfInBounds_toArray, List.set_cons_zero, List.set_cons_succ]
          refine anyX_take 5 (by kernel_rfl) (by kernel_rfl) (by kernel_rfl) (by kernel_rfl) (by kernel_rfl) hS0 ?_
          intro oi ho; cases ho
          refine ⟨?_, fun _ _ _ h => h, Or.inl ⟨by rfl, ?_⟩, ?_⟩; rotate_left 1
          · (intro wS hSw; (try dsimp only at hSw); obtain ⟨hS0, hS1, hS2⟩ := hSw; go_simp; try with_reducible rfl)
          simp only [Act.put, List.setIfInBounds_toArray, List.set_cons_zero, List.set_cons_succ]
          refine anyX_take 6 (by kernel_rfl) (by kernel_rfl) (by kernel_rfl) (by kernel_rfl) (by kernel_rfl) hS0 ?_
          intro oi ho; cases ho
          refine ⟨?_, fun _ _ _ h => h, Or.inl ⟨by rfl, ?_⟩, ?_⟩; rotate_left 1
          · (intro wS hSw; (try dsimp only at hSw); obtain ⟨hS0, hS1, hS2⟩ := hSw; go_simp; try with_reducible rfl)
          simp only [Act.put, List.setIfInBounds_toArray, List.set_cons_zero, List.set_cons_succ]
          refine anyX_take 7 (by kernel_rfl) (by kernel_rfl) (by kernel_rfl) (by kernel_rfl) (by kernel_rfl) hS0 ?_
          intro oi ho; cases ho
          refine ⟨?_, fun _ _ _ h => h, Or.inl ⟨by rfl, ?_⟩, ?_⟩; rotate_left 1
          · (intro wS hSw; (try dsimp only at hSw); obtain ⟨hS0, hS1, hS2⟩ := hSw; go_simp; try with_reducible rfl)
          simp only [Act.put, List.setIfInBounds_toArray, List.set_cons_zero, List.set_cons_succ]
          refine anyX_take 8 (by kernel_rfl) (by kernel_rfl) (by kernel_rfl) (by kernel_rfl) (by kernel_rfl) hS0 ?_
          intro oi ho; cases ho
          refine ⟨?_, fun _ _ _ h => h, Or.inl ⟨by rfl, ?_⟩, ?_⟩; rotate_left 1
          · (intro wS hSw; (try dsimp only at hSw); obtain ⟨hS0, hS1, hS2⟩ := hSw; go_simp; try with_reducible rfl)
          simp only [Act.put, List.setIfInBounds_toArray, List.set_cons_zero, List.set_cons_succ]
          refine anyX_take 9 (by kernel_rfl) (by kernel_rfl) (by kernel_rfl) (by kernel_rfl) (by kernel_rfl) hS0 ?_
          intro oi ho; cases ho
          refine ⟨?_, fun _ _ _ h => h, Or.inl ⟨by rfl, ?_⟩, ?_⟩; rotate_left 1
          · (intro wS hSw; (try dsimp only at hSw); obtain ⟨hS0, hS1, hS2⟩ := hSw; go_simp; try with_reducible rfl)
          simp only [Act.put, List.setIfInBounds_toArray, List.set_cons_zero, List.set_cons_succ]
          refine anyX_take 10 (by kernel_rfl) (by kernel_rfl) (by kernel_rfl) (by kernel_rfl) (by kernel_rfl) hS0 ?_
          intro oi ho; cases ho
          refine ⟨?_, fun _ _ _ h => h, Or.inl ⟨by rfl, ?_⟩, ?_⟩; rotate_left 1
          · (intro wS hSw; (try dsimp only at hSw); obtain ⟨hS0, hS1, hS2⟩ := hSw; go_simp; try with_reducible rfl)
          simp only [Act.put, List.setIfInBounds_toArray, List.set_cons_zero, List.set_cons_succ]
          refine anyX_one 11 (by kernel_rfl) ?_
          intro oi ho; cases ho; intro K hK
          go_simp
          have hS1 : (fun w' => w'.cell? ⟨g, 2, none⟩ = some (.slice (some ⟨L2, 0, none⟩) nodes nodes) ∧ w'.cell? ⟨wr.heap.size, 0, none⟩ = some (.int .i64 f) ∧ w'.cell? ⟨L2, f, none⟩ = some (.slice (A2 f) (N2 f) (C2 f))) (W6.drew.alloc (.cells #[.int .i64 k] 3)) := ⟨New.cell ((New.refl W6).drew.alloc _) q26, New.cell ((New.refl W6).drew.alloc _) q06, New.cell ((New.refl W6).drew.alloc _) hSrow⟩
          refine hK _ _ (fun _ => hS1) ?_
          clear hK K
          refine anyX_one 12 (by kernel_rfl) ?_
          intro oi ho; cases ho; intro K hK
          refine step_appN rfl _ _ 37 rfl (w.heap.size + 2) 3 iI (.int .i64 0) 1 8 Try.underlying37 hiI hzI hsI hbI rfl (by decide) (A2 f) (N2 f) (C2 f) (Ns (outUp arcs k f)) rfl (ownsRow_keepsN (HW6.out.t2.row f hfn) ((New.refl W6).drew.alloc _)) (some ⟨W6.heap.size, 0, none⟩) 1 1 [.int .i64 k] rfl rfl (lit1 W6 _ _) (one1 k) (by unfold maxLen; omega) (by omega) (Nat.le_trans hB6 (New.size ((New.refl W6).drew.alloc _))) ?_
          intro ao' c' w' hown' hk' hmv
          obtain ⟨⟨⟨v0, hv0⟩, hfz⟩, hWn, hkn⟩ := (HW6.out.new (New.refl W6).drew).in2 hfn _ ao' (N2 f + 1) c' _ hown' hk' hmv
          have HWn := Lib.hid hWn
          have HKn := Lib.hid hkn
          clear hWn hkn
          have hS2 : (fun w' => w'.cell? ⟨g, 2, none⟩ = some (.slice (some ⟨L2, 0, none⟩) nodes nodes) ∧ w'.cell? ⟨wr.heap.size, 0, none⟩ = some (.int .i64 f) ∧ w'.cell? ⟨L2, f, none⟩ = some (.slice (A2 f) (N2 f) (C2 f))) w' := ⟨hk'.cell hS1.1 (fun hb => by have := HW6.out.g2 (.inr ⟨f, hfn, hb⟩); exact this), hk'.cell hS1.2.1 (fun hb => absurd (hold2 wr.heap.size (.inr ⟨f, hfn, hb⟩)) (Nat.lt_irrefl _)), hk'.cell hS1.2.2 (fun hb => HW6.out.t2.off f hfn _ hb rfl)⟩
          refine hK _ _ (fun _ => hS2) ?_
          clear hK K
          refine anyX_take 13 (by kernel_rfl) (by kernel_rfl) (by kernel_rfl) (by kernel_rfl) (by kernel_rfl) hS2 ?_
          intro oi ho; cases ho
          refine ⟨?_, fun _ _ _ h => h, Or.inl ⟨by rfl, ?_⟩, ?_⟩; rotate_left 1
          · (intro wS hSw; (try dsimp only at hSw); obtain ⟨hS0, hS1, hS2⟩ := hSw; go_simp; try with_reducible rfl)
          simp only [Act.put, List.setIfInBounds_toArray, List.set_cons_zero, List.set_cons_succ]
          refine anyX_one 14 (by kernel_rfl) ?_
          intro oi ho; cases ho; intro K hK
          simp only [Act.put, List.setIfInBounds_toArray, List.set_cons_zero, List.set_cons_succ]
          go_simp
          refine hK _ _ (fun hx => by cases hx) ?_
          clear hK K
          refine anyX_done (by kernel_rfl) ?_
          (try simp only [Act.put, List.setIfInBounds_toArray, List.set_cons_zero, List.set_cons_succ])
          clear hS0 hS1 hS2 hSrow
          all_goals (try simp only [Exit.then])
          all_goals
            have hk7 : Keeps (tabBlk L2 nodes A2) W6.drew (w'.setCell ⟨L2, f, none⟩ (.slice ao' (N2 f + 1) c')) := HKn.out
            have hW7 := HWn.out
            rw [← HO.out] at hW7
            have hN7 := (hN6.drew).keeps hk7 (fun x hx hb => by have := (HW6.out.t2.lt hb).1; omega)
            have hR7 := hk7.heap (Keeps.heap (Keeps.drew (S := fun _ => False) W6) hR6 (fun h => h)) (fun hb => by have := (HW6.out.t2.lt hb).1; omega)
            have HF := Lib.hid (And.intro hW7 (And.intro hN7 hR7))
            clear hk7 hW7 hN7 hR7 HWn HKn hv0 hfz hown' hk' hmv
            generalize w'.setCell ⟨L2, f, none⟩ (.slice ao' (N2 f + 1) c') = W7 at *
            go_wp2
            all_goals exact ⟨⟨k + 1, by omega, rfl, ⟨_, _, _, _, _, _, HF.out.1⟩, HF.out.2.1, HF.out.2.2⟩, by simp only [intOf]; omega⟩
      · have hke : k = arcs.length := by omega
        subst hke
        have r0 : wr.cell? ⟨w.heap.size + 1, 0, none⟩ = some (.slice none 0 0) := by simp [World.cell?, hR]
        have r1 : wr.cell? ⟨w.heap.size + 1, 1, none⟩ = some (.slice none 0 0) := by simp [World.cell?, hR]
        have r2 : wr.cell? ⟨w.heap.size + 1, 2, none⟩ = some (.slice none 0 0) := by simp [World.cell?, hR]
        have rz : ∀ o, wr.frozen? ⟨w.heap.size + 1, o, none⟩ = false := by intro o; simp [World.frozen?, hR]
        go_wp2
        have hkz := ((Keeps.setCell (S := fun k => k = w.heap.size + 1) wr ⟨w.heap.size + 1, 0, none⟩ (Value.slice a9 arcs.length c9) rfl).trans (Keeps.setCell (S := fun k => k = w.heap.size + 1) _ ⟨w.heap.size + 1, 1, none⟩ (Value.slice (some ⟨L1, 0, none⟩) nodes nodes) rfl) (fun _ _ h => h)).trans (Keeps.setCell (S := fun k => k = w.heap.size + 1) _ ⟨w.heap.size + 1, 2, none⟩ (Value.slice (some ⟨L2, 0, none⟩) nodes nodes) rfl) (fun _ _ h => h)
        (try simp only [Exit.inBlock, Exit.then])
        refine bodyPost_ret (results_cell_row rfl _ _ (w.heap.size + 1) 69 _ _ _ rfl (heap_store3 hR) Try.underlying69 rfl (by kernel_rfl)) rfl ⟨g, a9, c9, L1, L2, A1, N1, C1, A2, N2, C2, rfl, hW.keeps hkz (fun x hx _ hxe => by omega), hN.keeps hkz (fun x hx hxe => by omega)⟩

end Go.Proofs.Ytijlgcbnoekmeaa
