/-
  Layer 8: a graph in memory; the document's looks at ports and names.
-/
import Derived.Test.YtijlgcbnoekmeaaGrB
import Derived.Test.YtijlgcbnoekmeaaShapeO
namespace Go.Proofs.Ytijlgcbnoekmeaa
open Go Go.RowKit Go.Joins
set_option linter.all false

def actCells (x : GAct) : List Value := [.string x.name, .int .u8 x.tag, .slice x.a x.xs.length x.c]
def edgeCells (x : GEdge) : List Value := [I x.f, I x.fp, I x.t, I x.tp, .slice x.a x.xs.length x.c]
def portCells (x : GPort) : List Value := [.string x.name, I x.ac, I x.po]
abbrev Gr.cs (g : Gr) : Array Value := #[.string g.name, .slice g.aa g.acts.length g.ac, .slice g.ea g.edges.length g.ec, .slice g.ia g.ins.length g.ic, .slice g.oa g.outs.length g.oc]
abbrev Gr.v (g : Gr) : Value := .agg g.cs
/-- The graph lies in memory. -/
structure GrAt (w : World) (g : Gr) : Prop where
  sa : SlAt w g.aa (g.acts.flatMap actCells)
  se : SlAt w g.ea (g.edges.flatMap edgeCells)
  si : SlAt w g.ia (g.ins.flatMap portCells)
  so : SlAt w g.oa (g.outs.flatMap portCells)
  ax : ∀ x ∈ g.acts, SlAt w x.a (Is x.xs)
  ex : ∀ x ∈ g.edges, SlAt w x.a (Is x.xs)
theorem GrAt.new {w w' : World} {g : Gr} (h : GrAt w g) (k : New w w') : GrAt w' g := ⟨h.sa.new k, h.se.new k, h.si.new k, h.so.new k, fun x hx => (h.ax x hx).new k, fun x hx => (h.ex x hx).new k⟩
/-- No length is beyond an int; nor a text's. -/
structure GLen (g : Gr) : Prop where
  a : g.acts.length ≤ 9223372036854775807
  e : g.edges.length ≤ 9223372036854775807
  i : g.ins.length ≤ 9223372036854775807
  o : g.outs.length ≤ 9223372036854775807
  ax : ∀ x ∈ g.acts, x.xs.length ≤ 9223372036854775807 ∧ x.name.size ≤ 9223372036854775807
  ex : ∀ x ∈ g.edges, x.xs.length ≤ 9223372036854775807
  ix : ∀ x ∈ g.ins, x.name.size ≤ 9223372036854775807
  ox : ∀ x ∈ g.outs, x.name.size ≤ 9223372036854775807
  n : g.name.size ≤ 9223372036854775807

theorem row_at {α : Type} {f : α → List Value} {n : Nat} (hf : ∀ x, (f x).length = n) (hn : 0 < n) {w : World} {ao : Option Addr} {l : List α} (h : SlAt w ao (l.flatMap f)) {i : Nat} (hi : i < l.length) :
    ∃ b off, ao = some ⟨b, off, none⟩ ∧ ∀ j, j < n → w.cell? ⟨b, off + i * n + j, none⟩ = (f l[i])[j]? := by
  have hl := flat_len f n hf l
  have hlt : ∀ j, j < n → i * n + j < l.length * n := fun j hj => by
    have : (i + 1) * n ≤ l.length * n := Nat.mul_le_mul_right n hi
    rw [Nat.add_mul, Nat.one_mul] at this
    omega
  obtain ⟨b, off, e, _⟩ := h (i * n) (by have := hlt 0 hn; omega)
  refine ⟨b, off, e, fun j hj => ?_⟩
  obtain ⟨b', off', e', c⟩ := h.at (i := i * n + j) (by rw [hl]; exact hlt j hj)
  rw [e] at e'
  simp only [Option.some.injEq, Addr.mk.injEq, and_true] at e'
  obtain ⟨rfl, rfl⟩ := e'
  rw [Nat.add_assoc, c, ← flat_at f n hf l i j hi hj]
  exact (List.getElem?_eq_getElem _).symm
theorem acts_at {w : World} {ao : Option Addr} {l : List GAct} (h : SlAt w ao (l.flatMap actCells)) {i : Nat} (hi : i < l.length) :
    ∃ b off, ao = some ⟨b, off, none⟩ ∧ w.cell? ⟨b, off + i * 3, none⟩ = some (.string l[i].name) ∧ w.cell? ⟨b, off + i * 3 + 1, none⟩ = some (.int .u8 l[i].tag) ∧ w.cell? ⟨b, off + i * 3 + 2, none⟩ = some (.slice l[i].a l[i].xs.length l[i].c) := by
  obtain ⟨b, off, e, k⟩ := row_at (n := 3) (fun _ => rfl) (by decide) h hi
  exact ⟨b, off, e, k 0 (by decide), k 1 (by decide), k 2 (by decide)⟩
theorem gedges_at {w : World} {ao : Option Addr} {l : List GEdge} (h : SlAt w ao (l.flatMap edgeCells)) {i : Nat} (hi : i < l.length) :
    ∃ b off, ao = some ⟨b, off, none⟩ ∧ w.cell? ⟨b, off + i * 5, none⟩ = some (I l[i].f) ∧ w.cell? ⟨b, off + i * 5 + 1, none⟩ = some (I l[i].fp) ∧ w.cell? ⟨b, off + i * 5 + 2, none⟩ = some (I l[i].t) ∧ w.cell? ⟨b, off + i * 5 + 3, none⟩ = some (I l[i].tp) ∧ w.cell? ⟨b, off + i * 5 + 4, none⟩ = some (.slice l[i].a l[i].xs.length l[i].c) := by
  obtain ⟨b, off, e, k⟩ := row_at (n := 5) (fun _ => rfl) (by decide) h hi
  exact ⟨b, off, e, k 0 (by decide), k 1 (by decide), k 2 (by decide), k 3 (by decide), k 4 (by decide)⟩
theorem ports_at {w : World} {ao : Option Addr} {l : List GPort} (h : SlAt w ao (l.flatMap portCells)) {i : Nat} (hi : i < l.length) :
    ∃ b off, ao = some ⟨b, off, none⟩ ∧ w.cell? ⟨b, off + i * 3, none⟩ = some (.string l[i].name) ∧ w.cell? ⟨b, off + i * 3 + 1, none⟩ = some (I l[i].ac) ∧ w.cell? ⟨b, off + i * 3 + 2, none⟩ = some (I l[i].po) := by
  obtain ⟨b, off, e, k⟩ := row_at (n := 3) (fun _ => rfl) (by decide) h hi
  exact ⟨b, off, e, k 0 (by decide), k 1 (by decide), k 2 (by decide)⟩
theorem any_next {α : Type} {p : α → Bool} {l : List α} {k : Nat} (hk : k < l.length) (h : (l.take k).any p = false) (hx : p l[k] = false) : (l.take (k + 1)).any p = false := by
  rw [List.take_succ_eq_append_getElem hk, List.any_append, h]; simp [hx]
theorem any_hit {α : Type} {p : α → Bool} {l : List α} {k e : Nat} (hk : k < l.length) (hke : k < e) (hx : p l[k] = true) : (l.take e).any p = true :=
  List.any_eq_true.2 ⟨l[k], by rw [List.mem_take_iff_getElem]; exact ⟨k, by omega, rfl⟩, hx⟩

set_option maxRecDepth 100000 in
set_option maxHeartbeats 4000000 in
theorem routTk_any (w : World) (g : Gr) (e o : Nat) (a p : Int) (hg : GrAt w g) (hl : GLen g) (he : e ≤ g.edges.length) (ho : o ≤ g.outs.length) :
    Calls Try.prog 70 #[g.v, I e, I o, I a, I p] w fun en w' => en = .returned (.bool (outTk g e o a p)) ∧ New w w' := by
  obtain ⟨A, hA⟩ : ∃ A, outTk g e o a p = A := ⟨_, rfl⟩
  rw [hA]
  unfold outTk at hA
  have HA := Lib.hid hA
  have hse := hg.se
  have hso := hg.so
  have hle := hl.e
  have hlo := hl.o
  clear hA hg hl
  obtain ⟨gname, gaa, gac, gacts, gea, gec, gedges, gia, gic, gins, goa, goc, gouts⟩ := g
  simp only at *
  simp only [Gr.v, Gr.cs]
  go_enter Try.func70, Try.ntmps70
  go_wp2_with fail
  have hN0 : New w (w.alloc (.cells #[.string gname, .slice gaa gacts.length gac, .slice gea gedges.length gec, .slice gia gins.length gic, .slice goa gouts.length goc] 63)) := (New.refl w).alloc _
  have hbx : (w.alloc (.cells #[.string gname, .slice gaa gacts.length gac, .slice gea gedges.length gec, .slice gia gins.length gic, .slice goa gouts.length goc] 63)).heap[w.heap.size]? = some (.cells #[.string gname, .slice gaa gacts.length gac, .slice gea gedges.length gec, .slice gia gins.length gic, .slice goa gouts.length goc] 63 (0, 0)) := heap_alloc_new w _
  generalize (w.alloc (.cells #[.string gname, .slice gaa gacts.length gac, .slice gea gedges.length gec, .slice gia gins.length gic, .slice goa gouts.length goc] 63)) = w0 at hN0 hbx ⊢
  have x2 : w0.cell? ⟨w.heap.size, 2, none⟩ = some (.slice gea gedges.length gec) := by rw [cell_of_block hbx 2]; simp
  have x4 : w0.cell? ⟨w.heap.size, 4, none⟩ = some (.slice goa gouts.length goc) := by rw [cell_of_block hbx 4]; simp
  clear hbx
  go_loopw [11] (fun i wr => ∃ k : Nat, k ≤ e ∧ i = .int .i64 k ∧ Hid ((gedges.take k).any (fun x => decide (x.f = a ∧ x.fp = p)) = false) ∧ New w0 wr) (fun i _ => e - (intOf i).toNat)
  case atStart => exact ⟨0, by omega, rfl, Lib.hid (by simp), New.refl _⟩
  case round =>
    obtain ⟨k, hk, rfl, HZ, hN⟩ := hrel
    have y := hN.cell x2
    by_cases hk1 : k < e
    · have hk2 : k < gedges.length := by omega
      obtain ⟨b, off, hab, q0, q1, q2, q3, q4⟩ := gedges_at (hse.new (hN0.trans hN)) hk2
      have hk3 : (k : Int) < (e : Int) := by omega
      have hk4 : (k : Int) < (gedges.length : Int) := by omega
      have hk5 : decide (k < e) = true := decide_eq_true hk1
      have hbw : b < wr.heap.size := World.block_lt_of_cell? wr _ q0
      rw [hab] at y
      clear hab
      have HIT : Hid (decide (gedges[k].f = a ∧ gedges[k].fp = p) = true → A = true) := Lib.hid (fun hx => by
        rw [← HA.out, any_hit (l := gedges) (p := fun x => decide (x.f = a ∧ x.fp = p)) hk2 hk1 hx]; simp)
      have NXT : Hid (decide (gedges[k].f = a ∧ gedges[k].fp = p) = false → (gedges.take (k + 1)).any (fun x => decide (x.f = a ∧ x.fp = p)) = false) := Lib.hid (fun hx => any_next (p := fun x => decide (x.f = a ∧ x.fp = p)) hk2 HZ.out hx)
      generalize gedges[k] = x at q0 q1 q2 q3 q4 HIT NXT
      by_cases h1 : x.f = a
      · have e1 : (x.f == a) = true := by simpa using h1
        by_cases h2 : x.fp = p
        · have e2 : (x.fp == p) = true := by simpa using h2
          have HT := Lib.hid (HIT.out (decide_eq_true ⟨h1, h2⟩))
          clear h1 h2 NXT HIT
          go_wp2_with fail
          go_ret
          exact ⟨by rw [HT.out]; rfl, hN0.trans hN⟩
        · have e2 : (x.fp == p) = false := by simpa using h2
          have HF := Lib.hid (NXT.out (decide_eq_false (fun h => h2 h.2)))
          clear h1 h2 NXT HIT
          go_wp2_with fail
          go_roundw
          case rel => exact ⟨k + 1, by omega, by go_num, HF, hN⟩
          case measure => simp [intOf]; omega
      · have e1 : (x.f == a) = false := by simpa using h1
        have HF := Lib.hid (NXT.out (decide_eq_false (fun h => h1 h.1)))
        clear h1 NXT HIT
        go_wp2_with fail
        go_roundw
        case rel => exact ⟨k + 1, by omega, by go_num, HF, hN⟩
        case measure => simp [intOf]; omega
    · have hke : k = e := by omega
      have hd9 : decide (k < e) = false := decide_eq_false hk1
      rw [hke] at HZ
      clear hke hk hk1
      have HZ1 := HZ
      have hN1 := hN0.trans hN
      have x4' := hN.cell x4
      clear HZ y
      go_wp2_with fail
      obtain ⟨wo, rfl⟩ : ∃ wo, wo = wr := ⟨_, rfl⟩
      clear hN0 hN x4 x2
      have hN0 := hN1
      have x4 := x4'
      clear hN1 x4' 
      go_loopw [12] (fun i wr => ∃ k : Nat, k ≤ o ∧ i = .int .i64 k ∧ Hid ((gouts.take k).any (fun x => decide (x.ac = a ∧ x.po = p)) = false) ∧ New wo wr) (fun i _ => o - (intOf i).toNat)
      case atStart => exact ⟨0, by omega, rfl, Lib.hid (by simp), New.refl _⟩
      case round =>
        obtain ⟨k, hk, rfl, HZ, hN⟩ := hrel
        have y := hN.cell x4
        by_cases hk1 : k < o
        · have hk2 : k < gouts.length := by omega
          obtain ⟨b, off, hab, q0, q1, q2⟩ := ports_at (hso.new (hN0.trans hN)) hk2
          have hk3 : (k : Int) < (o : Int) := by omega
          have hk4 : (k : Int) < (gouts.length : Int) := by omega
          have hk5 : decide (k < o) = true := decide_eq_true hk1
          have hbw : b < wr.heap.size := World.block_lt_of_cell? wr _ q0
          rw [hab] at y
          clear hab
          have HIT : Hid (decide (gouts[k].ac = a ∧ gouts[k].po = p) = true → A = true) := Lib.hid (fun hx => by
            rw [← HA.out, any_hit (l := gouts) (p := fun x => decide (x.ac = a ∧ x.po = p)) hk2 hk1 hx]; simp)
          have NXT : Hid (decide (gouts[k].ac = a ∧ gouts[k].po = p) = false → (gouts.take (k + 1)).any (fun x => decide (x.ac = a ∧ x.po = p)) = false) := Lib.hid (fun hx => any_next (p := fun x => decide (x.ac = a ∧ x.po = p)) hk2 HZ.out hx)
          generalize gouts[k] = x at q0 q1 q2 HIT NXT
          by_cases h1 : x.ac = a
          · have e1 : (x.ac == a) = true := by simpa using h1
            by_cases h2 : x.po = p
            · have e2 : (x.po == p) = true := by simpa using h2
              have HT := Lib.hid (HIT.out (decide_eq_true ⟨h1, h2⟩))
              clear h1 h2 NXT HIT
              go_wp2_with fail
              go_ret
              exact ⟨by rw [HT.out]; rfl, hN0.trans hN⟩
            · have e2 : (x.po == p) = false := by simpa using h2
              have HF := Lib.hid (NXT.out (decide_eq_false (fun h => h2 h.2)))
              clear h1 h2 NXT HIT
              go_wp2_with fail
              go_roundw
              case rel => exact ⟨k + 1, by omega, by go_num, HF, hN⟩
              case measure => simp [intOf]; omega
          · have e1 : (x.ac == a) = false := by simpa using h1
            have HF := Lib.hid (NXT.out (decide_eq_false (fun h => h1 h.1)))
            clear h1 NXT HIT
            go_wp2_with fail
            go_roundw
            case rel => exact ⟨k + 1, by omega, by go_num, HF, hN⟩
            case measure => simp [intOf]; omega
        · have hke : k = o := by omega
          have hd9 : decide (k < o) = false := decide_eq_false hk1
          rw [hke] at HZ
          clear hke hk hk1
          have HF : Hid (A = false) := Lib.hid (by rw [← HA.out, HZ1.out, HZ.out]; rfl)
          go_wp2_with fail
          go_ret
          exact ⟨by rw [HF.out]; rfl, hN0.trans hN⟩
set_option maxRecDepth 100000 in
set_option maxHeartbeats 4000000 in
theorem rinTk_any (w : World) (g : Gr) (e o : Nat) (a p : Int) (hg : GrAt w g) (hl : GLen g) (he : e ≤ g.edges.length) (ho : o ≤ g.ins.length) :
    Calls Try.prog 71 #[g.v, I e, I o, I a, I p] w fun en w' => en = .returned (.bool (inTk g e o a p)) ∧ New w w' := by
  obtain ⟨A, hA⟩ : ∃ A, inTk g e o a p = A := ⟨_, rfl⟩
  rw [hA]
  unfold inTk at hA
  have HA := Lib.hid hA
  have hse := hg.se
  have hso := hg.si
  have hle := hl.e
  have hlo := hl.i
  clear hA hg hl
  obtain ⟨gname, gaa, gac, gacts, gea, gec, gedges, gia, gic, gins, goa, goc, gouts⟩ := g
  simp only at *
  simp only [Gr.v, Gr.cs]
  go_enter Try.func71, Try.ntmps71
  go_wp2_with fail
  have hN0 : New w (w.alloc (.cells #[.string gname, .slice gaa gacts.length gac, .slice gea gedges.length gec, .slice gia gins.length gic, .slice goa gouts.length goc] 63)) := (New.refl w).alloc _
  have hbx : (w.alloc (.cells #[.string gname, .slice gaa gacts.length gac, .slice gea gedges.length gec, .slice gia gins.length gic, .slice goa gouts.length goc] 63)).heap[w.heap.size]? = some (.cells #[.string gname, .slice gaa gacts.length gac, .slice gea gedges.length gec, .slice gia gins.length gic, .slice goa gouts.length goc] 63 (0, 0)) := heap_alloc_new w _
  generalize (w.alloc (.cells #[.string gname, .slice gaa gacts.length gac, .slice gea gedges.length gec, .slice gia gins.length gic, .slice goa gouts.length goc] 63)) = w0 at hN0 hbx ⊢
  have x2 : w0.cell? ⟨w.heap.size, 2, none⟩ = some (.slice gea gedges.length gec) := by rw [cell_of_block hbx 2]; simp
  have x3 : w0.cell? ⟨w.heap.size, 3, none⟩ = some (.slice gia gins.length gic) := by rw [cell_of_block hbx 3]; simp
  clear hbx
  go_loopw [11] (fun i wr => ∃ k : Nat, k ≤ e ∧ i = .int .i64 k ∧ Hid ((gedges.take k).any (fun x => decide (x.t = a ∧ x.tp = p)) = false) ∧ New w0 wr) (fun i _ => e - (intOf i).toNat)
  case atStart => exact ⟨0, by omega, rfl, Lib.hid (by simp), New.refl _⟩
  case round =>
    obtain ⟨k, hk, rfl, HZ, hN⟩ := hrel
    have y := hN.cell x2
    by_cases hk1 : k < e
    · have hk2 : k < gedges.length := by omega
      obtain ⟨b, off, hab, q0, q1, q2, q3, q4⟩ := gedges_at (hse.new (hN0.trans hN)) hk2
      have hk3 : (k : Int) < (e : Int) := by omega
      have hk4 : (k : Int) < (gedges.length : Int) := by omega
      have hk5 : decide (k < e) = true := decide_eq_true hk1
      have hbw : b < wr.heap.size := World.block_lt_of_cell? wr _ q0
      rw [hab] at y
      clear hab
      have HIT : Hid (decide (gedges[k].t = a ∧ gedges[k].tp = p) = true → A = true) := Lib.hid (fun hx => by
        rw [← HA.out, any_hit (l := gedges) (p := fun x => decide (x.t = a ∧ x.tp = p)) hk2 hk1 hx]; simp)
      have NXT : Hid (decide (gedges[k].t = a ∧ gedges[k].tp = p) = false → (gedges.take (k + 1)).any (fun x => decide (x.t = a ∧ x.tp = p)) = false) := Lib.hid (fun hx => any_next (p := fun x => decide (x.t = a ∧ x.tp = p)) hk2 HZ.out hx)
      generalize gedges[k] = x at q0 q1 q2 q3 q4 HIT NXT
      by_cases h1 : x.t = a
      · have e1 : (x.t == a) = true := by simpa using h1
        by_cases h2 : x.tp = p
        · have e2 : (x.tp == p) = true := by simpa using h2
          have HT := Lib.hid (HIT.out (decide_eq_true ⟨h1, h2⟩))
          clear h1 h2 NXT HIT
          go_wp2_with fail
          go_ret
          exact ⟨by rw [HT.out]; rfl, hN0.trans hN⟩
        · have e2 : (x.tp == p) = false := by simpa using h2
          have HF := Lib.hid (NXT.out (decide_eq_false (fun h => h2 h.2)))
          clear h1 h2 NXT HIT
          go_wp2_with fail
          go_roundw
          case rel => exact ⟨k + 1, by omega, by go_num, HF, hN⟩
          case measure => simp [intOf]; omega
      · have e1 : (x.t == a) = false := by simpa using h1
        have HF := Lib.hid (NXT.out (decide_eq_false (fun h => h1 h.1)))
        clear h1 NXT HIT
        go_wp2_with fail
        go_roundw
        case rel => exact ⟨k + 1, by omega, by go_num, HF, hN⟩
        case measure => simp [intOf]; omega
    · have hke : k = e := by omega
      have hd9 : decide (k < e) = false := decide_eq_false hk1
      rw [hke] at HZ
      clear hke hk hk1
      have HZ1 := HZ
      have hN1 := hN0.trans hN
      have x3' := hN.cell x3
      clear HZ y
      go_wp2_with fail
      obtain ⟨wo, rfl⟩ : ∃ wo, wo = wr := ⟨_, rfl⟩
      clear hN0 hN x3 x2
      have hN0 := hN1
      have x3 := x3'
      clear hN1 x3' 
      go_loopw [12] (fun i wr => ∃ k : Nat, k ≤ o ∧ i = .int .i64 k ∧ Hid ((gins.take k).any (fun x => decide (x.ac = a ∧ x.po = p)) = false) ∧ New wo wr) (fun i _ => o - (intOf i).toNat)
      case atStart => exact ⟨0, by omega, rfl, Lib.hid (by simp), New.refl _⟩
      case round =>
        obtain ⟨k, hk, rfl, HZ, hN⟩ := hrel
        have y := hN.cell x3
        by_cases hk1 : k < o
        · have hk2 : k < gins.length := by omega
          obtain ⟨b, off, hab, q0, q1, q2⟩ := ports_at (hso.new (hN0.trans hN)) hk2
          have hk3 : (k : Int) < (o : Int) := by omega
          have hk4 : (k : Int) < (gins.length : Int) := by omega
          have hk5 : decide (k < o) = true := decide_eq_true hk1
          have hbw : b < wr.heap.size := World.block_lt_of_cell? wr _ q0
          rw [hab] at y
          clear hab
          have HIT : Hid (decide (gins[k].ac = a ∧ gins[k].po = p) = true → A = true) := Lib.hid (fun hx => by
            rw [← HA.out, any_hit (l := gins) (p := fun x => decide (x.ac = a ∧ x.po = p)) hk2 hk1 hx]; simp)
          have NXT : Hid (decide (gins[k].ac = a ∧ gins[k].po = p) = false → (gins.take (k + 1)).any (fun x => decide (x.ac = a ∧ x.po = p)) = false) := Lib.hid (fun hx => any_next (p := fun x => decide (x.ac = a ∧ x.po = p)) hk2 HZ.out hx)
          generalize gins[k] = x at q0 q1 q2 HIT NXT
          by_cases h1 : x.ac = a
          · have e1 : (x.ac == a) = true := by simpa using h1
            by_cases h2 : x.po = p
            · have e2 : (x.po == p) = true := by simpa using h2
              have HT := Lib.hid (HIT.out (decide_eq_true ⟨h1, h2⟩))
              clear h1 h2 NXT HIT
              go_wp2_with fail
              go_ret
              exact ⟨by rw [HT.out]; rfl, hN0.trans hN⟩
            · have e2 : (x.po == p) = false := by simpa using h2
              have HF := Lib.hid (NXT.out (decide_eq_false (fun h => h2 h.2)))
              clear h1 h2 NXT HIT
              go_wp2_with fail
              go_roundw
              case rel => exact ⟨k + 1, by omega, by go_num, HF, hN⟩
              case measure => simp [intOf]; omega
          · have e1 : (x.ac == a) = false := by simpa using h1
            have HF := Lib.hid (NXT.out (decide_eq_false (fun h => h1 h.1)))
            clear h1 NXT HIT
            go_wp2_with fail
            go_roundw
            case rel => exact ⟨k + 1, by omega, by go_num, HF, hN⟩
            case measure => simp [intOf]; omega
        · have hke : k = o := by omega
          have hd9 : decide (k < o) = false := decide_eq_false hk1
          rw [hke] at HZ
          clear hke hk hk1
          have HF : Hid (A = false) := Lib.hid (by rw [← HA.out, HZ1.out, HZ.out]; rfl)
          go_wp2_with fail
          go_ret
          exact ⟨by rw [HF.out]; rfl, hN0.trans hN⟩
end Go.Proofs.Ytijlgcbnoekmeaa
