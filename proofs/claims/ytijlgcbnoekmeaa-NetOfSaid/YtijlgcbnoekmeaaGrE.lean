/-
  Layer 8: the document's looks at names, actors, edges, inputs, outputs.
-/
import Derived.Test.YtijlgcbnoekmeaaGrD
namespace Go.Proofs.Ytijlgcbnoekmeaa
open Go Go.RowKit Go.Joins
set_option linter.all false

theorem bytesN_inj {s t : ByteArray} : bytesN s = bytesN t ↔ s = t := by
  refine ⟨fun h => ?_, fun h => by rw [h]⟩
  have inj : ∀ (l m : List UInt8), l.map (fun b => (b.toNat : Int)) = m.map (fun b => (b.toNat : Int)) → l = m := by
    intro l
    induction l with
    | nil => intro m h; cases m with
      | nil => rfl
      | cons y m => simp at h
    | cons x l ih => intro m h; cases m with
      | nil => simp at h
      | cons y m =>
        simp only [List.map_cons, List.cons.injEq] at h
        have hx : x.toNat = y.toNat := by have := h.1; omega
        rw [ih m h.2, UInt8.toNat_inj.1 hx]
  have := inj _ _ h
  apply ByteArray.ext
  exact Array.toList_inj.1 this
theorem str_yes {s t : ByteArray} (h : s = t) : (s.toList == t.toList) = true := by rw [h]; simp
theorem str_no {s t : ByteArray} (h : ¬ s = t) : (s.toList == t.toList) = false := by
  rcases hx : (s.toList == t.toList) with _ | _
  · rfl
  · exfalso
    apply h
    have h1 : s.toList = t.toList := by simpa using hx
    rw [ByteArray.toList_eq, ByteArray.toList_eq] at h1
    apply ByteArray.ext
    exact Array.toList_inj.1 h1
/-- Is the text among the first so many? -/
def hasName {α : Type} (f : α → ByteArray) (l : List α) (k : Nat) (s : ByteArray) : Bool := (l.take k).any (fun x => decide (bytesN (f x) = bytesN s))
theorem names_split (g : Gr) (a i o : Nat) (s : ByteArray) : (namesOf g a i o).any (fun t => decide (bytesN t = bytesN s)) = (hasName GAct.name g.acts a s || (hasName GPort.name g.ins i s || hasName GPort.name g.outs o s)) := by
  unfold namesOf hasName
  simp only [List.any_append, List.any_map, Function.comp_def]

set_option maxRecDepth 100000 in
set_option maxHeartbeats 4000000 in
theorem rnamed_any (w : World) (g : Gr) (ka ki ko : Nat) (s : ByteArray) (hg : GrAt w g) (hl : GLen g) (ha : ka ≤ g.acts.length) (hi : ki ≤ g.ins.length) (ho : ko ≤ g.outs.length) :
    Calls Try.prog 68 #[g.v, I ka, I ki, I ko, .string s] w fun en w' => en = .returned (.bool ((namesOf g ka ki ko).any (fun t => decide (bytesN t = bytesN s)))) ∧ New w w' := by
  rw [names_split]
  obtain ⟨A, hA⟩ : ∃ A, (hasName GAct.name g.acts ka s || (hasName GPort.name g.ins ki s || hasName GPort.name g.outs ko s)) = A := ⟨_, rfl⟩
  rw [hA]
  have HA := Lib.hid hA
  have hsa := hg.sa
  have hsi := hg.si
  have hso := hg.so
  have hla := hl.a
  have hli := hl.i
  have hlo := hl.o
  clear hA hg hl
  obtain ⟨gname, gaa, gac, gacts, gea, gec, gedges, gia, gic, gins, goa, goc, gouts⟩ := g
  simp only at *
  simp only [Gr.v, Gr.cs]
  go_enter Try.func68, Try.ntmps68
  go_wp2_with fail
  have hN0 : New w (w.alloc (.cells #[.string gname, .slice gaa gacts.length gac, .slice gea gedges.length gec, .slice gia gins.length gic, .slice goa gouts.length goc] 63)) := (New.refl w).alloc _
  have hbx : (w.alloc (.cells #[.string gname, .slice gaa gacts.length gac, .slice gea gedges.length gec, .slice gia gins.length gic, .slice goa gouts.length goc] 63)).heap[w.heap.size]? = some (.cells #[.string gname, .slice gaa gacts.length gac, .slice gea gedges.length gec, .slice gia gins.length gic, .slice goa gouts.length goc] 63 (0, 0)) := heap_alloc_new w _
  generalize (w.alloc (.cells #[.string gname, .slice gaa gacts.length gac, .slice gea gedges.length gec, .slice gia gins.length gic, .slice goa gouts.length goc] 63)) = w0 at hN0 hbx ⊢
  have x1 : w0.cell? ⟨w.heap.size, 1, none⟩ = some (.slice gaa gacts.length gac) := by rw [cell_of_block hbx 1]; simp
  have x3 : w0.cell? ⟨w.heap.size, 3, none⟩ = some (.slice gia gins.length gic) := by rw [cell_of_block hbx 3]; simp
  have x4 : w0.cell? ⟨w.heap.size, 4, none⟩ = some (.slice goa gouts.length goc) := by rw [cell_of_block hbx 4]; simp
  clear hbx
  go_loopw [11] (fun i wr => ∃ k : Nat, k ≤ ka ∧ i = .int .i64 k ∧ Hid (hasName GAct.name gacts k s = false) ∧ New w0 wr) (fun i _ => ka - (intOf i).toNat)
  case atStart => exact ⟨0, by omega, rfl, Lib.hid (by simp [hasName]), New.refl _⟩
  case round =>
    obtain ⟨k, hk, rfl, HZ, hN⟩ := hrel
    have y := hN.cell x1
    by_cases hk1 : k < ka
    · have hk2 : k < gacts.length := by omega
      obtain ⟨b, off, hab, q0, q1, q2⟩ := acts_at (hsa.new (hN0.trans hN)) hk2
      have hk3 : (k : Int) < (ka : Int) := by omega
      have hk4 : (k : Int) < (gacts.length : Int) := by omega
      have hk5 : decide (k < ka) = true := decide_eq_true hk1
      have hbw : b < wr.heap.size := World.block_lt_of_cell? wr _ q0
      rw [hab] at y
      clear hab
      have HIT : Hid (gacts[k].name = s → A = true) := Lib.hid (fun hx => by
        have h : hasName GAct.name gacts ka s = true := any_hit (l := gacts) hk2 hk1 (by rw [hx]; simp)
        rw [← HA.out, h]; simp)
      have NXT : Hid (gacts[k].name ≠ s → hasName GAct.name gacts (k + 1) s = false) := Lib.hid (fun hx => any_next hk2 HZ.out (decide_eq_false (fun h => hx (bytesN_inj.1 h))))
      generalize gacts[k] = x at q0 q1 q2 HIT NXT
      by_cases h1 : x.name = s
      · have e2 := str_yes h1
        have HT := Lib.hid (HIT.out h1)
        clear h1 NXT HIT
        go_wp2_with fail
        go_ret
        exact ⟨by rw [HT.out]; rfl, hN0.trans hN⟩
      · have e2 := str_no h1
        have HF := Lib.hid (NXT.out h1)
        clear h1 NXT HIT
        go_wp2_with fail
        go_roundw
        case rel => exact ⟨k + 1, by omega, by go_num, HF, hN⟩
        case measure => simp [intOf]; omega
    · have hke : k = ka := by omega
      have hd9 : decide (k < ka) = false := decide_eq_false hk1
      rw [hke] at HZ
      clear hke hk hk1
      have HZ1 := HZ
      have hN1 := hN0.trans hN
      have x3' := hN.cell x3
      have x4' := hN.cell x4
      clear HZ y
      go_wp2_with fail
      obtain ⟨wo, rfl⟩ : ∃ wo, wo = wr := ⟨_, rfl⟩
      clear hN0 hN x1 x3 x4
      have hN0 := hN1
      have x3 := x3'
      have x4 := x4'
      clear hN1 x3' x4'
      go_loopw [12] (fun i wr => ∃ k : Nat, k ≤ ki ∧ i = .int .i64 k ∧ Hid (hasName GPort.name gins k s = false) ∧ New wo wr) (fun i _ => ki - (intOf i).toNat)
      case atStart => exact ⟨0, by omega, rfl, Lib.hid (by simp [hasName]), New.refl _⟩
      case round =>
        obtain ⟨k, hk, rfl, HZ, hN⟩ := hrel
        have y := hN.cell x3
        by_cases hk1 : k < ki
        · have hk2 : k < gins.length := by omega
          obtain ⟨b, off, hab, q0, q1, q2⟩ := ports_at (hsi.new (hN0.trans hN)) hk2
          have hk3 : (k : Int) < (ki : Int) := by omega
          have hk4 : (k : Int) < (gins.length : Int) := by omega
          have hk5 : decide (k < ki) = true := decide_eq_true hk1
          have hbw : b < wr.heap.size := World.block_lt_of_cell? wr _ q0
          rw [hab] at y
          clear hab
          have HIT : Hid (gins[k].name = s → A = true) := Lib.hid (fun hx => by
            have h : hasName GPort.name gins ki s = true := any_hit (l := gins) hk2 hk1 (by rw [hx]; simp)
            rw [← HA.out, h]; simp)
          have NXT : Hid (gins[k].name ≠ s → hasName GPort.name gins (k + 1) s = false) := Lib.hid (fun hx => any_next hk2 HZ.out (decide_eq_false (fun h => hx (bytesN_inj.1 h))))
          generalize gins[k] = x at q0 q1 q2 HIT NXT
          by_cases h1 : x.name = s
          · have e2 := str_yes h1
            have HT := Lib.hid (HIT.out h1)
            clear h1 NXT HIT
            go_wp2_with fail
            go_ret
            exact ⟨by rw [HT.out]; rfl, hN0.trans hN⟩
          · have e2 := str_no h1
            have HF := Lib.hid (NXT.out h1)
            clear h1 NXT HIT
            go_wp2_with fail
            go_roundw
            case rel => exact ⟨k + 1, by omega, by go_num, HF, hN⟩
            case measure => simp [intOf]; omega
        · have hke : k = ki := by omega
          have hd9 : decide (k < ki) = false := decide_eq_false hk1
          rw [hke] at HZ
          clear hke hk hk1
          obtain ⟨wp, rfl⟩ : ∃ wp, wp = wo := ⟨_, rfl⟩
          have HZ2 := HZ
          have hN1 := hN0.trans hN
          have x4' := hN.cell x4
          clear HZ y
          go_wp2_with fail
          obtain ⟨wo, rfl⟩ : ∃ wo, wo = wr := ⟨_, rfl⟩
          clear hN0 hN x3 x4
          have hN0 := hN1
          have x4 := x4'
          clear hN1 x4'
          go_loopw [13] (fun i wr => ∃ k : Nat, k ≤ ko ∧ i = .int .i64 k ∧ Hid (hasName GPort.name gouts k s = false) ∧ New wo wr) (fun i _ => ko - (intOf i).toNat)
          case atStart => exact ⟨0, by omega, rfl, Lib.hid (by simp [hasName]), New.refl _⟩
          case round =>
            obtain ⟨k, hk, rfl, HZ, hN⟩ := hrel
            have y := hN.cell x4
            by_cases hk1 : k < ko
            · have hk2 : k < gouts.length := by omega
              obtain ⟨b, off, hab, q0, q1, q2⟩ := ports_at (hso.new (hN0.trans hN)) hk2
              have hk3 : (k : Int) < (ko : Int) := by omega
              have hk4 : (k : Int) < (gouts.length : Int) := by omega
              have hk5 : decide (k < ko) = true := decide_eq_true hk1
              have hbw : b < wr.heap.size := World.block_lt_of_cell? wr _ q0
              rw [hab] at y
              clear hab
              have HIT : Hid (gouts[k].name = s → A = true) := Lib.hid (fun hx => by
                have h : hasName GPort.name gouts ko s = true := any_hit (l := gouts) hk2 hk1 (by rw [hx]; simp)
                rw [← HA.out, h]; simp)
              have NXT : Hid (gouts[k].name ≠ s → hasName GPort.name gouts (k + 1) s = false) := Lib.hid (fun hx => any_next hk2 HZ.out (decide_eq_false (fun h => hx (bytesN_inj.1 h))))
              generalize gouts[k] = x at q0 q1 q2 HIT NXT
              by_cases h1 : x.name = s
              · have e2 := str_yes h1
                have HT := Lib.hid (HIT.out h1)
                clear h1 NXT HIT
                go_wp2_with fail
                go_ret
                exact ⟨by rw [HT.out]; rfl, hN0.trans hN⟩
              · have e2 := str_no h1
                have HF := Lib.hid (NXT.out h1)
                clear h1 NXT HIT
                go_wp2_with fail
                go_roundw
                case rel => exact ⟨k + 1, by omega, by go_num, HF, hN⟩
                case measure => simp [intOf]; omega
            · have hke : k = ko := by omega
              have hd9 : decide (k < ko) = false := decide_eq_false hk1
              rw [hke] at HZ
              clear hke hk hk1
              have HF : Hid (A = false) := Lib.hid (by rw [← HA.out, HZ1.out, HZ2.out, HZ.out]; rfl)
              go_wp2_with fail
              go_ret
              exact ⟨by rw [HF.out]; rfl, hN0.trans hN⟩
end Go.Proofs.Ytijlgcbnoekmeaa
