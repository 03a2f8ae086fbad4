/-
  Layer 20: the document's reader: a count, how many, an integer.
-/
import Derived.Test.YtfmpjbiaamkobaaCodeW
namespace Go.Proofs.Ytfmpjbiaamkobaa
open Go Go.RowKit Go.Joins
set_option linter.all false
set_option maxRecDepth 100000 in
set_option maxHeartbeats 2000000 in
theorem rnumber_bad (w : World) (s : ByteArray) (at_ c a : Int) (hc : c ≠ 0) :
    Calls Try.prog 40 #[Sp s at_ c a] w fun e w' => e = .returned (.tuple #[Sp s at_ c a, I 0]) ∧ New w w' := by
  have hw := fun W => rwhole_bad W s at_ c a hc 3 ⟨by omega, by omega⟩ 127
  have HW := Lib.hid hw
  clear hw hc
  go_enter Try.func40, Try.ntmps40
  go_wp2_with fail
  have hR : ((w.alloc (.cells (SpC s at_ c a) 74)).alloc (.cells #[.string ⟨#[]⟩, I 0, I 0, I 0] 74)).heap[w.heap.size + 1]? = some (.cells (SpC ⟨#[]⟩ 0 0 0) 74 (0, 0)) := by
    have := heap_alloc_new (w.alloc (.cells (SpC s at_ c a) 74)) (.cells #[.string ⟨#[]⟩, I 0, I 0, I 0] 74)
    simpa using this
  have hN : New w ((w.alloc (.cells (SpC s at_ c a) 74)).alloc (.cells #[.string ⟨#[]⟩, I 0, I 0, I 0] 74)) := ((New.refl w).alloc _).alloc _
  generalize ((w.alloc (.cells (SpC s at_ c a) 74)).alloc (.cells #[.string ⟨#[]⟩, I 0, I 0, I 0] 74)) = wS at hR hN ⊢
  refine (HW.out _).mono ?_
  rintro e w2 ⟨rfl, k2⟩
  replace hR := Keeps.heap k2 hR (fun h => h)
  replace hN := hN.trans k2
  obtain ⟨r0, r1, r2, r3, y0, y1, y2, y3⟩ := sp_cells hR
  have hsz : w.heap.size + 1 < w2.heap.size := (Array.getElem?_eq_some_iff.1 hR).1
  have hsz0 : w.heap.size < w2.heap.size := by omega
  clear hR
  go_wp2_with fail
  exact bodyPost_ret (v := .tuple #[Sp s at_ c a, I 0]) (by simp [results, Try.results40, go_sem, r0, r1, r2, r3, y0, y1, y2, y3, hsz, hsz0]) rfl ⟨rfl, by repeat (with_reducible first | exact hN | refine New.setCell ?_ ?_ _ | refine New.alloc ?_ _ | exact Nat.le_refl _ | (dsimp only; omega))⟩
set_option maxRecDepth 100000 in
set_option maxHeartbeats 2000000 in
theorem rnumber_any (w : World) (s : ByteArray) (at0 : Nat) (r0 : List Int) (hs : s.size ≤ 9223372036854775807) (hat0 : at0 ≤ s.size) (hr0 : (bytesOf s).drop at0 = r0) :
    Calls Try.prog 40 #[Sp s at0 0 0] w (RefAs w s (fun n : Nat => I n) (I 0) (countR r0)) := by
  have hrng : ∀ b ∈ r0, 0 ≤ b ∧ b ≤ 255 := fun b hb => bytesOf_rng s b (List.mem_of_mem_drop (by rw [hr0]; exact hb))
  have hlt : ∀ v r', countR r0 = .ok v r' → v < 2097152 := fun v r' h => count_lt hrng h
  have hw := fun W => rwhole_any W s at0 r0 3 127 ⟨by omega, by omega⟩ ⟨by omega, by omega⟩ (by omega) hs hat0 hr0
  rw [show wholeR 3 127 r0 = countR r0 from rfl] at hw
  generalize countR r0 = res at hlt hw ⊢
  clear hrng hr0 hat0 hs
  cases res with
  | ok x r =>
    have hx := hlt x r rfl
    clear hlt
    have h1 : IntKind.i64.wrap (x : Int) = (x : Int) := IntWalk.i64_in _ (by omega)
    have HW := Lib.hid hw
    clear hw
    go_enter Try.func40, Try.ntmps40
    go_wp2_with fail
    have hR : ((w.alloc (.cells (SpC s at0 0 0) 74)).alloc (.cells #[.string ⟨#[]⟩, I 0, I 0, I 0] 74)).heap[w.heap.size + 1]? = some (.cells (SpC ⟨#[]⟩ 0 0 0) 74 (0, 0)) := by
      have := heap_alloc_new (w.alloc (.cells (SpC s at0 0 0) 74)) (.cells #[.string ⟨#[]⟩, I 0, I 0, I 0] 74)
      simpa using this
    have hN : New w ((w.alloc (.cells (SpC s at0 0 0) 74)).alloc (.cells #[.string ⟨#[]⟩, I 0, I 0, I 0] 74)) := ((New.refl w).alloc _).alloc _
    generalize ((w.alloc (.cells (SpC s at0 0 0) 74)).alloc (.cells #[.string ⟨#[]⟩, I 0, I 0, I 0] 74)) = wS at hR hN ⊢
    refine (HW.out _).mono ?_
    rintro e w2 ⟨at1, ha1, hd1, rfl, k2⟩
    have HD := Lib.hid hd1
    clear hd1
    replace hR := Keeps.heap k2 hR (fun h => h)
    replace hN := hN.trans k2
    obtain ⟨r0, r1, r2, r3, y0, y1, y2, y3⟩ := sp_cells hR
    have hsz : w.heap.size + 1 < w2.heap.size := (Array.getElem?_eq_some_iff.1 hR).1
    have hsz0 : w.heap.size < w2.heap.size := by omega
    clear hR
    go_wp2_with fail
    exact bodyPost_ret (v := .tuple #[Sp s at1 0 0, I x]) (by simp [results, Try.results40, go_sem, r0, r1, r2, r3, y0, y1, y2, y3, hsz, hsz0]) rfl ⟨at1, ha1, HD.out, rfl, by repeat (with_reducible first | exact hN | refine New.setCell ?_ ?_ _ | refine New.alloc ?_ _ | exact Nat.le_refl _ | (dsimp only; omega))⟩
  | bad c k =>
    clear hlt
    have HW := Lib.hid hw
    clear hw
    go_enter Try.func40, Try.ntmps40
    go_wp2_with fail
    have hR : ((w.alloc (.cells (SpC s at0 0 0) 74)).alloc (.cells #[.string ⟨#[]⟩, I 0, I 0, I 0] 74)).heap[w.heap.size + 1]? = some (.cells (SpC ⟨#[]⟩ 0 0 0) 74 (0, 0)) := by
      have := heap_alloc_new (w.alloc (.cells (SpC s at0 0 0) 74)) (.cells #[.string ⟨#[]⟩, I 0, I 0, I 0] 74)
      simpa using this
    have hN : New w ((w.alloc (.cells (SpC s at0 0 0) 74)).alloc (.cells #[.string ⟨#[]⟩, I 0, I 0, I 0] 74)) := ((New.refl w).alloc _).alloc _
    generalize ((w.alloc (.cells (SpC s at0 0 0) 74)).alloc (.cells #[.string ⟨#[]⟩, I 0, I 0, I 0] 74)) = wS at hR hN ⊢
    refine (HW.out _).mono ?_
    rintro e w2 ⟨at1, ha1, hc1, rfl, k2⟩
    have HC := Lib.hid hc1
    clear hc1
    replace hR := Keeps.heap k2 hR (fun h => h)
    replace hN := hN.trans k2
    obtain ⟨r0, r1, r2, r3, y0, y1, y2, y3⟩ := sp_cells hR
    have hsz : w.heap.size + 1 < w2.heap.size := (Array.getElem?_eq_some_iff.1 hR).1
    have hsz0 : w.heap.size < w2.heap.size := by omega
    clear hR
    go_wp2_with fail
    exact bodyPost_ret (v := .tuple #[Sp s at1 c ((s.size : Int) - k), I 0]) (by simp [results, Try.results40, go_sem, r0, r1, r2, r3, y0, y1, y2, y3, hsz, hsz0]) rfl ⟨at1, ha1, HC.out, rfl, by repeat (with_reducible first | exact hN | refine New.setCell ?_ ?_ _ | refine New.alloc ?_ _ | exact Nat.le_refl _ | (dsimp only; omega))⟩
set_option maxRecDepth 100000 in
set_option maxHeartbeats 2000000 in
theorem rmany_bad (w : World) (s : ByteArray) (at_ c a : Int) (hc : c ≠ 0) (m : Nat) :
    Calls Try.prog 59 #[Sp s at_ c a, I m] w fun e w' => e = .returned (.tuple #[Sp s at_ c a, I 0]) ∧ New w w' := by
  have hw := fun W => rnumber_bad W s at_ c a hc
  have hm1 : decide ((m : Int) < 0) = false := decide_eq_false (by omega)
  have HW := Lib.hid hw
  clear hw hc
  go_enter Try.func59, Try.ntmps59
  go_wp2_with fail
  have hR : ((w.alloc (.cells (SpC s at_ c a) 74)).alloc (.cells #[.string ⟨#[]⟩, I 0, I 0, I 0] 74)).heap[w.heap.size + 1]? = some (.cells (SpC ⟨#[]⟩ 0 0 0) 74 (0, 0)) := by
    have := heap_alloc_new (w.alloc (.cells (SpC s at_ c a) 74)) (.cells #[.string ⟨#[]⟩, I 0, I 0, I 0] 74)
    simpa using this
  have hN : New w ((w.alloc (.cells (SpC s at_ c a) 74)).alloc (.cells #[.string ⟨#[]⟩, I 0, I 0, I 0] 74)) := ((New.refl w).alloc _).alloc _
  generalize ((w.alloc (.cells (SpC s at_ c a) 74)).alloc (.cells #[.string ⟨#[]⟩, I 0, I 0, I 0] 74)) = wS at hR hN ⊢
  refine (HW.out _).mono ?_
  rintro e w2 ⟨rfl, k2⟩
  replace hR := Keeps.heap k2 hR (fun h => h)
  replace hN := hN.trans k2
  obtain ⟨r0, r1, r2, r3, y0, y1, y2, y3⟩ := sp_cells hR
  have hsz : w.heap.size + 1 < w2.heap.size := (Array.getElem?_eq_some_iff.1 hR).1
  have hsz0 : w.heap.size < w2.heap.size := by omega
  clear hR
  go_wp2_with fail
  exact bodyPost_ret (v := .tuple #[Sp s at_ c a, I 0]) (by simp [results, Try.results59, go_sem, r0, r1, r2, r3, y0, y1, y2, y3, hsz, hsz0]) rfl ⟨rfl, by repeat (with_reducible first | exact hN | refine New.setCell ?_ ?_ _ | refine New.alloc ?_ _ | exact Nat.le_refl _ | (dsimp only; omega))⟩
set_option maxRecDepth 100000 in
set_option maxHeartbeats 2000000 in
theorem rmany_any (w : World) (s : ByteArray) (at0 : Nat) (r0 : List Int) (hs : s.size ≤ 9223372036854775807) (hat0 : at0 ≤ s.size) (hr0 : (bytesOf s).drop at0 = r0) (m : Nat) :
    Calls Try.prog 59 #[Sp s at0 0 0, I m] w (RefAs w s (fun n : Nat => I n) (I 0) (manyR m r0)) := by
  have hw := fun W => rnumber_any W s at0 r0 hs hat0 hr0
  have hl : (s.size : Int) - (r0.length : Int) = (at0 : Int) := by
    have := congrArg List.length hr0
    rw [List.length_drop, bytesOf_len] at this
    omega
  unfold manyR
  generalize countR r0 = res at hw ⊢
  clear hr0 hat0 hs
  cases res with
  | ok x r =>
    have HW := Lib.hid hw
    clear hw
    simp only [Rd.bind]
    by_cases hm : m < x
    · rw [if_pos hm]
      unfold RefAs
      simp only [hl]
      clear hl
      have hm1 : decide (m < x) = true := decide_eq_true (by omega)
      clear hm
      go_enter Try.func59, Try.ntmps59
      go_wp2_with fail
      have hR : ((w.alloc (.cells (SpC s at0 0 0) 74)).alloc (.cells #[.string ⟨#[]⟩, I 0, I 0, I 0] 74)).heap[w.heap.size + 1]? = some (.cells (SpC ⟨#[]⟩ 0 0 0) 74 (0, 0)) := by
        have := heap_alloc_new (w.alloc (.cells (SpC s at0 0 0) 74)) (.cells #[.string ⟨#[]⟩, I 0, I 0, I 0] 74)
        simpa using this
      have hN : New w ((w.alloc (.cells (SpC s at0 0 0) 74)).alloc (.cells #[.string ⟨#[]⟩, I 0, I 0, I 0] 74)) := ((New.refl w).alloc _).alloc _
      generalize ((w.alloc (.cells (SpC s at0 0 0) 74)).alloc (.cells #[.string ⟨#[]⟩, I 0, I 0, I 0] 74)) = wS at hR hN ⊢
      refine (HW.out _).mono ?_
      rintro e w2 ⟨at1, ha1, hd1, rfl, k2⟩
      have HD := Lib.hid hd1
      clear hd1
      replace hR := Keeps.heap k2 hR (fun h => h)
      replace hN := hN.trans k2
      go_wp2_with fail
      refine (fail_any _ s at1 81 at0).mono ?_
      rintro e w3 ⟨rfl, k3⟩
      replace hR := Keeps.heap (((New.refl w2).alloc _).trans k3) hR (fun h => h)
      replace hN := (hN.alloc _).trans k3
      obtain ⟨r0, r1, r2, r3, y0, y1, y2, y3⟩ := sp_cells hR
      have hsz : w.heap.size + 1 < w3.heap.size := (Array.getElem?_eq_some_iff.1 hR).1
      have hsz0 : w.heap.size < w3.heap.size := by omega
      clear hR k2
      go_wp2_with fail
      exact bodyPost_ret (v := .tuple #[Sp s at1 81 at0, I 0]) (by simp [results, Try.results59, go_sem, r0, r1, r2, r3, y0, y1, y2, y3, hsz, hsz0]) rfl ⟨at1, ha1, by decide, rfl, by repeat (with_reducible first | exact hN | refine New.setCell ?_ ?_ _ | refine New.alloc ?_ _ | exact Nat.le_refl _ | (dsimp only; omega))⟩
    · rw [if_neg hm]
      have hm1 : decide (m < x) = false := decide_eq_false (by omega)
      clear hm
      go_enter Try.func59, Try.ntmps59
      go_wp2_with fail
      have hR : ((w.alloc (.cells (SpC s at0 0 0) 74)).alloc (.cells #[.string ⟨#[]⟩, I 0, I 0, I 0] 74)).heap[w.heap.size + 1]? = some (.cells (SpC ⟨#[]⟩ 0 0 0) 74 (0, 0)) := by
        have := heap_alloc_new (w.alloc (.cells (SpC s at0 0 0) 74)) (.cells #[.string ⟨#[]⟩, I 0, I 0, I 0] 74)
        simpa using this
      have hN : New w ((w.alloc (.cells (SpC s at0 0 0) 74)).alloc (.cells #[.string ⟨#[]⟩, I 0, I 0, I 0] 74)) := ((New.refl w).alloc _).alloc _
      generalize ((w.alloc (.cells (SpC s at0 0 0) 74)).alloc (.cells #[.string ⟨#[]⟩, I 0, I 0, I 0] 74)) = wS at hR hN ⊢
      refine (HW.out _).mono ?_
      rintro e w2 ⟨at1, ha1, hd1, rfl, k2⟩
      have HD := Lib.hid hd1
      clear hd1
      replace hR := Keeps.heap k2 hR (fun h => h)
      replace hN := hN.trans k2
      obtain ⟨r0, r1, r2, r3, y0, y1, y2, y3⟩ := sp_cells hR
      have hsz : w.heap.size + 1 < w2.heap.size := (Array.getElem?_eq_some_iff.1 hR).1
      have hsz0 : w.heap.size < w2.heap.size := by omega
      clear hR
      go_wp2_with fail
      exact bodyPost_ret (v := .tuple #[Sp s at1 0 0, I x]) (by simp [results, Try.results59, go_sem, r0, r1, r2, r3, y0, y1, y2, y3, hsz, hsz0]) rfl ⟨at1, ha1, HD.out, rfl, by repeat (with_reducible first | exact hN | refine New.setCell ?_ ?_ _ | refine New.alloc ?_ _ | exact Nat.le_refl _ | (dsimp only; omega))⟩
  | bad c k =>
    have HW := Lib.hid hw
    clear hw hl
    have hm1 : decide ((m : Int) < 0) = false := decide_eq_false (by omega)
    simp only [Rd.bind]
    go_enter Try.func59, Try.ntmps59
    go_wp2_with fail
    have hR : ((w.alloc (.cells (SpC s at0 0 0) 74)).alloc (.cells #[.string ⟨#[]⟩, I 0, I 0, I 0] 74)).heap[w.heap.size + 1]? = some (.cells (SpC ⟨#[]⟩ 0 0 0) 74 (0, 0)) := by
      have := heap_alloc_new (w.alloc (.cells (SpC s at0 0 0) 74)) (.cells #[.string ⟨#[]⟩, I 0, I 0, I 0] 74)
      simpa using this
    have hN : New w ((w.alloc (.cells (SpC s at0 0 0) 74)).alloc (.cells #[.string ⟨#[]⟩, I 0, I 0, I 0] 74)) := ((New.refl w).alloc _).alloc _
    generalize ((w.alloc (.cells (SpC s at0 0 0) 74)).alloc (.cells #[.string ⟨#[]⟩, I 0, I 0, I 0] 74)) = wS at hR hN ⊢
    refine (HW.out _).mono ?_
    rintro e w2 ⟨at1, ha1, hc1, rfl, k2⟩
    have HC := Lib.hid hc1
    clear hc1
    replace hR := Keeps.heap k2 hR (fun h => h)
    replace hN := hN.trans k2
    obtain ⟨r0, r1, r2, r3, y0, y1, y2, y3⟩ := sp_cells hR
    have hsz : w.heap.size + 1 < w2.heap.size := (Array.getElem?_eq_some_iff.1 hR).1
    have hsz0 : w.heap.size < w2.heap.size := by omega
    clear hR
    go_wp2_with fail
    exact bodyPost_ret (v := .tuple #[Sp s at1 c ((s.size : Int) - k), I 0]) (by simp [results, Try.results59, go_sem, r0, r1, r2, r3, y0, y1, y2, y3, hsz, hsz0]) rfl ⟨at1, ha1, HC.out, rfl, by repeat (with_reducible first | exact hN | refine New.setCell ?_ ?_ _ | refine New.alloc ?_ _ | exact Nat.le_refl _ | (dsimp only; omega))⟩
set_option maxRecDepth 100000 in
set_option maxHeartbeats 2000000 in
theorem rsigned_bad (w : World) (s : ByteArray) (at_ c a : Int) (hc : c ≠ 0) :
    Calls Try.prog 70 #[Sp s at_ c a] w fun e w' => e = .returned (.tuple #[Sp s at_ c a, I 0]) ∧ New w w' := by
  have hw := fun W => rwhole_bad W s at_ c a hc 10 ⟨by omega, by omega⟩ 1
  have HW := Lib.hid hw
  clear hw hc
  go_enter Try.func70, Try.ntmps70
  go_wp2_with fail
  have hR : ((w.alloc (.cells (SpC s at_ c a) 74)).alloc (.cells #[.string ⟨#[]⟩, I 0, I 0, I 0] 74)).heap[w.heap.size + 1]? = some (.cells (SpC ⟨#[]⟩ 0 0 0) 74 (0, 0)) := by
    have := heap_alloc_new (w.alloc (.cells (SpC s at_ c a) 74)) (.cells #[.string ⟨#[]⟩, I 0, I 0, I 0] 74)
    simpa using this
  have hN : New w ((w.alloc (.cells (SpC s at_ c a) 74)).alloc (.cells #[.string ⟨#[]⟩, I 0, I 0, I 0] 74)) := ((New.refl w).alloc _).alloc _
  generalize ((w.alloc (.cells (SpC s at_ c a) 74)).alloc (.cells #[.string ⟨#[]⟩, I 0, I 0, I 0] 74)) = wS at hR hN ⊢
  refine (HW.out _).mono ?_
  rintro e w2 ⟨rfl, k2⟩
  replace hR := Keeps.heap k2 hR (fun h => h)
  replace hN := hN.trans k2
  obtain ⟨r0, r1, r2, r3, y0, y1, y2, y3⟩ := sp_cells hR
  have hsz : w.heap.size + 1 < w2.heap.size := (Array.getElem?_eq_some_iff.1 hR).1
  have hsz0 : w.heap.size < w2.heap.size := by omega
  clear hR
  go_wp2_with fail
  exact bodyPost_ret (v := .tuple #[Sp s at_ c a, I 0]) (by simp [results, Try.results70, go_sem, r0, r1, r2, r3, y0, y1, y2, y3, hsz, hsz0]) rfl ⟨rfl, by repeat (with_reducible first | exact hN | refine New.setCell ?_ ?_ _ | refine New.alloc ?_ _ | exact Nat.le_refl _ | (dsimp only; omega))⟩
set_option maxRecDepth 100000 in
set_option maxHeartbeats 2000000 in
theorem rsigned_any (w : World) (s : ByteArray) (at0 : Nat) (r0 : List Int) (hs : s.size ≤ 9223372036854775807) (hat0 : at0 ≤ s.size) (hr0 : (bytesOf s).drop at0 = r0) :
    Calls Try.prog 70 #[Sp s at0 0 0] w (RefAs w s I (I 0) (sintR r0)) := by
  have hrng : ∀ b ∈ r0, 0 ≤ b ∧ b ≤ 255 := fun b hb => bytesOf_rng s b (List.mem_of_mem_drop (by rw [hr0]; exact hb))
  have hlt : ∀ v r', wholeR 10 1 r0 = .ok v r' → v < 18446744073709551616 := fun v r' h => whole10_lt hrng h
  have hw := fun W => rwhole_any W s at0 r0 10 1 ⟨by omega, by omega⟩ ⟨by omega, by omega⟩ (by omega) hs hat0 hr0
  unfold sintR
  generalize wholeR 10 1 r0 = res at hlt hw ⊢
  clear hrng hr0 hat0 hs
  cases res with
  | ok x r =>
    have hx := hlt x r rfl
    clear hlt
    have HW := Lib.hid hw
    clear hw
    simp only [Rd.bind]
    by_cases h2 : x % 2 = 0
    · have hu : unzig x = ((x / 2 : Nat) : Int) := by unfold unzig; rw [if_pos h2]
      rw [hu]
      have e1 : ((x : Int) % 2 == 0) = true := by simp; omega
      have e2 : IntKind.i64.wrap ((x : Int) / 2) = ((x / 2 : Nat) : Int) := by rw [IntWalk.i64_in _ (by omega)]; omega
      clear hu h2
      go_enter Try.func70, Try.ntmps70
      go_wp2_with fail
      have hR : ((w.alloc (.cells (SpC s at0 0 0) 74)).alloc (.cells #[.string ⟨#[]⟩, I 0, I 0, I 0] 74)).heap[w.heap.size + 1]? = some (.cells (SpC ⟨#[]⟩ 0 0 0) 74 (0, 0)) := by
        have := heap_alloc_new (w.alloc (.cells (SpC s at0 0 0) 74)) (.cells #[.string ⟨#[]⟩, I 0, I 0, I 0] 74)
        simpa using this
      have hN : New w ((w.alloc (.cells (SpC s at0 0 0) 74)).alloc (.cells #[.string ⟨#[]⟩, I 0, I 0, I 0] 74)) := ((New.refl w).alloc _).alloc _
      generalize ((w.alloc (.cells (SpC s at0 0 0) 74)).alloc (.cells #[.string ⟨#[]⟩, I 0, I 0, I 0] 74)) = wS at hR hN ⊢
      refine (HW.out _).mono ?_
      rintro e w2 ⟨at1, ha1, hd1, rfl, k2⟩
      have HD := Lib.hid hd1
      clear hd1
      replace hR := Keeps.heap k2 hR (fun h => h)
      replace hN := hN.trans k2
      obtain ⟨r0, r1, r2, r3, y0, y1, y2, y3⟩ := sp_cells hR
      have hsz : w.heap.size + 1 < w2.heap.size := (Array.getElem?_eq_some_iff.1 hR).1
      have hsz0 : w.heap.size < w2.heap.size := by omega
      clear hR
      go_wp2_with fail
      exact bodyPost_ret (v := .tuple #[Sp s at1 0 0, I ((x / 2 : Nat) : Int)]) (by simp [results, Try.results70, go_sem, r0, r1, r2, r3, y0, y1, y2, y3, hsz, hsz0]) rfl ⟨at1, ha1, HD.out, rfl, by repeat (with_reducible first | exact hN | refine New.setCell ?_ ?_ _ | refine New.alloc ?_ _ | exact Nat.le_refl _ | (dsimp only; omega))⟩
    · have hu : unzig x = -((x / 2 : Nat) : Int) - 1 := by unfold unzig; rw [if_neg h2]
      rw [hu]
      have e1 : ((x : Int) % 2 == 0) = false := by simp; omega
      have e2 : IntKind.i64.wrap ((x : Int) / 2) = ((x / 2 : Nat) : Int) := by rw [IntWalk.i64_in _ (by omega)]; omega
      have e3 : IntKind.i64.wrap (-((x / 2 : Nat) : Int)) = -((x / 2 : Nat) : Int) := IntWalk.i64_in _ (by omega)
      have e4 : IntKind.i64.wrap (-((x / 2 : Nat) : Int) - 1) = -((x / 2 : Nat) : Int) - 1 := IntWalk.i64_in _ (by omega)
      clear hu h2
      go_enter Try.func70, Try.ntmps70
      go_wp2_with fail
      have hR : ((w.alloc (.cells (SpC s at0 0 0) 74)).alloc (.cells #[.string ⟨#[]⟩, I 0, I 0, I 0] 74)).heap[w.heap.size + 1]? = some (.cells (SpC ⟨#[]⟩ 0 0 0) 74 (0, 0)) := by
        have := heap_alloc_new (w.alloc (.cells (SpC s at0 0 0) 74)) (.cells #[.string ⟨#[]⟩, I 0, I 0, I 0] 74)
        simpa using this
      have hN : New w ((w.alloc (.cells (SpC s at0 0 0) 74)).alloc (.cells #[.string ⟨#[]⟩, I 0, I 0, I 0] 74)) := ((New.refl w).alloc _).alloc _
      generalize ((w.alloc (.cells (SpC s at0 0 0) 74)).alloc (.cells #[.string ⟨#[]⟩, I 0, I 0, I 0] 74)) = wS at hR hN ⊢
      refine (HW.out _).mono ?_
      rintro e w2 ⟨at1, ha1, hd1, rfl, k2⟩
      have HD := Lib.hid hd1
      clear hd1
      replace hR := Keeps.heap k2 hR (fun h => h)
      replace hN := hN.trans k2
      obtain ⟨r0, r1, r2, r3, y0, y1, y2, y3⟩ := sp_cells hR
      have hsz : w.heap.size + 1 < w2.heap.size := (Array.getElem?_eq_some_iff.1 hR).1
      have hsz0 : w.heap.size < w2.heap.size := by omega
      clear hR
      go_wp2_with fail
      exact bodyPost_ret (v := .tuple #[Sp s at1 0 0, I (-((x / 2 : Nat) : Int) - 1)]) (by simp [results, Try.results70, go_sem, r0, r1, r2, r3, y0, y1, y2, y3, hsz, hsz0]) rfl ⟨at1, ha1, HD.out, rfl, by repeat (with_reducible first | exact hN | refine New.setCell ?_ ?_ _ | refine New.alloc ?_ _ | exact Nat.le_refl _ | (dsimp only; omega))⟩
  | bad c k =>
    clear hlt
    have HW := Lib.hid hw
    clear hw
    simp only [Rd.bind]
    go_enter Try.func70, Try.ntmps70
    go_wp2_with fail
    have hR : ((w.alloc (.cells (SpC s at0 0 0) 74)).alloc (.cells #[.string ⟨#[]⟩, I 0, I 0, I 0] 74)).heap[w.heap.size + 1]? = some (.cells (SpC ⟨#[]⟩ 0 0 0) 74 (0, 0)) := by
      have := heap_alloc_new (w.alloc (.cells (SpC s at0 0 0) 74)) (.cells #[.string ⟨#[]⟩, I 0, I 0, I 0] 74)
      simpa using this
    have hN : New w ((w.alloc (.cells (SpC s at0 0 0) 74)).alloc (.cells #[.string ⟨#[]⟩, I 0, I 0, I 0] 74)) := ((New.refl w).alloc _).alloc _
    generalize ((w.alloc (.cells (SpC s at0 0 0) 74)).alloc (.cells #[.string ⟨#[]⟩, I 0, I 0, I 0] 74)) = wS at hR hN ⊢
    refine (HW.out _).mono ?_
    rintro e w2 ⟨at1, ha1, hc1, rfl, k2⟩
    have HC := Lib.hid hc1
    clear hc1
    replace hR := Keeps.heap k2 hR (fun h => h)
    replace hN := hN.trans k2
    obtain ⟨r0, r1, r2, r3, y0, y1, y2, y3⟩ := sp_cells hR
    have hsz : w.heap.size + 1 < w2.heap.size := (Array.getElem?_eq_some_iff.1 hR).1
    have hsz0 : w.heap.size < w2.heap.size := by omega
    clear hR
    go_wp2_with fail
    exact bodyPost_ret (v := .tuple #[Sp s at1 c ((s.size : Int) - k), I 0]) (by simp [results, Try.results70, go_sem, r0, r1, r2, r3, y0, y1, y2, y3, hsz, hsz0]) rfl ⟨at1, ha1, HC.out, rfl, by repeat (with_reducible first | exact hN | refine New.setCell ?_ ?_ _ | refine New.alloc ?_ _ | exact Nat.le_refl _ | (dsimp only; omega))⟩
end Go.Proofs.Ytfmpjbiaamkobaa
