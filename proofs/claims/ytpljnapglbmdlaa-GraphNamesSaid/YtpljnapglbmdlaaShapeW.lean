/-
  Walks, seventh part: the tags' words.
-/
import Derived.Test.YtpljnapglbmdlaaShapeB
namespace Go.Proofs.Ytpljnapglbmdlaa
open Go Go.RowKit
set_option linter.all false

/-- The tags' words. -/
def ws : List ByteArray := [⟨#[102, 105, 108, 116, 101, 114]⟩, ⟨#[117, 112]⟩, ⟨#[100, 111, 119, 110]⟩, ⟨#[119, 101, 97, 118, 101]⟩, ⟨#[117, 110, 119, 101, 97, 118, 101]⟩, ⟨#[97, 100, 100]⟩, ⟨#[113, 117, 111, 116]⟩, ⟨#[115, 117, 109]⟩, ⟨#[99, 111, 112, 121]⟩, ⟨#[116, 105, 99, 107]⟩, ⟨#[100, 114, 111, 112]⟩]
def wsV : Array Value := #[.string ⟨#[102, 105, 108, 116, 101, 114]⟩, .string ⟨#[117, 112]⟩, .string ⟨#[100, 111, 119, 110]⟩, .string ⟨#[119, 101, 97, 118, 101]⟩, .string ⟨#[117, 110, 119, 101, 97, 118, 101]⟩, .string ⟨#[97, 100, 100]⟩, .string ⟨#[113, 117, 111, 116]⟩, .string ⟨#[115, 117, 109]⟩, .string ⟨#[99, 111, 112, 121]⟩, .string ⟨#[116, 105, 99, 107]⟩, .string ⟨#[100, 114, 111, 112]⟩]
theorem ws_len : ws.length = 11 := rfl
theorem wsV_at (k : Nat) (h : k < 11) : wsV[k]? = some (.string (ws.getD k ByteArray.empty)) := by
  have hk : k = 0 ∨ k = 1 ∨ k = 2 ∨ k = 3 ∨ k = 4 ∨ k = 5 ∨ k = 6 ∨ k = 7 ∨ k = 8 ∨ k = 9 ∨ k = 10 := by omega
  rcases hk with rfl | rfl | rfl | rfl | rfl | rfl | rfl | rfl | rfl | rfl | rfl <;> rfl

def tagS (s : ByteArray) : Int × Int := match ws.findIdx? (fun u => u.toList == s.toList) with
  | some k => ((k : Int) + 1, 0)
  | none => (0, 60)
def wordS (t : Int) : ByteArray × Int := if 1 ≤ t ∧ t ≤ 11 then (ws.getD (t - 1).toNat ByteArray.empty, 0) else (ByteArray.empty, 60)

theorem findIdx_hit {p : ByteArray → Bool} {l : List ByteArray} {k : Nat} (hk : k < l.length) (hno : ∀ j, j < k → p (l.getD j ByteArray.empty) = false) (hp : p (l.getD k ByteArray.empty) = true) : l.findIdx? p = some k := by
  rw [List.findIdx?_eq_some_iff_getElem]
  refine ⟨hk, by simpa [hk] using hp, fun j hj => ?_⟩
  have := hno j hj
  simpa [show j < l.length by omega] using this
theorem findIdx_miss {p : ByteArray → Bool} {l : List ByteArray} (hno : ∀ j, j < l.length → p (l.getD j ByteArray.empty) = false) : l.findIdx? p = none := by
  rw [List.findIdx?_eq_none_iff]
  intro x hx
  obtain ⟨j, hj, rfl⟩ := List.getElem_of_mem hx
  have := hno j hj
  simpa [hj] using this

theorem refWords_any (w : World) : Calls Try.prog 54 #[] w fun e w' => e = .returned (.slice (some ⟨w.heap.size, 0, none⟩) 11 11) ∧ w.alloc (.cells wsV 9) = w' := by
  go_enter Try.func54, Try.ntmps54
  go_wp2
  go_ret
  exact ⟨rfl, rfl⟩
theorem shWords_any (w : World) : Calls Try.prog 53 #[] w fun e w' => e = .returned (.slice (some ⟨w.heap.size, 0, none⟩) 11 11) ∧ w.alloc (.cells wsV 9) = w' := by
  go_enter Try.func53, Try.ntmps53
  go_wp2
  go_ret
  exact ⟨rfl, rfl⟩

def TagR (w : World) (r : Int × Int) (e : Ending) (w' : World) : Prop := e = .returned (.tuple #[.int .u8 r.1, I r.2]) ∧ New w w'

set_option maxHeartbeats 1000000 in
theorem shTag_any (s : ByteArray) (w : World) : Calls Try.prog 34 #[.string s] w (TagR w (tagS s)) := by
  have hcell : ∀ k, k < 11 → (w.alloc (.cells wsV 9)).cell? ⟨w.heap.size, k, none⟩ = some (.string (ws.getD k ByteArray.empty)) := fun k hk => by
    rw [World.cell?_alloc_new]; exact wsV_at k hk
  have HC := Lib.hid hcell
  clear hcell
  go_enter Try.func34, Try.ntmps34
  go_wp2_with (go_at_call 53; (with_reducible refine (shWords_any _).mono ?_); rintro e w' ⟨rfl, rfl⟩)
  go_loopw [8] (fun i wr => ∃ k : Nat, k ≤ 11 ∧ i = .int .i64 k ∧ (∀ j, j < k → ((ws.getD j ByteArray.empty).toList == s.toList) = false) ∧ wr = w.alloc (.cells wsV 9)) (fun i _ => 11 - (intOf i).toNat)
  case atStart => exact ⟨0, by omega, rfl, by omega, rfl⟩
  case round =>
    obtain ⟨k, hk, rfl, hall, rfl⟩ := hrel
    have HA := Lib.hid hall
    clear hall
    by_cases hk1 : k < 11
    · have hc := HC.out k hk1
      obtain ⟨u, hu⟩ : ∃ u, u = ws.getD k ByteArray.empty := ⟨_, rfl⟩
      rw [← hu] at hc
      have HU := Lib.hid hu
      clear hu
      go_wp2
      · have hyes : (u.toList == s.toList) = true := by assumption
        go_ret2
        have := findIdx_hit (p := fun u => u.toList == s.toList) (l := ws) (k := k) (by rw [ws_len]; omega) HA.out (by rw [← HU.out]; exact hyes)
        exact ⟨by unfold tagS; rw [this]; simp [Int.add_comm], Keeps.alloc _ _⟩
      · have hno : (u.toList == s.toList) = false := by assumption
        go_roundw
        case rel =>
          refine ⟨k + 1, by omega, by go_num, fun j hj => ?_, (by first | rfl | trivial)⟩
          by_cases e : j < k
          · exact HA.out j e
          · obtain rfl : j = k := by omega
            rw [← HU.out]; exact hno
        case measure => simp [intOf]; omega
    · obtain rfl : k = 11 := by omega
      go_wp2
      go_ret2
      have := findIdx_miss (p := fun u => u.toList == s.toList) (l := ws) HA.out
      exact ⟨by unfold tagS; rw [this]; rfl, Keeps.alloc _ _⟩

def WordR_refWord_any (w : World) (r : ByteArray × Int) (e : Ending) (w' : World) : Prop := e = .returned (.tuple #[.string r.1, I r.2]) ∧ New w w'
set_option maxRecDepth 100000 in
set_option maxHeartbeats 1000000 in
theorem refWord_any (t : Int) (h0 : 0 ≤ t) (h255 : t ≤ 255) (w : World) : Calls Try.prog 32 #[.int .u8 t] w (WordR_refWord_any w (wordS t)) := by
  have hcell : ∀ k, k < 11 → (w.alloc (.cells wsV 9)).cell? ⟨w.heap.size, k, none⟩ = some (.string (ws.getD k ByteArray.empty)) := fun k hk => by
    rw [World.cell?_alloc_new]; exact wsV_at k hk
  have HC := Lib.hid hcell
  clear hcell
  by_cases h1 : 1 ≤ t ∧ t ≤ 11
  · obtain ⟨h1, h2⟩ := h1
    have hc := HC.out (t - 1).toNat (by omega)
    have hr : wordS t = (ws.getD (t - 1).toNat ByteArray.empty, 0) := by unfold wordS; rw [if_pos ⟨h1, h2⟩]
    have HR := Lib.hid hr; clear hr
    generalize ws.getD (t - 1).toNat ByteArray.empty = u at hc HR
    obtain ⟨k, hk⟩ : ∃ k : Nat, t = (k : Int) + 1 := ⟨(t - 1).toNat, by omega⟩
    subst hk
    have e : ((k : Int) + 1 - 1).toNat = k := by omega
    rw [e] at hc
    clear e
    go_enter Try.func32, Try.ntmps32
    go_wp2_with (go_at_call 54; (with_reducible refine (refWords_any _).mono ?_); rintro e w' ⟨rfl, rfl⟩)
    go_ret2
    rw [HR.out]
    exact ⟨rfl, Keeps.alloc _ _⟩
  · have hr : wordS t = (ByteArray.empty, 60) := by unfold wordS; rw [if_neg h1]
    have HR := Lib.hid hr; clear hr
    by_cases h3 : t < 1
    · go_enter Try.func32, Try.ntmps32
      go_wp2_with fail
      go_ret2
      rw [HR.out]
      exact ⟨rfl, New.refl _⟩
    · have h4 : 11 < t := by omega
      go_enter Try.func32, Try.ntmps32
      go_wp2_with fail
      go_ret2
      rw [HR.out]
      exact ⟨rfl, New.refl _⟩

def WordR_shWord_any (w : World) (r : ByteArray × Int) (e : Ending) (w' : World) : Prop := e = .returned (.tuple #[.string r.1, I r.2]) ∧ New w w'
set_option maxRecDepth 100000 in
set_option maxHeartbeats 1000000 in
theorem shWord_any (t : Int) (h0 : 0 ≤ t) (h255 : t ≤ 255) (w : World) : Calls Try.prog 30 #[.int .u8 t] w (WordR_shWord_any w (wordS t)) := by
  have hcell : ∀ k, k < 11 → (w.alloc (.cells wsV 9)).cell? ⟨w.heap.size, k, none⟩ = some (.string (ws.getD k ByteArray.empty)) := fun k hk => by
    rw [World.cell?_alloc_new]; exact wsV_at k hk
  have HC := Lib.hid hcell
  clear hcell
  by_cases h1 : 1 ≤ t ∧ t ≤ 11
  · obtain ⟨h1, h2⟩ := h1
    have hc := HC.out (t - 1).toNat (by omega)
    have hr : wordS t = (ws.getD (t - 1).toNat ByteArray.empty, 0) := by unfold wordS; rw [if_pos ⟨h1, h2⟩]
    have HR := Lib.hid hr; clear hr
    generalize ws.getD (t - 1).toNat ByteArray.empty = u at hc HR
    obtain ⟨k, hk⟩ : ∃ k : Nat, t = (k : Int) + 1 := ⟨(t - 1).toNat, by omega⟩
    subst hk
    have e : ((k : Int) + 1 - 1).toNat = k := by omega
    rw [e] at hc
    clear e
    go_enter Try.func30, Try.ntmps30
    go_wp2_with (go_at_call 53; (with_reducible refine (shWords_any _).mono ?_); rintro e w' ⟨rfl, rfl⟩)
    go_ret2
    rw [HR.out]
    exact ⟨rfl, Keeps.alloc _ _⟩
  · have hr : wordS t = (ByteArray.empty, 60) := by unfold wordS; rw [if_neg h1]
    have HR := Lib.hid hr; clear hr
    by_cases h3 : t < 1
    · go_enter Try.func30, Try.ntmps30
      go_wp2_with fail
      go_ret2
      rw [HR.out]
      exact ⟨rfl, New.refl _⟩
    · have h4 : 11 < t := by omega
      go_enter Try.func30, Try.ntmps30
      go_wp2_with fail
      go_ret2
      rw [HR.out]
      exact ⟨rfl, New.refl _⟩

end Go.Proofs.Ytpljnapglbmdlaa
