/-
  Layer 5: stands.
-/
import Derived.Test.YtohalcbhckahmaaDoorSkR
import Derived.Test.YtohalcbhckahmaaDoorSkK
namespace Go.Proofs.YtohalcbhckahmaaDoor
open Go Go.RowKit Go.Joins
set_option linter.all false

theorem own_len' {w : World} {B e size n c : Nat} {a : Option Addr} {xs : List Value} (h : w.ownsRow B e size (.slice a n c) n xs) : n ≤ 9223372036854775807 := by
  rcases h.2 with ⟨h0, h1⟩ | ⟨g, cap, cur, h0, hb, hg, hnc, hcm, _⟩
  · omega
  · unfold maxLen at hcm; omega
theorem parse_len {s : List UInt8} {x : LSk} (h : parseA s = .ok x) : s.length ≤ 1048576 := by
  unfold parseA at h
  obtain ⟨⟨l, c, k⟩, hA⟩ : ∃ r, lexA s = r := ⟨_, rfl⟩
  rw [hA] at h
  simp only at h
  split at h
  · cases h
  · rename_i hc
    rcases lexA_code hA with ⟨_, _, _, e, _⟩ | ⟨e, _⟩
    · exact e
    · rcases e with ⟨e, _⟩ | ⟨e, _⟩ <;> omega
set_option maxRecDepth 100000 in
set_option maxHeartbeats 4000000 in
theorem stands_yes (w : World) (s wd : ByteArray) (k : Nat) (h : StandsU s.data.toList wd.data.toList k) (hs : s.size ≤ 2000000) :
    Calls Tryd.prog 22 #[.string s, .string wd, I (k : Int)] w fun e w' => e = .returned (.bool true) ∧ w' = w := by
  obtain ⟨h1, h2⟩ := h
  rw [toList_len, toList_len] at h1
  rw [toList_len] at h2
  have hex : s.extract k (k + wd.size) = wd := by
    apply ByteArray.ext
    apply Array.toList_inj.1
    rw [extract_take, h2]
  have d1 : decide ((0 : Int) ≤ (k : Int)) = true := decide_eq_true (by omega)
  have d2 : decide ((k : Int) ≤ (s.size : Int)) = true := decide_eq_true (by omega)
  have q1 : IntKind.i64.wrap ((s.size : Int) - (k : Int)) = (s.size : Int) - (k : Int) := IntWalk.i64_in _ (by omega)
  have d3 : decide ((wd.size : Int) ≤ (s.size : Int) - (k : Int)) = true := decide_eq_true (by omega)
  have q2 : IntKind.i64.wrap ((k : Int) + (wd.size : Int)) = ((k + wd.size : Nat) : Int) := by rw [IntWalk.i64_in _ (by omega)]; omega
  have ey := lx_yes wd
  have hb1 : k + wd.size ≤ s.size := h1
  have hb2 : k ≤ k + wd.size := by omega
  have hi1 : (k : Int) ≤ (s.size : Int) := by omega
  have hi3 : (wd.size : Int) ≤ (s.size : Int) - (k : Int) := by omega
  clear h2
  go_enter Tryd.func22, Tryd.ntmps22
  go_wp2_with fail
  go_ret
  exact ⟨rfl, rfl⟩
/-- The fault that Parse hands out. -/
def faultOf : Except (Int × Nat) LSk → Int × Nat
  | .ok _ => (0, 0)
  | .error e => e
theorem skparse_f (w : World) (s : ByteArray) (he : Env w) (hs : s.size ≤ 9223372036854775807) (c : Int) (k : Nat) (h : faultOf (parseA s.data.toList) = (c, k)) :
    Calls Tryd.prog 11 #[.string s] w fun e w' => ∃ nm ia n ic, e = .returned (.tuple #[.agg #[.string nm, .slice ia n ic], .agg #[I c, I (k : Int)]]) ∧ New w w' := by
  refine (parse_any w s he hs).mono ?_
  intro e w' hp
  cases hr : parseA s.data.toList with
  | error ck =>
    rw [hr] at hp h
    obtain ⟨c', k'⟩ := ck
    cases h
    exact ⟨_, _, _, _, hp.1, hp.2⟩
  | ok x =>
    rw [hr] at hp h
    cases h
    obtain ⟨t, ht, rfl, hown, n1⟩ := hp
    exact ⟨t.name, t.ia, t.items.length, t.ic, rfl, n1⟩
end Go.Proofs.YtohalcbhckahmaaDoor
