/-
  'NetNil': the law returns true at every input; what it is handed reads afterwards as before.
-/
import Derived.Test.YtijlgcbnoekmeaaRead
import Derived.Test.YtijlgcbnoekmeaaNetI
namespace Go.Proofs.Ytijlgcbnoekmeaa.netNil
open Go Go.RowKit Go.ChangeShapes Go.WideShapes Go.ChangeAt
open Go.ChangeMaps (open_string shut_string)
set_option linter.all false

theorem walk (w : World) (a0 : Option Addr) (c0 : Nat) (x0 : List Int) (h0 : SlAt w a0 (x0.map (Value.int .i64))) (r0 : ∀ x ∈ x0, (Lit.int .i64 x).wf = true) (l0 : x0.length ≤ maxLen) :
    Calls Try.prog 9 #[.slice a0 x0.length c0] w fun e w' => e = .returned (.bool true) ∧ New w w' := by
  unfold maxLen at l0
  go_enter Try.func9, Try.ntmps9
  go_wp2
  go_loopw [4] (fun i wr => ∃ k : Nat, k ≤ x0.length ∧ i = .int .i64 k ∧ wr = w) (fun i _ => x0.length - (intOf i).toNat)
  case atStart => exact ⟨0, Nat.zero_le _, rfl, rfl⟩
  case round =>
    obtain ⟨k, hk, rfl, rfl⟩ := hrel
    by_cases hk1 : k < x0.length
    · obtain ⟨b, off, rfl, q⟩ := Is_at h0 hk1
      have hk0 : (k : Int) < (x0.length : Int) := by omega
      go_wp2_with (first
        | (go_at_call 26; refine (mayNil_any _ _).mono ?_; rintro e w' ⟨rfl, rfl⟩)
        | (go_at_call 27; refine (shortNil_any _ _).mono ?_; rintro e w' ⟨rfl, rfl⟩))
      go_roundw
      case rel => exact ⟨k + 1, by omega, by go_num, by first | trivial | rfl⟩
      case measure => simp [intOf]; omega
    · go_wp2_with (first
        | (go_at_call 20; refine (fireNil_any _ _).mono ?_; rintro e w' ⟨rfl, rfl⟩)
        | (go_at_call 24; refine (countsNil_any _).mono ?_; rintro e w' ⟨rfl, rfl⟩)
        | (go_at_call 23; refine (firedNil_any _).mono ?_; rintro e w' ⟨rfl, rfl⟩)
        | (go_at_call 16; refine (awake_any _).mono ?_; rintro e w' ⟨rfl, n9⟩))
      go_ret
      exact ⟨rfl, n9⟩
set_option maxRecDepth 100000 in
theorem lifted (os : Os) (started : os.Started) (H : Type) (enc : TypeId × Value → H) :
    ReturnsInHanded {} Try.checked os 9 .any (Rows.netNilSpec.pre6 enc Try.prog Try.f9 Rows.netNilRow.domain false) (Rows.netNilSpec.post enc Try.prog Try.f9 false true false false) := by
  refine returnsInHanded_of_change (C := Try.checked) own started (by kernel_rfl) Try.func9
    (ChangeSpec.witness6 (enc := enc) (C := Try.checked) false ⟨#[], #[.slice none 0 0], []⟩ 8 (by kernel_rfl) (by kernel_rfl) (by kernel_rfl) (by kernel_rfl)) ?_
  intro W base args ds gs before hval0 hW hcnd _
  have hval : ∀ (j : Nat) t v, Try.f9.params[j]? = some t → args[j]? = some v → Value.okWide Try.prog W .any base t v := hval0
  have hW' := hW
  obtain ⟨p, q, hA0, hV, rfl, hfz, hnd⟩ := hW
  have hA : DataW.TrodAll enc Try.prog W 0 (fun _ => true) true Try.f9.params.toList args.toList ds p := hA0
  rw [Try.params9] at hA hval
  obtain ⟨v0, vs0, d0, ds0, p0, q0, hargs, rfl, rfl, h0, r0'⟩ := trodAll_cons hA
  obtain ⟨rfl, rfl, rfl⟩ := trodAll_nil r0'
  obtain rfl : args = #[v0] := by cases args; simp_all
  obtain ⟨rfl, rfl⟩ := trodVars_none hV
  have k0 := h0
  have lt0 : ∀ x ∈ p0, x.block < W.heap.size := by obtain ⟨m, hm⟩ := k0; exact DataW.trod_lt m _ _ _ hm
  obtain ⟨a0, n0, c0, rfl⟩ := okWide_slice Try.underlying37 (hval 0 37 v0 rfl rfl)
  obtain ⟨x0, rfl, sl0, r0, l0, _, dd0⟩ := read_ints h0
  clear hA0 hval0
  refine (walk W a0 c0 x0 sl0 r0 l0).mono fun e W' ⟨he, hnew⟩ => ?_
  have bel := hnew.below
  subst he
  exact ⟨_, rfl, _, _, _, [], _, [], hW', trodAll_mk1 (shut_bool Try.underlying4 _), (trodAll_cons_mk (Below.trod laidOut (by kernel_rfl) (of_decide_eq_true (by kernel_rfl)) k0 bel lt0) trodAll_mk0), rfl, bel.frame _, fun h => by cases h⟩

theorem over : Rows.netNilRow.holds Try.pinned (OpenSpec.ofChange Rows.netNilSpec) :=
  OpenClaim.holds_of_wide 9 Try.f9 rfl rfl rfl rfl rfl rfl rfl ⟨rfl, rfl, rfl, rfl, rfl⟩ rfl rfl rfl rfl rfl (by kernel_rfl) Try.func9 (by kernel_rfl)
    (of_decide_eq_true (by kernel_rfl)) (by unfold Func.isWrapper; first | (rw [if_pos (by decide +kernel)]; kernel_rfl) | (rw [if_neg (by decide +kernel)]; exact ⟨rfl, rfl⟩))
    (fun os started H enc _ => lifted os started H enc)

/-- THE STATEMENT. -/
theorem proved : Rows.NetNilSaid := over
end Go.Proofs.Ytijlgcbnoekmeaa.netNil
