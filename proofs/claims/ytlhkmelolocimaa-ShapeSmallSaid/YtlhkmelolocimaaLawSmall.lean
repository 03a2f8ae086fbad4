/-
  'ShapeSmall': the law returns true at every input; what it is handed reads afterwards as before.
-/
import Derived.Test.YtlhkmelolocimaaRead
import Derived.Test.YtlhkmelolocimaaShapeJ
namespace Go.Proofs.Ytlhkmelolocimaa.shapeSmall
open Go Go.RowKit Go.ChangeShapes Go.WideShapes Go.ChangeAt
open Go.ChangeMaps (open_string shut_string)
set_option linter.all false

theorem walk (w : World) (a0 : Int) (h00 : 0 ≤ a0) (h01 : a0 ≤ 255) (a1 : Option Addr) (c1 : Nat) (x1 : List Int) (h1 : SlAt w a1 (x1.map (Value.int .i64))) (r1 : ∀ x ∈ x1, (Lit.int .i64 x).wf = true) (l1 : x1.length ≤ maxLen) :
    Calls Try.prog 6 #[.int .u8 a0, .slice a1 x1.length c1] w fun e w' => e = .returned (.bool true) ∧ New w w' := by
  have l1' : x1.length ≤ 9223372036854775807 := by unfold maxLen at l1; exact l1
  obtain ⟨e4, xs, ys, h4⟩ : ∃ e4 xs ys, shapeS a0 x1 = (e4, xs, ys) := ⟨_, _, _, rfl⟩
  have hs := small a0 x1 e4 xs ys h4
  have H4 := Lib.hid h4
  clear h4
  have HS := Lib.hid hs
  clear hs
  go_enter Try.func6, Try.ntmps6
  go_wp2_with fail
  refine (shOf_is a0 _ _ x1 _ _ H4.out h1 l1').mono ?_
  rintro e w1 ⟨aa, cc, bb, dd, rfl, o, p, _, n1⟩
  simp only at o p
  have la := len_le o
  have lb := len_le p
  have sa := o.sl
  have sb := p.sl
  clear o p
  rcases HS.out with ⟨hne, hx, hy, ht⟩ | ⟨hz, t1, t2, ta, tb, tc⟩
  · subst hx hy
    have hne' : (e4 != 0) = true := by simpa using hne
    rcases ht with ⟨he, ht⟩ | ⟨he, t1, t2⟩
    · subst he
      rcases ht with ht | ht
      all_goals
        go_wp2_with (go_at_call 14; (with_reducible refine (awake_any _).mono ?_); rintro e w9 ⟨rfl, n9⟩)
        go_ret
        exact ⟨rfl, n1.trans n9⟩
    · subst he
      go_wp2_with (go_at_call 14; (with_reducible refine (awake_any _).mono ?_); rintro e w9 ⟨rfl, n9⟩)
      go_ret
      exact ⟨ret_bool (by simp; omega), n1.trans n9⟩
  · subst hz
    go_wp2_with fail
    refine (total_any _ _ xs _ sa la).mono ?_
    rintro e w2 ⟨rfl, m1, rfl⟩
    go_wp2_with fail
    refine (total_any _ _ ys _ (sb.drewN _) lb).mono ?_
    rintro e w3 ⟨rfl, m2, rfl⟩
    generalize totalS xs = n at ta tc
    generalize totalS ys = m at tb tc
    obtain ⟨ta1, ta2⟩ := ta
    obtain ⟨tb1, tb2⟩ := tb
    go_wp2_with (go_at_call 14; (with_reducible refine (awake_any _).mono ?_); rintro e w9 ⟨rfl, n9⟩)
    go_ret
    exact ⟨rfl, (n1.drewN _).trans n9⟩

set_option maxRecDepth 100000 in
theorem lifted (os : Os) (started : os.Started) (H : Type) (enc : TypeId × Value → H) :
    ReturnsInHanded {} Try.checked os 6 .any (Rows.shapeSmallSpec.pre6 enc Try.prog Try.f6 Rows.shapeSmallRow.domain false) (Rows.shapeSmallSpec.post enc Try.prog Try.f6 false true false false) := by
  refine returnsInHanded_of_change (C := Try.checked) own started (by kernel_rfl) Try.func6
    (ChangeSpec.witness6 (enc := enc) (C := Try.checked) false ⟨#[], #[.int .u8 0, .slice none 0 0], []⟩ 8 (by kernel_rfl) (by kernel_rfl) (by kernel_rfl) (by kernel_rfl)) ?_
  intro W base args ds gs before hval0 hW hcnd _
  have hval : ∀ (j : Nat) t v, Try.f6.params[j]? = some t → args[j]? = some v → Value.okWide Try.prog W .any base t v := hval0
  have hW' := hW
  obtain ⟨p, q, hA0, hV, rfl, hfz, hnd⟩ := hW
  have hA : DataW.TrodAll enc Try.prog W 0 (fun _ => true) true Try.f6.params.toList args.toList ds p := hA0
  rw [Try.params6] at hA hval
  obtain ⟨v0, vs0, d0, ds0, p0, q0, hargs, rfl, rfl, h0, r0'⟩ := trodAll_cons hA
  obtain ⟨v1, vs1, d1, ds1, p1, q1, rfl, rfl, rfl, h1, r1'⟩ := trodAll_cons r0'
  obtain ⟨rfl, rfl, rfl⟩ := trodAll_nil r1'
  obtain rfl : args = #[v0, v1] := by cases args; simp_all
  obtain ⟨rfl, rfl⟩ := trodVars_none hV
  have k0 := h0
  have lt0 : ∀ x ∈ p0, x.block < W.heap.size := by obtain ⟨m, hm⟩ := k0; exact DataW.trod_lt m _ _ _ hm
  have k1 := h1
  have lt1 : ∀ x ∈ p1, x.block < W.heap.size := by obtain ⟨m, hm⟩ := k1; exact DataW.trod_lt m _ _ _ hm
  obtain ⟨a0, rfl, _, _, w0⟩ := open_int Try.underlying5 (hval 0 5 v0 rfl rfl) h0
  obtain ⟨a1, n1, c1, rfl⟩ := okWide_slice Try.underlying22 (hval 1 22 v1 rfl rfl)
  obtain ⟨x1, rfl, sl1, r1, l1, _, dd1⟩ := read_ints h1
  clear hA0 hval0
  refine (walk W a0 (wf_u8 w0).1 (wf_u8 w0).2 a1 c1 x1 sl1 r1 l1).mono fun e W' ⟨he, hnew⟩ => ?_
  have bel := hnew.below
  subst he
  exact ⟨_, rfl, _, _, _, [], _, [], hW', trodAll_mk1 (shut_bool Try.underlying4 _), (trodAll_cons_mk (Below.trod laidOut (by kernel_rfl) (of_decide_eq_true (by kernel_rfl)) k0 bel lt0) (trodAll_cons_mk (Below.trod laidOut (by kernel_rfl) (of_decide_eq_true (by kernel_rfl)) k1 bel lt1) trodAll_mk0)), rfl, bel.frame _, fun h => by cases h⟩

theorem over : Rows.shapeSmallRow.holds Try.pinned (OpenSpec.ofChange Rows.shapeSmallSpec) :=
  OpenClaim.holds_of_wide 6 Try.f6 rfl rfl rfl rfl rfl rfl rfl ⟨rfl, rfl, rfl, rfl, rfl⟩ rfl rfl rfl rfl rfl (by kernel_rfl) Try.func6 (by kernel_rfl)
    (of_decide_eq_true (by kernel_rfl)) (by unfold Func.isWrapper; first | (rw [if_pos (by decide +kernel)]; kernel_rfl) | (rw [if_neg (by decide +kernel)]; exact ⟨rfl, rfl⟩))
    (fun os started H enc _ => lifted os started H enc)

/-- THE STATEMENT. -/
theorem proved : Rows.ShapeSmallSaid := over
end Go.Proofs.Ytlhkmelolocimaa.shapeSmall
