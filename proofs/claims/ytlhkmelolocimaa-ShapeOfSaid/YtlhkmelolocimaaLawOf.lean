/-
  'ShapeOf': the law returns true at every input; what it is handed reads afterwards as before.
-/
import Derived.Test.YtlhkmelolocimaaRead
import Derived.Test.YtlhkmelolocimaaShapeJ
import Derived.Test.YtlhkmelolocimaaApart2
namespace Go.Proofs.Ytlhkmelolocimaa.shapeOf
open Go Go.RowKit Go.ChangeShapes Go.WideShapes Go.ChangeAt
open Go.ChangeMaps (open_string shut_string)
set_option linter.all false

theorem walk (w : World) (a0 : Int) (h00 : 0 ≤ a0) (h01 : a0 ≤ 255) (a1 : Option Addr) (c1 : Nat) (x1 : List Int) (h1 : SlAt w a1 (x1.map (Value.int .i64))) (r1 : ∀ x ∈ x1, (Lit.int .i64 x).wf = true) (l1 : x1.length * 8 ≤ 140737488351232) :
    Calls Try.prog 3 #[.int .u8 a0, .slice a1 x1.length c1] w fun e w' => e = .returned (.bool true) ∧ New w w' := by
  have l1' : x1.length ≤ 9223372036854775807 := by omega
  obtain ⟨e4, xs, ys, h4⟩ : ∃ e4 xs ys, shapeS a0 x1 = (e4, xs, ys) := ⟨_, _, _, rfl⟩
  obtain ⟨lx, ly⟩ := shape_len a0 x1 e4 xs ys h4
  have H4 := Lib.hid h4
  clear h4
  go_enter Try.func3, Try.ntmps3
  go_wp2_with fail
  refine (lent_any _ _ x1 _ h1 l1).mono ?_
  rintro e w1 ⟨g, rfl, hgw, hg, n1⟩
  have hg1 : g < w1.heap.size := (Array.getElem?_eq_some_iff.1 hg).1
  go_wp2_with fail
  refine (refOf_is a0 _ _ x1 _ _ H4.out (h1.new n1) l1').mono ?_
  rintro e w2 ⟨aa, cc, bb, dd, rfl, o, p, _, n2⟩
  have hg2 := n2.heap hg (fun h => h)
  have hs : SlAt w2 (some ⟨g, 0, none⟩) (Is x1) := by
    have := (SlAt.block hg2).take x1.length
    simpa using this
  go_wp2_with fail
  refine (shOf_is a0 _ _ x1 _ _ H4.out hs l1').mono ?_
  rintro e w3 ⟨ac, cc2, ad, dd2, rfl, o2, p2, hab, n3⟩
  have hg3 := n3.heap hg2 (fun h => h)
  have so := (o.new n3).sl
  have sp := (p.new n3).sl
  have so2 := o2.sl
  have sp2 := p2.sl
  simp only at o p o2 p2 so sp so2 sp2
  have hgl : g < w2.heap.size := (Array.getElem?_eq_some_iff.1 hg2).1
  have HO := Lib.hid (And.intro o2 (And.intro p2 (And.intro hab (And.intro hg3 hgl))))
  have HP := Lib.hid (And.intro o p)
  clear o2 p2 hab hg hg2 hg3 hgl hs o p
  go_wp2_with fail
  refine (sameInts_is _ _ _ xs xs _ _ _ _ so so2 rfl rfl true (by simp) (by omega)).mono ?_
  rintro e w4 ⟨rfl, m1, rfl⟩
  go_wp2_with fail
  refine (sameInts_is _ _ _ ys ys _ _ _ _ (sp.drewN _) (sp2.drewN _) rfl rfl true (by simp) (by omega)).mono ?_
  rintro e w5 ⟨rfl, m2, rfl⟩
  clear so sp so2 sp2
  go_wp2_with fail
  obtain ⟨o2, p2, hab, hg3, hgl⟩ := HO.out
  have hs1 := n1.size
  have hs2 := n2.size
  have hs3 := n3.size
  have hkd : New w3 (w3.drewN (m1 + m2)) := Keeps.drewN _ _
  refine (apart3 (w3.drewN (m1 + m2)) _ w.heap.size (by simp) ac ad (some ⟨g, 0, none⟩) _ _ _ _ _ _ _ _ _
    (hkd.owns (ownsRow_rebase o2 (fun k hk => by have := World.ownsRow.lt o2 k hk; omega))) (hkd.owns (ownsRow_rebase p2 (fun k hk => by have := World.ownsRow.lt p2 k hk; omega)))
    (hkd.owns (lent_row hg3 l1 _ hgw)) ?d1 ?d2 ?d3 (by simp; omega) (by omega) (by omega) (by omega)).mono ?_
  case d1 => rintro k ⟨x, hx, rfl⟩ ⟨y, hy, hxy⟩; exact hab x y hx hy hxy.symm
  case d2 =>
    rintro k ⟨x, hx, rfl⟩ ⟨y, hy, hxy⟩
    have := o2.lt x hx
    simp only [Option.some.injEq] at hy; subst hy; simp at hxy; omega
  case d3 =>
    rintro k ⟨x, hx, rfl⟩ ⟨y, hy, hxy⟩
    have := p2.lt x hx
    simp only [Option.some.injEq] at hy; subst hy; simp at hxy; omega
  rintro e w6 ⟨rfl, hk6⟩
  have far : ∀ k, (blk ac k ∨ blk ad k ∨ blk (some ⟨g, 0, none⟩) k) → k = g ∨ w2.heap.size ≤ k := by
    rintro k (⟨x, hx, rfl⟩ | ⟨x, hx, rfl⟩ | ⟨x, hx, rfl⟩)
    · exact .inr (o2.lt x hx).1
    · exact .inr (p2.lt x hx).1
    · simp only [Option.some.injEq] at hx; subst hx; exact .inl rfl
  have hkw : New w w6 := ((n1.trans n2).trans n3).keeps (Keeps.trans (S := fun k => blk ac k ∨ blk ad k ∨ blk (some ⟨g, 0, none⟩) k) (Keeps.drewN _ _) hk6 (fun _ _ h => h)) (fun k hk hb => by
    rcases far k hb with rfl | h
    · omega
    · omega)
  have hk36 : Keeps (fun k => blk ac k ∨ blk ad k ∨ blk (some ⟨g, 0, none⟩) k) w3 w6 := Keeps.trans (S := fun k => blk ac k ∨ blk ad k ∨ blk (some ⟨g, 0, none⟩) k) (Keeps.drewN _ _) hk6 (fun _ _ h => h)
  obtain ⟨o, p⟩ := HP.out
  have so : SlAt w6 aa (Is xs) := (o.new n3).sl.keeps hk36 (fun a ha hb => by
    have hl := o.lt a ha
    rcases far _ hb with h | h
    · omega
    · omega)
  have sp : SlAt w6 bb (Is ys) := (p.new n3).sl.keeps hk36 (fun a ha hb => by
    have hl := p.lt a ha
    rcases far _ hb with h | h
    · omega
    · omega)
  have hx6 := h1.new hkw
  clear hk6 hk36 o p o2 p2 hab hg3 hgl far hs1 hs2 hs3 hkd
  go_wp2_with fail
  refine (shOf_is a0 _ _ x1 _ _ H4.out hx6 l1').mono ?_
  rintro e w7 ⟨ag, cg, ah, ch, rfl, o7, p7, _, n7⟩
  have so7 := o7.sl
  have sp7 := p7.sl
  have so6 := so.new n7
  have sp6 := sp.new n7
  clear o7 p7 so sp hx6
  simp only at so7 sp7
  go_wp2_with fail
  refine (sameInts_is _ _ _ xs xs _ _ _ _ so6 so7 rfl rfl true (by simp) (by omega)).mono ?_
  rintro e w8 ⟨rfl, m3, rfl⟩
  go_wp2_with fail
  refine (sameInts_is _ _ _ ys ys _ _ _ _ (sp6.drewN _) (sp7.drewN _) rfl rfl true (by simp) (by omega)).mono ?_
  rintro e w8 ⟨rfl, m4, rfl⟩
  go_wp2_with fail
  refine (awake_any _).mono ?_
  rintro e w9 ⟨rfl, n9⟩
  go_wp2_with fail
  go_ret
  exact ⟨rfl, ((hkw.trans n7).drewN _).trans n9⟩

set_option maxRecDepth 100000 in
theorem lifted (os : Os) (started : os.Started) (H : Type) (enc : TypeId × Value → H) :
    ReturnsInHanded {} Try.checked os 3 .any (Rows.shapeOfSpec.pre6 enc Try.prog Try.f3 Rows.shapeOfRow.domain false) (Rows.shapeOfSpec.post enc Try.prog Try.f3 false true false false) := by
  refine returnsInHanded_of_change_sized (C := Try.checked) own started (by kernel_rfl) Try.func3
    (ChangeSpec.witness6 (enc := enc) (C := Try.checked) false ⟨#[], #[.int .u8 0, .slice none 0 0], []⟩ 8 (by kernel_rfl) (by kernel_rfl) (by kernel_rfl) (by kernel_rfl)) ?_
  intro W base args ds gs before hval0 hW hcnd hsz0 _
  have hval : ∀ (j : Nat) t v, Try.f3.params[j]? = some t → args[j]? = some v → Value.okWide Try.prog W .any base t v := hval0
  have hsz : (DataW.weightsEach Try.prog (Try.f3.params.toList ++ Rows.shapeOfSpec.plain.varTypes Try.prog) (ds ++ gs)).all (· ≤ reachBytes) = true := hsz0
  clear hsz0
  have hW' := hW
  obtain ⟨p, q, hA0, hV, rfl, hfz, hnd⟩ := hW
  have hA : DataW.TrodAll enc Try.prog W 0 (fun _ => true) true Try.f3.params.toList args.toList ds p := hA0
  rw [Try.params3] at hA hval hsz
  obtain ⟨v0, vs0, d0, ds0, p0, q0, hargs, rfl, rfl, h0, r0'⟩ := trodAll_cons hA
  obtain ⟨v1, vs1, d1, ds1, p1, q1, rfl, rfl, rfl, h1, r1'⟩ := trodAll_cons r0'
  obtain ⟨rfl, rfl, rfl⟩ := trodAll_nil r1'
  obtain rfl : args = #[v0, v1] := by cases args; simp_all
  obtain ⟨rfl, rfl⟩ := trodVars_none hV
  have k0 := h0
  have lt0 : ∀ x ∈ p0, x.block < W.heap.size := by obtain ⟨m, hm⟩ := k0; exact DataW.trod_lt m _ _ _ hm
  have k1 := h1
  have lt1 : ∀ x ∈ p1, x.block < W.heap.size := by obtain ⟨m, hm⟩ := k1; exact DataW.trod_lt m _ _ _ hm
  obtain ⟨a0, rfl, _, _, w0⟩ := open_int Try.underlying5 (hval 0 5 v0 rfl rfl) h0
  obtain ⟨a1, n1, c1, rfl⟩ := okWide_slice Try.underlying22 (hval 1 22 v1 rfl rfl)
  obtain ⟨x1, rfl, sl1, r1, l1, _, dd1⟩ := read_ints h1
  have l1' : x1.length * 8 ≤ 140737488351232 := by
    rcases dd1 with ⟨_, rfl⟩ | ⟨spare, rfl⟩
    · simp
    · have := sized_slice hsz (j := 1) (t := 22) (e := 3) rfl rfl Try.underlying22
      rw [show Try.prog.bytesOf 3 = 8 by kernel_rfl] at this
      simp only [lits_len, reachBytes] at this
      omega
  clear hA0 hval0
  refine (walk W a0 (wf_u8 w0).1 (wf_u8 w0).2 a1 c1 x1 sl1 r1 l1').mono fun e W' ⟨he, hnew⟩ => ?_
  have bel := hnew.below
  subst he
  exact ⟨_, rfl, _, _, _, [], _, [], hW', trodAll_mk1 (shut_bool Try.underlying4 _), (trodAll_cons_mk (Below.trod laidOut (by kernel_rfl) (of_decide_eq_true (by kernel_rfl)) k0 bel lt0) (trodAll_cons_mk (Below.trod laidOut (by kernel_rfl) (of_decide_eq_true (by kernel_rfl)) k1 bel lt1) trodAll_mk0)), rfl, bel.frame _, fun h => by cases h⟩

theorem over : Rows.shapeOfRow.holds Try.pinned (OpenSpec.ofChange Rows.shapeOfSpec) :=
  OpenClaim.holds_of_wide 3 Try.f3 rfl rfl rfl rfl rfl rfl rfl ⟨rfl, rfl, rfl, rfl, rfl⟩ rfl rfl rfl rfl rfl (by kernel_rfl) Try.func3 (by kernel_rfl)
    (of_decide_eq_true (by kernel_rfl)) (by unfold Func.isWrapper; first | (rw [if_pos (by decide +kernel)]; kernel_rfl) | (rw [if_neg (by decide +kernel)]; exact ⟨rfl, rfl⟩))
    (fun os started H enc _ => lifted os started H enc)

/-- THE STATEMENT. -/
theorem proved : Rows.ShapeOfSaid := over
end Go.Proofs.Ytlhkmelolocimaa.shapeOf
