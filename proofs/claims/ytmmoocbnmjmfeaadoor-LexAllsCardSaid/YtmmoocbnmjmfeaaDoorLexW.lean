/-
  Layer 4: the law's look at the apartness of two lists of tokens: its walk.
-/
import Derived.Test.YtmmoocbnmjmfeaaDoorLexV
namespace Go.Proofs.YtmmoocbnmjmfeaaDoor
open Go Go.RowKit Go.Joins
set_option linter.all false

theorem mk_at {w : World} {ao : Option Addr} {l : List LTok} (h : SlAt w ao (l.flatMap tokCells)) (i : Nat) (s : Int) (j : Nat) (hi : l[i]? = some ⟨s, [], (j : Int), 0⟩) :
    ∃ b off, ao = some ⟨b, off, none⟩ ∧ w.cell? ⟨b, off + i * 4, none⟩ = some (.int .u8 s) ∧ w.cell? ⟨b, off + i * 4 + 1, none⟩ = some (.string ⟨#[]⟩) ∧ w.cell? ⟨b, off + i * 4 + 2, none⟩ = some (I j) ∧ w.cell? ⟨b, off + i * 4 + 3, none⟩ = some (I 0) ∧ b < w.heap.size := by
  have hl : i < l.length := (List.getElem?_eq_some_iff.1 hi).1
  have e : l[i] = ⟨s, [], (j : Int), 0⟩ := (List.getElem?_eq_some_iff.1 hi).2
  obtain ⟨b, off, ea, q0, q1, q2, q3⟩ := toks_at h hl
  rw [e] at q0 q1 q2 q3
  exact ⟨b, off, ea, q0, q1, q2, q3, World.block_lt_of_cell? w _ q0⟩
theorem mkT_get? (s : Int) (n i : Nat) (h : i < n) : (mkT s n)[i]? = some ⟨s, [], (i : Int), 0⟩ := by
  rw [List.getElem?_eq_getElem (by rw [mkT_len]; exact h), mkT_get]
theorem mkT_get2 (s t : Int) (n m i : Nat) (h : i < m) : (mkT s n ++ mkT t m)[n + i]? = some ⟨t, [], (i : Int), 0⟩ := by
  rw [List.getElem?_append_right (by rw [mkT_len]; omega), mkT_len, show n + i - n = i by omega]
  exact mkT_get? t m i h
set_option maxRecDepth 100000 in
set_option maxHeartbeats 16000000 in
theorem apart_any (w0 w : World) (a : Option Addr) (n ca : Nat) (la : List LTok) (b : Option Addr) (m cb : Nat) (lb : List LTok) (h : Two w0 w a n ca la b m cb lb) (hla : la.length = n) (hlb : lb.length = m) (hn : n ≤ 2000000) (hm : m ≤ 2000000) :
    Calls Tryd.prog 15 #[.slice a n ca, .slice b m cb] w fun e w' => e = .returned (.bool true) ∧ New w0 w' := by
  obtain ⟨i0, hi0, hz0, hz1, hz2⟩ := info_parts infoTok
  have H0 := Lib.hid h
  have HLA := Lib.hid hla
  have HLB := Lib.hid hlb
  clear h hla hlb
  go_enter Tryd.func15, Tryd.ntmps15
  go_wp2_with fail
  go_loopw [5] (fun x wr => ∃ i : Nat, i ≤ n ∧ x = .int .i64 i ∧ Hid (Two w0 wr a n ca (mkT 77 i ++ la.drop i) b m cb lb)) (fun x _ => n - (intOf x).toNat)
  case atStart => exact ⟨0, by omega, rfl, Lib.hid (by have := H0.out; simpa [mkT] using this)⟩
  case round =>
    clear H0
    obtain ⟨i, hi, rfl, HT⟩ := hrel
    by_cases hi1 : i < n
    · obtain ⟨g, hg, hfz, hgl⟩ := row_addr HT.out.oa (by omega)
      have hl : i < (mkT 77 i ++ la.drop i).length := by rw [List.length_append, mkT_len, List.length_drop, HLA.out]; omega
      have ht := HT.out.storeA hg i hl ⟨77, [], (i : Int), 0⟩
      rw [mk_next _ _ _ (by rw [HLA.out]; exact hi1)] at ht
      subst hg
      have z0 := hfz (i * 4)
      have z1 := hfz (i * 4 + 1)
      have z2 := hfz (i * 4 + 2)
      have z3 := hfz (i * 4 + 3)
      obtain ⟨c0, c1, c2, c3⟩ : ∃ v0 v1 v2 v3, wr.cell? ⟨g, i * 4, none⟩ = some v0 ∧ wr.cell? ⟨g, i * 4 + 1, none⟩ = some v1 ∧ wr.cell? ⟨g, i * 4 + 2, none⟩ = some v2 ∧ wr.cell? ⟨g, i * 4 + 3, none⟩ = some v3 := by
        obtain ⟨b', o', e', q0, q1, q2, q3⟩ := toks_at (SlAt.of_owns HT.out.oa) hl
        cases e'
        exact ⟨_, _, _, _, by simpa using q0, by simpa using q1, by simpa using q2, by simpa using q3⟩
      have hiI : (i : Int) < (n : Int) := by omega
      unfold setTok at ht
      have HT2 := Lib.hid ht
      obtain ⟨v3, k0, k1, k2, k3⟩ := c3
      clear ht hfz
      go_wp2_with fail
      go_roundw
      case rel => exact ⟨i + 1, by omega, by go_num, HT2⟩
      case measure => simp [intOf]; omega
    · have hie : i = n := by omega
      have hiI : ¬ (i : Int) < (n : Int) := by omega
      have H0 : Hid (Two w0 wr a n ca (mkT 77 n) b m cb lb) := Lib.hid (by
        have := HT.out
        rw [hie, List.drop_of_length_le (by rw [HLA.out]; omega), List.append_nil] at this
        exact this)
      clear HT hie
      go_wp2_with fail
      go_loopw [6] (fun x wr => ∃ i : Nat, i ≤ m ∧ x = .int .i64 i ∧ Hid (Two w0 wr a n ca (mkT 77 n) b m cb (mkT 78 i ++ lb.drop i))) (fun x _ => m - (intOf x).toNat)
      case atStart => exact ⟨0, by omega, rfl, Lib.hid (by have := H0.out; simpa [mkT] using this)⟩
      case round =>
        clear H0
        obtain ⟨i, hi, rfl, HT⟩ := hrel
        by_cases hi1 : i < m
        · obtain ⟨g, hg, hfz, hgl⟩ := row_addr HT.out.ob (by omega)
          have hl : i < (mkT 78 i ++ lb.drop i).length := by rw [List.length_append, mkT_len, List.length_drop, HLB.out]; omega
          have ht := HT.out.storeB hg i hl ⟨78, [], (i : Int), 0⟩
          rw [mk_next _ _ _ (by rw [HLB.out]; exact hi1)] at ht
          subst hg
          have z0 := hfz (i * 4)
          have z1 := hfz (i * 4 + 1)
          have z2 := hfz (i * 4 + 2)
          have z3 := hfz (i * 4 + 3)
          obtain ⟨c0, c1, c2, c3⟩ : ∃ v0 v1 v2 v3, wr.cell? ⟨g, i * 4, none⟩ = some v0 ∧ wr.cell? ⟨g, i * 4 + 1, none⟩ = some v1 ∧ wr.cell? ⟨g, i * 4 + 2, none⟩ = some v2 ∧ wr.cell? ⟨g, i * 4 + 3, none⟩ = some v3 := by
            obtain ⟨b', o', e', q0, q1, q2, q3⟩ := toks_at (SlAt.of_owns HT.out.ob) hl
            cases e'
            exact ⟨_, _, _, _, by simpa using q0, by simpa using q1, by simpa using q2, by simpa using q3⟩
          have hiI : (i : Int) < (m : Int) := by omega
          unfold setTok at ht
          have HT2 := Lib.hid ht
          obtain ⟨v3, k0, k1, k2, k3⟩ := c3
          clear ht hfz
          go_wp2_with fail
          go_roundw
          case rel => exact ⟨i + 1, by omega, by go_num, HT2⟩
          case measure => simp [intOf]; omega
        · have hie : i = m := by omega
          have hiI : ¬ (i : Int) < (m : Int) := by omega
          have H0 : Hid (Four w0 wr a n ca b m cb a 0 ca b 0 cb) := Lib.hid (by
            have := HT.out
            rw [hie, List.drop_of_length_le (by rw [HLB.out]; omega), List.append_nil] at this
            exact Four.start this)
          clear HT hie
          go_wp2_with fail
          go_loopw [7, 9] (fun y x wr => ∃ (i : Nat) (ac : Option Addr) (cc : Nat), i ≤ 16 ∧ x = .int .i64 i ∧ y = .slice ac (n + i) cc ∧ Hid (Four w0 wr a n ca b m cb ac i cc b 0 cb)) (fun _ x _ => 16 - (intOf x).toNat)
          case atStart => exact ⟨0, a, ca, by omega, rfl, rfl, H0⟩
          case round =>
            clear H0
            obtain ⟨i, ac, cc, hi, rfl, rfl, HF⟩ := hrel
            by_cases hi1 : i < 16
            · have hiI : (i : Int) < 16 := by omega
              have hsz := HF.out.nw.size
              have ka : New wr (wr.alloc (.cells #[.int .u8 79, .string ⟨#[]⟩, I (i : Int), I 0] 33)) := (New.refl wr).alloc _
              have hone : ∀ u ∈ [Value.int .u8 79, .string ⟨#[]⟩, I (i : Int), I 0], u.oneCell' = true := by intro u hu; simp only [List.mem_cons, List.not_mem_nil, or_false] at hu; rcases hu with rfl | rfl | rfl | rfl <;> rfl
              obtain ⟨XS, hXS⟩ : ∃ XS, (mkT 77 n ++ mkT 79 i).flatMap tokCells = XS := ⟨_, rfl⟩
              have hrow := ka.owns HF.out.oc
              rw [hXS] at hrow
              have HXS := Lib.hid hXS
              clear hXS
              go_wp2_with (at_builtin; refine wpList_app rfl _ _ 22 rfl w0.heap.size 33 i0 _ 4 40 Tryd.underlying22 hi0 hz0 hz1 hz2 rfl (by decide) ac (n + i) cc XS rfl hrow _ 1 1 [.int .u8 79, .string ⟨#[]⟩, I (i : Int), I 0] rfl rfl (SlAt.lit _ _ _) hone (by unfold maxLen; omega) (by omega) (Nat.le_trans hsz ka.size) ?_)
              intro a2 c2 w2 hown hk hmv hhd
              rw [← HXS.out] at hown
              have HF2 := Lib.hid (HF.out.appC ka hown hk hmv hhd)
              clear hown hk hmv hhd ka hone hrow
              go_wp2_with fail
              go_roundw
              case rel => exact ⟨i + 1, a2, c2, by omega, by go_num, by first | rfl | (congr 1), HF2⟩
              case measure => simp [intOf]; omega
            · have hie : i = 16 := by omega
              subst hie
              have hiI : ¬ ((16 : Nat) : Int) < 16 := by omega
              obtain ⟨a1, rfl⟩ : ∃ x, x = ac := ⟨_, rfl⟩
              obtain ⟨c1, rfl⟩ : ∃ x, x = cc := ⟨_, rfl⟩
              have H0 := Lib.hid HF.out
              clear HF
              go_wp2_with fail
              go_loopw [8, 10] (fun y x wr => ∃ (i : Nat) (ac : Option Addr) (cc : Nat), i ≤ 16 ∧ x = .int .i64 i ∧ y = .slice ac (m + i) cc ∧ Hid (Four w0 wr a n ca b m cb a1 16 c1 ac i cc)) (fun _ x _ => 16 - (intOf x).toNat)
              case atStart => exact ⟨0, b, cb, by omega, rfl, rfl, H0⟩
              case round =>
                clear H0
                obtain ⟨i, ac, cc, hi, rfl, rfl, HF⟩ := hrel
                by_cases hi1 : i < 16
                · have hiI : (i : Int) < 16 := by omega
                  have hsz := HF.out.nw.size
                  have ka : New wr (wr.alloc (.cells #[.int .u8 80, .string ⟨#[]⟩, I (i : Int), I 0] 33)) := (New.refl wr).alloc _
                  have hone : ∀ u ∈ [Value.int .u8 80, .string ⟨#[]⟩, I (i : Int), I 0], u.oneCell' = true := by intro u hu; simp only [List.mem_cons, List.not_mem_nil, or_false] at hu; rcases hu with rfl | rfl | rfl | rfl <;> rfl
                  obtain ⟨XS, hXS⟩ : ∃ XS, (mkT 78 m ++ mkT 80 i).flatMap tokCells = XS := ⟨_, rfl⟩
                  have hrow := ka.owns HF.out.od
                  rw [hXS] at hrow
                  have HXS := Lib.hid hXS
                  clear hXS
                  go_wp2_with (at_builtin; refine wpList_app rfl _ _ 22 rfl w0.heap.size 33 i0 _ 4 40 Tryd.underlying22 hi0 hz0 hz1 hz2 rfl (by decide) ac (m + i) cc XS rfl hrow _ 1 1 [.int .u8 80, .string ⟨#[]⟩, I (i : Int), I 0] rfl rfl (SlAt.lit _ _ _) hone (by unfold maxLen; omega) (by omega) (Nat.le_trans hsz ka.size) ?_)
                  intro a2 c2 w2 hown hk hmv hhd
                  rw [← HXS.out] at hown
                  have HF2 := Lib.hid (HF.out.appD ka hown hk hmv hhd)
                  clear hown hk hmv hhd ka hone hrow
                  go_wp2_with fail
                  go_roundw
                  case rel => exact ⟨i + 1, a2, c2, by omega, by go_num, by first | rfl | (congr 1), HF2⟩
                  case measure => simp [intOf]; omega
                · have hie : i = 16 := by omega
                  subst hie
                  have hiI : ¬ ((16 : Nat) : Int) < 16 := by omega
                  obtain ⟨a2, rfl⟩ : ∃ x, x = ac := ⟨_, rfl⟩
                  obtain ⟨c2, rfl⟩ : ∃ x, x = cc := ⟨_, rfl⟩
                  have H0 := Lib.hid HF.out
                  clear HF
                  go_wp2_with fail
                  go_loopw [11] (fun x wr => ∃ i : Nat, i ≤ n ∧ x = .int .i64 i ∧ Hid (Four w0 wr a n ca b m cb a1 16 c1 a2 16 c2)) (fun x _ => n - (intOf x).toNat)
                  case atStart => exact ⟨0, by omega, rfl, H0⟩
                  case round =>
                    clear H0
                    obtain ⟨i, hi, rfl, HF⟩ := hrel
                    by_cases hi1 : i < n
                    · have hiI : (i : Int) < (n : Int) := by omega
                      obtain ⟨b1, o1, e1, q0, q1, q2, q3, hb1⟩ := mk_at (SlAt.of_owns HF.out.oa) i 77 i (mkT_get? 77 n i hi1)
                      subst e1
                      have hee : ((i : Int) == (i : Int)) = true := by simp
                      go_wp2_with fail
                      go_roundw
                      case rel => exact ⟨i + 1, by omega, by go_num, by first | exact HF | exact Lib.hid (HF.out.new ((New.refl _).drewN _))⟩
                      case measure => simp [intOf]; omega
                    · have hiI : ¬ (i : Int) < (n : Int) := by omega

                      have H0 := Lib.hid HF.out
                      clear HF
                      go_wp2_with fail
                      go_loopw [12] (fun x wr => ∃ i : Nat, i ≤ m ∧ x = .int .i64 i ∧ Hid (Four w0 wr a n ca b m cb a1 16 c1 a2 16 c2)) (fun x _ => m - (intOf x).toNat)
                      case atStart => exact ⟨0, by omega, rfl, H0⟩
                      case round =>
                        clear H0
                        obtain ⟨i, hi, rfl, HF⟩ := hrel
                        by_cases hi1 : i < m
                        · have hiI : (i : Int) < (m : Int) := by omega
                          obtain ⟨b1, o1, e1, q0, q1, q2, q3, hb1⟩ := mk_at (SlAt.of_owns HF.out.ob) i 78 i (mkT_get? 78 m i hi1)
                          subst e1
                          have hee : ((i : Int) == (i : Int)) = true := by simp
                          go_wp2_with fail
                          go_roundw
                          case rel => exact ⟨i + 1, by omega, by go_num, by first | exact HF | exact Lib.hid (HF.out.new ((New.refl _).drewN _))⟩
                          case measure => simp [intOf]; omega
                        · have hiI : ¬ (i : Int) < (m : Int) := by omega

                          have H0 := Lib.hid HF.out
                          clear HF
                          go_wp2_with fail
                          go_loopw [13] (fun x wr => ∃ i : Nat, i ≤ 16 ∧ x = .int .i64 i ∧ Hid (Four w0 wr a n ca b m cb a1 16 c1 a2 16 c2)) (fun x _ => 16 - (intOf x).toNat)
                          case atStart => exact ⟨0, by omega, rfl, H0⟩
                          case round =>
                            clear H0
                            obtain ⟨i, hi, rfl, HF⟩ := hrel
                            by_cases hi1 : i < 16
                            · have hiI : (i : Int) < 16 := by omega
                              obtain ⟨b1, o1, e1, q0, q1, q2, q3, hb1⟩ := mk_at (SlAt.of_owns HF.out.oc) (n + i) 79 i (mkT_get2 77 79 n 16 i hi1)
                              obtain ⟨b2, o2, e2, r0, r1, r2, r3, hb2⟩ := mk_at (SlAt.of_owns HF.out.od) (m + i) 80 i (mkT_get2 78 80 m 16 i hi1)
                              subst e1 e2
                              have w1 : IntKind.i64.wrap ((n : Int) + (i : Int)) = ((n + i : Nat) : Int) := by rw [IntWalk.i64_in _ (by omega)]; omega
                              have w2 : IntKind.i64.wrap ((m : Int) + (i : Int)) = ((m + i : Nat) : Int) := by rw [IntWalk.i64_in _ (by omega)]; omega
                              have d1 : ((n + i : Nat) : Int) < ((n + 16 : Nat) : Int) := by omega
                              have d2 : ((m + i : Nat) : Int) < ((m + 16 : Nat) : Int) := by omega
                              have hee : ((i : Int) == (i : Int)) = true := by simp
                              go_wp2_with fail
                              go_roundw
                              case rel => exact ⟨i + 1, by omega, by go_num, by first | exact HF | exact Lib.hid (HF.out.new ((New.refl _).drewN _))⟩
                              case measure => simp [intOf]; omega
                            · have hie : i = 16 := by omega
                              subst hie
                              have H0 := Lib.hid HF.out
                              clear HF
                              go_wp2_with fail
                              go_ret
                              exact ⟨rfl, H0.out.nw⟩
end Go.Proofs.YtmmoocbnmjmfeaaDoor
