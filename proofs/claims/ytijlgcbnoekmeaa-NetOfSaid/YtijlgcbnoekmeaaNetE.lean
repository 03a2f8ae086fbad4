/-
  Layer 10: firing.
-/
import Derived.Test.YtijlgcbnoekmeaaNetD
import Derived.Test.YtijlgcbnoekmeaaNetW
import Derived.StillTailTactics
import Derived.BigRegion
namespace Go.Proofs.Ytijlgcbnoekmeaa
open Go Go.RowKit
set_option linter.all false

theorem St.storeT {w : World} {p : StD} {nodes : Nat} {arcs : List ArcD} {s : Mark} (h : St w p nodes arcs s) (i : Nat) (x : Int) : St (w.setCell ⟨p.bt, i, none⟩ (I x)) p nodes arcs ⟨s.toks.set i x, s.fired⟩ ∧ Keeps (fun k => k = p.bt) w (w.setCell ⟨p.bt, i, none⟩ (I x)) := by
  have k : Keeps (fun k => k = p.bt) w (w.setCell ⟨p.bt, i, none⟩ (I x)) := Keeps.setCell w ⟨p.bt, i, none⟩ _ rfl
  refine ⟨⟨k.cell h.c0 h.sb.1, k.cell h.c1 h.sb.1, k.cell h.c2 h.sb.1, k.cell h.c3 h.sb.1, k.cell h.c4 h.sb.1, h.harcs.keeps k (fun a ha => (h.sa a ha).1), h.ti.keeps k (fun x hx => (h.si x hx).1), h.tt.keeps k (fun x hx => (h.so x hx).1), ?_,
    k.owns h.hf (fun x hx e => by simp [Value.ownBlock] at hx; subst hx; exact h.stf e.symm), h.rb, h.ra, h.ri, h.ro, h.rt, h.rf, h.stf, h.sb, h.sa, h.si, h.so, Nat.le_trans h.sz k.size⟩, k⟩
  have := (h.ht.stored i (I x)).1
  rw [show Is (s.toks.set i x) = (Is s.toks).set i (I x) by simp [List.map_set]]
  exact this
theorem St.storeF {w : World} {p : StD} {nodes : Nat} {arcs : List ArcD} {s : Mark} (h : St w p nodes arcs s) (i : Nat) (x : Int) : St (w.setCell ⟨p.bf, i, none⟩ (I x)) p nodes arcs ⟨s.toks, s.fired.set i x⟩ ∧ Keeps (fun k => k = p.bf) w (w.setCell ⟨p.bf, i, none⟩ (I x)) := by
  have k : Keeps (fun k => k = p.bf) w (w.setCell ⟨p.bf, i, none⟩ (I x)) := Keeps.setCell w ⟨p.bf, i, none⟩ _ rfl
  refine ⟨⟨k.cell h.c0 h.sb.2, k.cell h.c1 h.sb.2, k.cell h.c2 h.sb.2, k.cell h.c3 h.sb.2, k.cell h.c4 h.sb.2, h.harcs.keeps k (fun a ha => (h.sa a ha).2), h.ti.keeps k (fun x hx => (h.si x hx).2), h.tt.keeps k (fun x hx => (h.so x hx).2),
    k.owns h.ht (fun x hx e => by simp [Value.ownBlock] at hx; subst hx; exact h.stf e), ?_, h.rb, h.ra, h.ri, h.ro, h.rt, h.rf, h.stf, h.sb, h.sa, h.si, h.so, Nat.le_trans h.sz k.size⟩, k⟩
  have := (h.hf.stored i (I x)).1
  rw [show Is (s.fired.set i x) = (Is s.fired).set i (I x) by simp [List.map_set]]
  exact this

theorem take_succ_fold (arcs : List ArcD) (t : List Int) (l : List Nat) (k : Nat) (hk : k < l.length) : takeAllW arcs t (l.take (k + 1)) = takeOneW arcs (takeAllW arcs t (l.take k)) l[k] := by
  unfold takeAllW
  rw [List.take_succ_eq_append_getElem hk, List.foldl_append]; rfl
theorem give_succ_fold (arcs : List ArcD) (t : List Int) (l : List Nat) (k : Nat) (hk : k < l.length) : giveAllW arcs t (l.take (k + 1)) = giveOneW arcs (giveAllW arcs t (l.take k)) l[k] := by
  unfold giveAllW
  rw [List.take_succ_eq_append_getElem hk, List.foldl_append]; rfl

set_option maxRecDepth 100000 in
set_option maxHeartbeats 4000000 in
theorem fireW_any (w : World) (p : StD) (nodes : Nat) (arcs : List ArcD) (s : Mark) (ao : Option Addr) (c : Nat) (vs : List Int) (h : St w p nodes arcs s) (hs : Sound nodes arcs) (hx : SlAt w ao (Is vs))
    (hsep : ∀ a, ao = some a → a.block < p.lo ∨ p.hi ≤ a.block) (hvl : vs.length ≤ 9000000000000000000) :
    Calls Try.prog 20 #[.pointer (some ⟨p.b, 0, none⟩), .slice ao vs.length c] w fun e w' => e = .returned (I ((fireW arcs nodes s vs).1 : Int)) ∧ St w' p nodes arcs (fireW arcs nodes s vs).2 ∧ Keeps (fun k => k = p.bt ∨ k = p.bf) w w' := by
  have hm := hs.m
  have hn := hs.n2
  go_enter Try.func20, Try.ntmps20
  go_wp2
  go_loopw [15] (fun i wr => ∃ k : Nat, k ≤ vs.length ∧ i = .int .i64 k ∧ ∃ sk, St wr p nodes arcs sk ∧ Keeps (fun k => k = p.bt ∨ k = p.bf) w wr ∧ (fireW arcs nodes s vs).1 = k + (fireW arcs nodes sk (vs.drop k)).1 ∧ (fireW arcs nodes s vs).2 = (fireW arcs nodes sk (vs.drop k)).2) (fun i _ => vs.length - (intOf i).toNat)
  case atStart => exact ⟨0, by omega, rfl, s, h, Keeps.refl _ _, by simp, by simp⟩
  case round =>
    obtain ⟨k, hk, rfl, sk, hst, hkp, he1, he2⟩ := hrel
    have HE := Lib.hid (And.intro he1 he2)
    clear he1 he2
    have hxr : SlAt wr ao (Is vs) := hx.keeps hkp (fun a ha hb => by
      have h1 := hsep a ha
      have h2 := h.rt
      have h3 := h.rf
      rcases hb with hb | hb <;> omega)
    by_cases hk1 : k < vs.length
    · obtain ⟨b0, o0, rfl, q0⟩ := Is_at hxr hk1
      have hdrop : vs.drop k = vs[k] :: vs.drop (k + 1) := List.drop_eq_getElem_cons hk1
      generalize hvk : vs[k] = v at q0 hdrop
      have HD := Lib.hid hdrop
      clear hdrop hvk
      go_wp2_with (go_at_call 26; refine (may_any wr p nodes arcs sk v hst hm).mono ?_; rintro e w' ⟨rfl, n1, rfl⟩)
      · have hno : (!mayS arcs nodes sk.toks v) = true := by assumption
        have hno' : mayS arcs nodes sk.toks v = false := by simpa using hno
        have HN := Lib.hid hno'
        clear hno hno'
        go_ret
        obtain ⟨e1, e2⟩ := HE.out
        rw [HD.out] at e1 e2
        simp only [fireW, HN.out, Bool.false_eq_true, if_false] at e1 e2
        exact ⟨ret_i (by omega), by rw [e2]; exact hst.drewN _, hkp.trans (Keeps.drewN _ _) (fun _ _ h => h)⟩
      · have hno : (!mayS arcs nodes sk.toks v) = false := by assumption
        have hyes : mayS arcs nodes sk.toks v = true := by simpa using hno
        obtain ⟨⟨hv0, hv1⟩, hmay⟩ := (mayS_iff _ _ _ _).1 hyes
        obtain ⟨u, rfl⟩ := Int.eq_ofNat_of_zero_le hv0
        have hu : u < nodes := by omega
        have HY := Lib.hid hyes
        clear hno hyes hmay hv0 hv1
        have hst2 := hst.drewN n1
        have hkp2 := hkp.trans (Keeps.drewN (S := fun k => k = p.bt ∨ k = p.bf) wr n1) (fun _ _ h => h)
        clear hst hkp q0
        generalize wr.drewN n1 = w2 at hst2 hkp2
        refine (needs_any _ p nodes arcs sk u hst2 hu).mono ?_
        rintro e w' ⟨rfl, rfl⟩
        have hNi := hst2.niLen hu
        have hNo := hst2.noLen hu
        have hli := inTo_len arcs (u : Int)
        have hlo := outOf_len arcs (u : Int)
        have hNi1 : p.Ni u ≤ (inTo arcs (u : Int)).length := by omega
        have hNi2 : (inTo arcs (u : Int)).length ≤ p.Ni u := by omega
        have hNo1 : p.No u ≤ (outOf arcs (u : Int)).length := by omega
        have hNo2 : (outOf arcs (u : Int)).length ≤ p.No u := by omega
        clear hNi hNo
        go_wp2_with fail
        go_loopw [31] (fun i wz => ∃ j : Nat, j ≤ p.Ni u ∧ i = .int .i64 j ∧ St wz p nodes arcs ⟨takeAllW arcs sk.toks ((inTo arcs (u : Int)).take j), sk.fired⟩ ∧ Keeps (fun k => k = p.bt ∨ k = p.bf) w wz) (fun i _ => p.Ni u - (intOf i).toNat)
        case atStart => exact ⟨0, by omega, rfl, hst2, hkp2⟩
        case round =>
          clear hst2 hkp2
          obtain ⟨j, hj, rfl, hst3, hkp3⟩ := hrel
          by_cases hj1 : j < p.Ni u
          · have hjl : j < (inTo arcs (u : Int)).length := by omega
            obtain ⟨b1, o1, hb1, q1⟩ := Ns_at (SlAt.of_owns (hst3.ti.row u hu)) hjl
            have hi := inTo_lt (List.getElem_mem hjl)
            have ht := hst3.tok hi
            have hfz := hst3.ht.frozenAt ((inTo arcs (u : Int))[j]'hjl)
            obtain ⟨b2, o2, hb2, _, _, _, q2, _⟩ := arcs_at hst3.harcs hi
            have hat : arcs[(inTo arcs (u : Int))[j]'hjl] = arcAt arcs ((inTo arcs (u : Int))[j]'hjl) := by simp [arcAt, hi]
            rw [hat] at q2
            clear hat
            have hta := hs.take _ (arcAt_mem hi)
            have hnx := (hst3.storeT ((inTo arcs (u : Int))[j]'hjl) (wrap64 ((takeAllW arcs sk.toks ((inTo arcs (u : Int)).take j)).getD ((inTo arcs (u : Int))[j]'hjl) 0 - (arcAt arcs ((inTo arcs (u : Int))[j]'hjl)).take)))
            have hfold := take_succ_fold arcs sk.toks (inTo arcs (u : Int)) j hjl
            unfold takeOneW at hfold
            simp only at hnx
            rw [← hfold] at hnx
            clear hfold
            obtain ⟨hnx, hkx⟩ := hnx
            have c0 := hst3.c0
            have c3 := hst3.c3
            rw [hb2] at c0
            generalize (takeAllW arcs sk.toks ((inTo arcs (u : Int)).take j)).getD ((inTo arcs (u : Int))[j]'hjl) 0 = tv at ht hnx hkx
            generalize (arcAt arcs ((inTo arcs (u : Int))[j]'hjl)).take = ta at q2 hta hnx hkx
            generalize (inTo arcs (u : Int))[j]'hjl = i at q1 hi ht hfz q2 hnx hkx
            obtain ⟨hta1, hta2⟩ := hta
            have hi1 : (i : Int) < (arcs.length : Int) := by omega
            have hi0 : (0 : Int) ≤ (i : Int) := by omega
            have hwr : IntKind.i64.wrap (tv - ta) = wrap64 (tv - ta) := IntWalk.i64_left _
            have HX := Lib.hid hnx
            have HKX := Lib.hid hkx
            clear hb2 hnx hkx
            rw [hb1]
            go_wp2_with fail
            go_region
            go_wp2
            go_roundw
            case rel => exact ⟨j + 1, by omega, by go_num, HX.out.new (Keeps.drew _), (hkp3.trans HKX.out (fun _ _ e => .inl e)).trans (Keeps.drew _) (fun _ _ h => h)⟩
            case measure => simp [intOf]; omega
          · have hje : (inTo arcs (u : Int)).take j = inTo arcs (u : Int) := List.take_of_length_le (by omega)
            have hst3' : St wr p nodes arcs ⟨takeAllW arcs sk.toks (inTo arcs (u : Int)), sk.fired⟩ := by rw [hje] at hst3; exact hst3
            clear hje hst3
            go_wp2_with (go_at_call 38; refine (feeds_any _ p nodes arcs _ u hst3' hu).mono ?_; rintro e w' ⟨rfl, rfl⟩)
            go_loopw [60] (fun i wy => ∃ j : Nat, j ≤ p.No u ∧ i = .int .i64 j ∧ St wy p nodes arcs ⟨giveAllW arcs (takeAllW arcs sk.toks (inTo arcs (u : Int))) ((outOf arcs (u : Int)).take j), sk.fired⟩ ∧ Keeps (fun k => k = p.bt ∨ k = p.bf) w wy) (fun i _ => p.No u - (intOf i).toNat)
            case atStart => exact ⟨0, by omega, rfl, hst3', hkp3⟩
            case round =>
              clear hst3' hkp3
              obtain ⟨j, hj, rfl, hst3, hkp3⟩ := hrel
              by_cases hj1 : j < p.No u
              · have hjl : j < (outOf arcs (u : Int)).length := by omega
                obtain ⟨b1, o1, hb1, q1⟩ := Ns_at (SlAt.of_owns (hst3.tt.row u hu)) hjl
                have hi := outOf_lt (List.getElem_mem hjl)
                have ht := hst3.tok hi
                have hfz := hst3.ht.frozenAt ((outOf arcs (u : Int))[j]'hjl)
                obtain ⟨b2, o2, hb2, _, _, q2, _, _⟩ := arcs_at hst3.harcs hi
                have hat : arcs[(outOf arcs (u : Int))[j]'hjl] = arcAt arcs ((outOf arcs (u : Int))[j]'hjl) := by simp [arcAt, hi]
                rw [hat] at q2
                clear hat
                have hta := hs.give _ (arcAt_mem hi)
                have hnx := (hst3.storeT ((outOf arcs (u : Int))[j]'hjl) (wrap64 ((giveAllW arcs (takeAllW arcs sk.toks (inTo arcs (u : Int))) ((outOf arcs (u : Int)).take j)).getD ((outOf arcs (u : Int))[j]'hjl) 0 + (arcAt arcs ((outOf arcs (u : Int))[j]'hjl)).give)))
                have hfold := give_succ_fold arcs (takeAllW arcs sk.toks (inTo arcs (u : Int))) (outOf arcs (u : Int)) j hjl
                unfold giveOneW at hfold
                simp only at hnx
                rw [← hfold] at hnx
                clear hfold
                obtain ⟨hnx, hkx⟩ := hnx
                have c0 := hst3.c0
                have c3 := hst3.c3
                rw [hb2] at c0
                generalize (giveAllW arcs (takeAllW arcs sk.toks (inTo arcs (u : Int))) ((outOf arcs (u : Int)).take j)).getD ((outOf arcs (u : Int))[j]'hjl) 0 = tv at ht hnx hkx
                generalize (arcAt arcs ((outOf arcs (u : Int))[j]'hjl)).give = ta at q2 hta hnx hkx
                generalize (outOf arcs (u : Int))[j]'hjl = i at q1 hi ht hfz q2 hnx hkx
                obtain ⟨hta1, hta2⟩ := hta
                have hi1 : (i : Int) < (arcs.length : Int) := by omega
                have hi0 : (0 : Int) ≤ (i : Int) := by omega
                have hwr : IntKind.i64.wrap (tv + ta) = wrap64 (tv + ta) := IntWalk.i64_left _
                have HX := Lib.hid hnx
                have HKX := Lib.hid hkx
                clear hb2 hnx hkx
                rw [hb1]
                go_wp2_with fail
                go_region
                go_wp2
                go_roundw
                case rel => exact ⟨j + 1, by omega, by go_num, HX.out.new (Keeps.drew _), (hkp3.trans HKX.out (fun _ _ e => .inl e)).trans (Keeps.drew _) (fun _ _ h => h)⟩
                case measure => simp [intOf]; omega
              · have hje : (outOf arcs (u : Int)).take j = outOf arcs (u : Int) := List.take_of_length_le (by omega)
                rw [hje] at hst3
                clear hje
                have q5 := hst3.fir hu
                have hfz := hst3.hf.frozenAt u
                have c4 := hst3.c4
                have hnx := hst3.storeF u (wrap64 (sk.fired.getD u 0 + 1))
                have hfire : fireOneW arcs sk u = ⟨giveAllW arcs (takeAllW arcs sk.toks (inTo arcs (u : Int))) (outOf arcs (u : Int)), sk.fired.set u (wrap64 (sk.fired.getD u 0 + 1))⟩ := rfl
                simp only at hnx
                rw [← hfire] at hnx
                have HF := Lib.hid (And.intro hnx HE.out)
                clear hnx hfire
                simp only at q5
                generalize sk.fired.getD u 0 = fu at q5 HF
                go_wp2_with fail
                obtain ⟨⟨hn1', hk1'⟩, e1, e2⟩ := HF.out
                rw [HD.out] at e1 e2
                simp only [fireW, HY.out, if_true, Int.toNat_natCast] at e1 e2
                go_roundw
                case rel =>
                  exact ⟨k + 1, by omega, by go_num, fireOneW arcs sk u, hn1', hkp3.trans hk1' (fun _ _ e => .inr e), by rw [e1]; omega, e2⟩
                case measure => simp [intOf]; omega
    · have hke : vs.drop k = [] := List.drop_of_length_le (by omega)
      have HK := Lib.hid hke
      clear hke
      go_wp2
      go_ret
      obtain ⟨e1, e2⟩ := HE.out
      rw [HK.out] at e1 e2
      simp only [fireW, Nat.add_zero] at e1 e2
      exact ⟨ret_i (by omega), by rw [e2]; exact hst, hkp⟩

theorem fire_any (w : World) (p : StD) (nodes : Nat) (arcs : List ArcD) (s : Mark) (ao : Option Addr) (c : Nat) (vs : List Int) (M : Int) (h : St w p nodes arcs s) (hs : Sound nodes arcs) (hx : SlAt w ao (Is vs))
    (hsep : ∀ a, ao = some a → a.block < p.lo ∨ p.hi ≤ a.block) (hb : Bd M s) (hM2 : M + 12288 * vs.length ≤ 8000000000000000000) (hM : 0 ≤ M) :
    Calls Try.prog 20 #[.pointer (some ⟨p.b, 0, none⟩), .slice ao vs.length c] w fun e w' => e = .returned (I ((fireS arcs nodes s vs).1 : Int)) ∧ St w' p nodes arcs (fireS arcs nodes s vs).2 ∧ Keeps (fun k => k = p.bt ∨ k = p.bf) w w' := by
  have := fireW_any w p nodes arcs s ao c vs h hs hx hsep (by omega)
  rw [fireW_eq hs vs s M h.fits hb hM2] at this
  exact this

end Go.Proofs.Ytijlgcbnoekmeaa
