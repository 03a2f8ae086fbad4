/-
  'LexBack': the law returns true at every input; what it is handed reads afterwards as before; the variables of the library that it reads hold what the program's text lays.
-/
import Derived.Test.YtmmoocbnmjmfeaaDoorLexT
import Derived.Test.YtmmoocbnmjmfeaaDoorLexK
namespace Go.Proofs.YtmmoocbnmjmfeaaDoor.lexBack
open Go Go.RowKit Go.Joins Go.ChangeShapes Go.WideShapes Go.ChangeAt
open Go.ChangeMaps (open_string shut_string)
set_option linter.all false

set_option maxRecDepth 100000 in
set_option maxHeartbeats 4000000 in
theorem walk (w : World) (he : Env w) (a0 : Option Addr) (c0 : Nat) (x0 : List ATok) (h0 : SlAt w a0 (x0.flatMap atokCells)) (r0 : ∀ t ∈ x0, t.text.size ≤ maxLen ∧ -9223372036854775808 ≤ t.num ∧ t.num ≤ 9223372036854775807) (l0 : x0.length * 40 ≤ 140737488351232) (a1 : Int) (h10 : -9223372036854775808 ≤ a1) (h11 : a1 ≤ 9223372036854775807) :
    Calls Tryd.prog 6 #[.slice a0 x0.length c0, .int .i64 a1] w fun e w' => e = .returned (.bool true) ∧ New w w' := by
  obtain ⟨i0, hi0, hz0, hz1, hz2⟩ := info_parts infoTok
  obtain ⟨n, hn⟩ : ∃ n, x0.length = n := ⟨_, rfl⟩
  obtain ⟨gk, hgk⟩ : ∃ gk : Int, a1.tmod 1000 = gk := ⟨_, rfl⟩
  have hg1 : -1000 < gk ∧ gk < 1000 := by
    rw [← hgk]
    have h1 : (a1.tmod 1000).natAbs = a1.natAbs % 1000 := by rw [Int.natAbs_tmod]; rfl
    omega
  have q1 : IntKind.i64.wrap gk = gk := IntWalk.i64_in _ (by omega)
  have HS := Lib.hid h0
  have HR := Lib.hid r0
  have HLN := Lib.hid hn
  have hnil5 : w.ownsRow w.heap.size 5 1 (.slice none 0 0) 0 (bCells []) := World.ownsRow_nil _ _ _ _
  have hnil6 : w.ownsRow w.heap.size 33 4 (.slice none 0 0) 0 [] := World.ownsRow_nil _ _ _ _
  rw [hn] at l0 ⊢
  clear h0 r0 hn
  go_enter Tryd.func6, Tryd.ntmps6
  go_wp2_with fail
  go_loopw [5, 6, 7] (fun y z x wr => ∃ (i : Nat) (Bs : List UInt8) (Ws : List LTok) (ab : Option Addr) (cb : Nat) (aw : Option Addr) (cw nb nw : Nat), i ≤ n ∧ x = .int .i64 i ∧ y = .slice ab nb cb ∧ z = .slice aw nw cw ∧ New w wr ∧ Hid (Bs.length = nb ∧ Ws.length = nw) ∧
    Hid (wr.ownsRow w.heap.size 5 1 (.slice ab nb cb) nb (bCells Bs)) ∧ Hid (wr.ownsRow w.heap.size 33 4 (.slice aw nw cw) nw (Ws.flatMap tokCells)) ∧ Hid (BackSt Bs Ws) ∧ nb ≤ 524288 + 40 ∧ nw ≤ nb) (fun _ _ x _ => n - (intOf x).toNat)
  case atStart => exact ⟨0, [], [], none, 0, none, 0, 0, 0, by omega, rfl, rfl, rfl, New.refl _, Lib.hid ⟨rfl, rfl⟩, Lib.hid hnil5, Lib.hid hnil6, Lib.hid BackSt.nil, by omega, by omega⟩
  case round =>
    clear hnil5 hnil6
    obtain ⟨i, Bs, Ws, ab, cb, aw, cw, nb, nw, hi, rfl, rfl, rfl, hN, HL, HB, HW, HK, hnb, hnw⟩ := hrel
    by_cases hin : i < n ∧ nb < 524288
    · obtain ⟨hin, hbs⟩ := hin
      have hil : i < x0.length := by rw [HLN.out]; exact hin
      obtain ⟨b1, o1, e1, q0, q1', q2, q3⟩ := atoks_at (HS.out.new hN) hil
      have hrx := HR.out x0[i] (List.getElem_mem hil)
      subst e1
      have hb1 : b1 < wr.heap.size := World.block_lt_of_cell? wr _ q0
      generalize x0[i] = x at q0 q1' q2 q3 hrx
      obtain ⟨so, T, nu, at_⟩ := x
      simp only at q0 q1' q2 q3 hrx
      obtain ⟨tx, htx⟩ : ∃ tx, T.data.toList = tx := ⟨_, rfl⟩
      have hT : (⟨tx.toArray⟩ : ByteArray) = T := by rw [← htx]
      have hri := fun W => right_any W ⟨so, tx, nu, 0⟩ at_ (by rw [← htx, toList_len]; exact hrx.1)
      simp only [hT] at hri
      obtain ⟨r, hr⟩ : ∃ r, (LTok.mk so tx nu 0).right = r := ⟨_, rfl⟩
      rw [hr] at hri
      have hiI : (i : Int) < (n : Int) := by omega
      have hbI : (nb : Int) < 524288 := by omega
      cases r with
      | false =>
        clear hr hrx htx hT
        go_wp2_with fail
        refine (hri _).mono ?_
        rintro e w2 ⟨rfl, n2⟩
        have HB2 := Lib.hid (n2.owns HB.out)
        have HW2 := Lib.hid (n2.owns HW.out)
        have hN2 := hN.trans n2
        clear hN n2 hri
        go_wp2_with fail
        go_roundw
        case rel => exact ⟨i + 1, Bs, Ws, ab, cb, aw, cw, nb, nw, by omega, by go_num, rfl, rfl, hN2, HL, HB2, HW2, HK, hnb, hnw⟩
        case measure => simp [intOf]; omega
      | true =>
        obtain ⟨hsl, hsl1⟩ := right_len hr hrx.2
        have hsp := fun W => spelt_any W ⟨so, tx, nu, 0⟩ (nb : Int) hrx.2.1 hrx.2.2
        simp only [hT] at hsp
        obtain ⟨S, hS⟩ : ∃ S, speltS (⟨so, tx, nu, 0⟩ : LTok) = S := ⟨_, rfl⟩
        rw [hS] at hsp
        have hSl : S.data.toList = (⟨so, tx, nu, 0⟩ : LTok).spelt := by rw [← hS]; unfold speltS; simp
        have hSz : S.size ≤ 21 ∧ 1 ≤ S.size := by rw [← toList_len, hSl]; exact ⟨hsl, hsl1⟩
        obtain ⟨j, hj⟩ : ∃ j : Nat, i % 7 = j := ⟨_, rfl⟩
        have hj7 : j < 7 := by omega
        have q2' : (i : Int).tmod 7 = (j : Int) := by rw [Int.tmod_eq_emod_of_nonneg (by omega)]; omega
        obtain ⟨kk, hkk⟩ : ∃ kk : Nat, gk.natAbs + j = kk := ⟨_, rfl⟩
        have hk1 : kk ≤ 100000 := by omega
        have hbt := fun W => between_any W kk hk1
        obtain ⟨G, hG⟩ : ∃ G, gapS kk = G := ⟨_, rfl⟩
        rw [hG] at hbt
        have hGl : G.data.toList = gapU kk := by rw [← hG]; unfold gapS; simp
        have hGz : G.size ≤ 8 := by rw [← toList_len, hGl]; exact gapU_len kk
        have HK2 : Hid (BackSt (Bs ++ S.data.toList ++ G.data.toList) (Ws ++ [⟨so, tx, nu, nb⟩])) := Lib.hid (by
          have := HK.out.step ⟨so, tx, nu, 0⟩ hr hrx.2 kk
          rw [HL.out.1] at this
          rw [hSl, hGl]; exact this)
        have HT := Lib.hid hT
        clear hr hrx htx hT hsl hsl1 hS hSl hG hGl HK hj
        go_wp2_with fail
        refine (hri _).mono ?_
        rintro e w2 ⟨rfl, n2⟩
        replace q0 := New.cell n2 q0
        replace q1' := New.cell n2 q1'
        replace q2 := New.cell n2 q2
        replace q3 := New.cell n2 q3
        replace hb1 := Nat.lt_of_lt_of_le hb1 n2.size
        have HB2 := Lib.hid (n2.owns HB.out)
        have HW2 := Lib.hid (n2.owns HW.out)
        have hN2 := hN.trans n2
        have hsz2 := hN2.size
        clear hN n2 hri
        have ka : New w2 ((w2.alloc (.cells #[.int .u8 so, .string T, I nu, I (nb : Int)] 33)).alloc (.cells #[.int .u8 so, .string T, I nu, I (nb : Int)] 33)) := ((New.refl w2).alloc _).alloc _
        go_wp2_with (at_builtin; refine wpList_app rfl _ _ 22 rfl w.heap.size 33 i0 _ 4 40 Tryd.underlying22 hi0 hz0 hz1 hz2 rfl (by decide) aw nw cw (Ws.flatMap tokCells) rfl ?own _ 1 1 [.int .u8 so, .string T, I nu, I (nb : Int)] rfl rfl ?lit ?one ?c1 ?c2 ?c3 ?_)
        case own => exact ka.owns HW2.out
        case lit =>
          have h := SlAt.lit (w2.alloc (.cells #[.int .u8 so, .string T, I nu, I (nb : Int)] 33)) #[.int .u8 so, .string T, I nu, I (nb : Int)] 33
          have e : (w2.alloc (.cells #[.int .u8 so, .string T, I nu, I (nb : Int)] 33)).heap.size = w2.heap.size + 1 := by simp
          rw [e] at h
          exact h
        case one => intro u hu; simp only [List.mem_cons, List.not_mem_nil, or_false] at hu; rcases hu with rfl | rfl | rfl | rfl <;> rfl
        case c1 => unfold maxLen; omega
        case c2 => omega
        case c3 => exact Nat.le_trans hsz2 ka.size
        intro a3 c3 w3 hown3 hk3 _ _
        have hlt2 : ∀ k, blk aw k → k < w2.heap.size := fun k hk => (own_of_blk HW2.out hk).2
        obtain ⟨k0, k1, k2, k3⟩ := tok_cells w2 (.int .u8 so) (.string T) (I nu) (I (nb : Int))
        have kx : New (w2.alloc (.cells #[.int .u8 so, .string T, I nu, I (nb : Int)] 33)) ((w2.alloc (.cells #[.int .u8 so, .string T, I nu, I (nb : Int)] 33)).alloc (.cells #[.int .u8 so, .string T, I nu, I (nb : Int)] 33)) := (New.refl _).alloc _
        have nb2 : ¬ blk aw w2.heap.size := fun h => by have := hlt2 _ h; omega
        replace k0 := hk3.cell (New.cell kx k0) nb2
        replace k1 := hk3.cell (New.cell kx k1) nb2
        replace k2 := hk3.cell (New.cell kx k2) nb2
        replace k3 := hk3.cell (New.cell kx k3) nb2
        have hW3 : w3.ownsRow w.heap.size 33 4 (.slice a3 (nw + 1) c3) (nw + 1) ((Ws ++ [(⟨so, tx, nu, nb⟩ : LTok)]).flatMap tokCells) := by
          rw [List.flatMap_append]
          have e : [(⟨so, tx, nu, nb⟩ : LTok)].flatMap tokCells = [.int .u8 so, .string T, I nu, I (nb : Int)] := by
            simp only [List.flatMap_cons, List.flatMap_nil, List.append_nil]
            unfold tokCells
            rw [HT.out]
          rw [e]; exact hown3
        have hN3 : New w w3 := New.keeps (hN2.trans ka) hk3 (fun k hk hx => by have := (own_of_blk HW2.out hx).1; omega)
        have hB3 : w3.ownsRow w.heap.size 5 1 (.slice ab nb cb) nb (bCells Bs) := lx_oth (ka.owns HB2.out) hk3 (fun g hg => by
          obtain ⟨cur, hc⟩ := lx_tag (ka.owns HW2.out) (lx_own hg)
          exact ⟨cur, _, _, hc, by decide⟩)
        have HW3 := Lib.hid hW3
        have HB3 := Lib.hid hB3
        have hb3 : w2.heap.size < w3.heap.size := World.block_lt_of_cell? w3 _ k0
        clear hown3 hk3 hW3 hB3 ka kx hlt2 nb2 q0 q1' q2 q3 HB2 HW2 hN2
        go_wp2_with fail
        refine (hsp _).mono ?_
        rintro e w4 ⟨rfl, n4⟩
        have hN4 := hN3.trans n4
        have HW4 := Lib.hid (n4.owns HW3.out)
        have HB4 := Lib.hid (n4.owns HB3.out)
        have hsz4 := hN4.size
        clear hN3 n4 HW3 HB3 hsp k0 k1 k2 k3
        go_wp2_with (at_builtin; refine wpList_appS rfl _ _ rfl w.heap.size ab cb Bs nb HL.out.1 rfl HB4.out S rfl ?c1 hsz4 ?_)
        case c1 => omega
        intro a5 c5 w5 hown5 hk5
        have hN5 : New w w5 := New.keeps hN4 hk5 (fun k hk hx => by have := (own_of_blk HB4.out hx).1; omega)
        have hW5 := lx_oth HW4.out hk5 (fun g hg => by
          obtain ⟨cur, hc⟩ := lx_tag HB4.out (lx_own hg)
          exact ⟨cur, _, _, hc, by decide⟩)
        have HW5 := Lib.hid hW5
        have HB5 := Lib.hid hown5
        have hsz5 := hN5.size
        obtain ⟨n5, hn5⟩ : ∃ n5 : Nat, nb + S.size = n5 := ⟨_, rfl⟩
        rw [hn5] at HB5 ⊢
        have HL5 : Hid ((Bs ++ S.data.toList).length = n5) := Lib.hid (by rw [List.length_append, toList_len, HL.out.1]; exact hn5)
        have hn5b : n5 ≤ 524288 + 21 ∧ nb + 1 ≤ n5 := by omega
        clear hown5 hk5 hN4 hW5 HW4 HB4 hn5
        by_cases hneg : gk < 0
        · have q5 : IntKind.i64.wrap (-gk) = -gk := IntWalk.i64_in _ (by omega)
          have q6 : IntKind.i64.wrap (-gk + (j : Int)) = (kk : Int) := by rw [IntWalk.i64_in _ (by omega)]; omega
          go_wp2_with fail
          refine (hbt _).mono ?_
          rintro e w6 ⟨rfl, rfl⟩
          go_wp2_with (at_builtin; refine wpList_appS rfl _ _ rfl w.heap.size a5 c5 (Bs ++ S.data.toList) n5 HL5.out rfl HB5.out G rfl ?d1 hsz5 ?_)
          case d1 => omega
          intro a7 c7 w7 hown7 hk7
          (try rw [show Bs ++ (S.data.toList ++ G.data.toList) = Bs ++ S.data.toList ++ G.data.toList from (List.append_assoc _ _ _).symm] at hown7)
          have hN7 : New w w7 := New.keeps hN5 hk7 (fun k hk hx => by have := (own_of_blk HB5.out hx).1; omega)
          have hW7 := lx_oth HW5.out hk7 (fun g hg => by
            obtain ⟨cur, hc⟩ := lx_tag HB5.out (lx_own hg)
            exact ⟨cur, _, _, hc, by decide⟩)
          have HW7 := Lib.hid hW7
          have HB7 := Lib.hid hown7
          have HL7 : Hid ((Bs ++ S.data.toList ++ G.data.toList).length = n5 + G.size ∧ (Ws ++ [(⟨so, tx, nu, nb⟩ : LTok)]).length = nw + 1) := Lib.hid ⟨by rw [List.length_append, toList_len, HL5.out], by rw [List.length_append, HL.out.2]; rfl⟩
          clear hown7 hk7 hN5 hW7 HW5 HB5 hbt
          go_wp2_with fail
          go_roundw
          case rel => exact ⟨i + 1, _, _, a7, c7, a3, c3, n5 + G.size, nw + 1, by omega, by go_num, by first | rfl | (congr 1), by first | rfl | (congr 1), hN7, HL7, HB7, HW7, HK2, by omega, by omega⟩
          case measure => simp [intOf]; omega
        · have dneg : decide (gk < 0) = false := decide_eq_false hneg
          have q6 : IntKind.i64.wrap (gk + (j : Int)) = (kk : Int) := by rw [IntWalk.i64_in _ (by omega)]; omega
          go_wp2_with fail
          refine (hbt _).mono ?_
          rintro e w6 ⟨rfl, rfl⟩
          go_wp2_with (at_builtin; refine wpList_appS rfl _ _ rfl w.heap.size a5 c5 (Bs ++ S.data.toList) n5 HL5.out rfl HB5.out G rfl ?d1 hsz5 ?_)
          case d1 => omega
          intro a7 c7 w7 hown7 hk7
          (try rw [show Bs ++ (S.data.toList ++ G.data.toList) = Bs ++ S.data.toList ++ G.data.toList from (List.append_assoc _ _ _).symm] at hown7)
          have hN7 : New w w7 := New.keeps hN5 hk7 (fun k hk hx => by have := (own_of_blk HB5.out hx).1; omega)
          have hW7 := lx_oth HW5.out hk7 (fun g hg => by
            obtain ⟨cur, hc⟩ := lx_tag HB5.out (lx_own hg)
            exact ⟨cur, _, _, hc, by decide⟩)
          have HW7 := Lib.hid hW7
          have HB7 := Lib.hid hown7
          have HL7 : Hid ((Bs ++ S.data.toList ++ G.data.toList).length = n5 + G.size ∧ (Ws ++ [(⟨so, tx, nu, nb⟩ : LTok)]).length = nw + 1) := Lib.hid ⟨by rw [List.length_append, toList_len, HL5.out], by rw [List.length_append, HL.out.2]; rfl⟩
          clear hown7 hk7 hN5 hW7 HW5 HB5 hbt
          go_wp2_with fail
          go_roundw
          case rel => exact ⟨i + 1, _, _, a7, c7, a3, c3, n5 + G.size, nw + 1, by omega, by go_num, by first | rfl | (congr 1), by first | rfl | (congr 1), hN7, HL7, HB7, HW7, HK2, by omega, by omega⟩
          case measure => simp [intOf]; omega
    · have hdd : ¬ ((i : Int) < (n : Int)) ∨ ((i : Int) < (n : Int) ∧ ¬ ((nb : Int) < 524288)) := by omega
      have hsz := hN.size
      obtain ⟨X, hX⟩ : ∃ X : ByteArray, (⟨Bs.toArray⟩ : ByteArray) = X := ⟨_, rfl⟩
      have hXl : X.data.toList = Bs := by rw [← hX]
      have hXs : X.size = nb := by rw [← toList_len, hXl, HL.out.1]
      have hLA : lexA X.data.toList = (Ws ++ [⟨0, [], 0, nb⟩], 0, 0) := by
        rw [hXl, HK.out.done (by rw [HL.out.1]; omega), HL.out.1]
      have cX := fun W e => callC W X e (by omega) _ 0 0 hLA (nw + 1) (by rw [List.length_append, HL.out.2]; rfl)
      have hE : (Ws ++ [(⟨0, [], 0, nb⟩ : LTok)]).flatMap tokCells = Ws.flatMap tokCells ++ [.int .u8 0, .string ⟨#[]⟩, I 0, I (nb : Int)] := by rw [List.flatMap_append]; rfl
      have hEl : (Ws ++ [(⟨0, [], 0, nb⟩ : LTok)]).length = nw + 1 := by rw [List.length_append, HL.out.2]; rfl
      have HE := Lib.hid hE
      have HEL := Lib.hid hEl
      have HX := Lib.hid hXl
      have ka : New wr (wr.alloc (.cells #[.int .u8 0, .string ⟨#[]⟩, I 0, I (nb : Int)] 33)) := (New.refl wr).alloc _
      have hB2 := ka.owns HB.out
      have HB2 := Lib.hid hB2
      have hone : ∀ u ∈ [Value.int .u8 0, .string ⟨#[]⟩, I 0, I (nb : Int)], u.oneCell' = true := by intro u hu; simp only [List.mem_cons, List.not_mem_nil, or_false] at hu; rcases hu with rfl | rfl | rfl | rfl <;> rfl
      clear hX hXl hXs hLA hE hEl hB2 hin
      rcases hdd with hdd | ⟨hdd, hdd2⟩
      all_goals
        (go_wp2_with (at_builtin; refine wpList_app rfl _ _ 22 rfl w.heap.size 33 i0 _ 4 40 Tryd.underlying22 hi0 hz0 hz1 hz2 rfl (by decide) aw nw cw (Ws.flatMap tokCells) rfl (ka.owns HW.out) _ 1 1 [.int .u8 0, .string ⟨#[]⟩, I 0, I (nb : Int)] rfl rfl (SlAt.lit _ _ _) hone (by unfold maxLen; omega) (by omega) (Nat.le_trans hsz ka.size) ?_)
         intro a3 c3 w3 hown3 hk3 _ _
         have hW3 : Hid (SlAt w3 a3 ((Ws ++ [(⟨0, [], 0, nb⟩ : LTok)]).flatMap tokCells)) := Lib.hid (by rw [HE.out]; exact SlAt.of_owns hown3)
         have hN3 : New w w3 := New.keeps (hN.trans ka) hk3 (fun k hk hx => by have := (own_of_blk HW.out hx).1; omega)
         have hB3 : w3.ownsRow w.heap.size 5 1 (.slice ab nb cb) nb (bCells Bs) := lx_oth HB2.out hk3 (fun g hg => by
           obtain ⟨cur, hc⟩ := lx_tag (ka.owns HW.out) (lx_own hg)
           exact ⟨cur, _, _, hc, by decide⟩)
         have hcv := conv_bytes w3 w.heap.size ab cb Bs nb HL.out.1 hB3 X HX.out
         clear hown3 hk3 hB3 ka
         go_wp2_with fail
         refine (cX _ (he.new hN3)).mono ?_
         rintro e w4 ⟨p4, c4, rfl, n4, s4, -, -⟩
         have t4 : New w (w4.alloc (.cells #[I 0, I 0] 25)) := (hN3.trans n4).alloc _
         have m4 : New w4 (w4.alloc (.cells #[I 0, I 0] 25)) := (New.refl _).alloc _
         have HS4 := Lib.hid (s4.new m4)
         have HS3 := Lib.hid ((hW3.out.new n4).new m4)
         clear s4 n4 m4 hN3 hcv cX
         go_wp2_with fail
         refine (awake_any _ (he.new t4)).mono ?_
         rintro e w5 ⟨rfl, n5⟩
         have f0 : w5.cell? ⟨w4.heap.size, 0, none⟩ = some (I 0) := New.cell n5 (by rw [cell_of_block (heap_alloc_new w4 _) 0]; simp)
         have f1 : w5.cell? ⟨w4.heap.size, 1, none⟩ = some (I 0) := New.cell n5 (by rw [cell_of_block (heap_alloc_new w4 _) 1]; simp)
         have hsm := fun W (n : New w5 W) => same_yes W p4 a3 c4 c3 _ ((HS4.out.new n5).new n) ((HS3.out.new n5).new n) (nw + 1) HEL.out (by omega)
         have HN := Lib.hid (t4.trans n5)
         clear n5 t4
         go_wp2_with fail
         refine (hsm _ (New.refl _)).mono ?_
         rintro e w6 ⟨rfl, n6⟩
         go_wp2_with fail
         go_ret
         exact ⟨rfl, HN.out.trans n6⟩)

set_option maxRecDepth 100000 in
theorem contract (H : Type) (enc : TypeId × Value → H) (W : World) (base : Nat) (args : Array Value) (ds gs : List (DataW H)) (before : List MemPlace)
    (hval0 : ∀ (j : Nat) t v, Tryd.f6.params[j]? = some t → args[j]? = some v → Value.okWide Tryd.prog W .any base t v)
    (hW : DataW.Whole enc Tryd.prog Tryd.f6.params.toList Rows.lexBackSpec.vars false W args.toList ds gs before)
    (hsz0 : (DataW.weightsEach Tryd.prog (Tryd.f6.params.toList ++ Rows.lexBackSpec.plain.varTypes Tryd.prog) (ds ++ gs)).all (· ≤ reachBytes) = true) (hL : laidMetH Tryd.prog Rows.lexBackRow.laid W) :
    Calls Tryd.prog 6 args W fun e W' => ∃ v, e = .returned v ∧ Rows.lexBackSpec.post enc Tryd.prog Tryd.f6 false true false false W args v W' := by
  have hval := hval0
  have hsz := hsz0
  clear hsz0
  have hW' := hW
  have he : Env W := env_of (by exact hL)
  obtain ⟨p, q, hA0, hV, rfl, hfz, hnd⟩ := hW
  have hA : DataW.TrodAll enc Tryd.prog W 0 (fun _ => true) true Tryd.f6.params.toList args.toList ds p := hA0
  rw [Tryd.params6] at hA hval hsz
  obtain ⟨v0, vs0, d0, ds0, p0, q0, hargs, rfl, rfl, h0, r0'⟩ := trodAll_cons hA
  obtain ⟨v1, vs1, d1, ds1, p1, q1, rfl, rfl, rfl, h1, r1'⟩ := trodAll_cons r0'
  obtain ⟨rfl, rfl, rfl⟩ := trodAll_nil r1'
  obtain rfl : args = #[v0, v1] := by cases args; simp_all
  obtain ⟨rfl, rfl⟩ := trodVars_none hV
  have k0 := h0
  have lt0 : ∀ x ∈ p0, x.block < W.heap.size := by obtain ⟨m, hm⟩ := k0; exact DataW.trod_lt m _ _ _ hm
  have k1 := h1
  have lt1 : ∀ x ∈ p1, x.block < W.heap.size := by obtain ⟨m, hm⟩ := k1; exact DataW.trod_lt m _ _ _ hm
  obtain ⟨a0', n0', c0', rfl⟩ := okWide_slice Tryd.underlying22 (hval 0 22 v0 rfl rfl)
  obtain ⟨f0, hf0⟩ := h0
  obtain ⟨a0, c0, x0, e0, sl0, r0, l0, w0⟩ := read_toks (v := .slice a0' n0' c0') hf0
  obtain ⟨rfl, rfl, rfl⟩ := Value.slice.inj e0
  have l0' : x0.length * 40 ≤ 140737488351232 := w0 _ (fun m hm => by
    have := List.all_eq_true.1 hsz _ (DataW.weights_mem_each (j := 0) rfl rfl m hm)
    rw [decide_eq_true_iff] at this
    exact this)
  obtain ⟨a1, rfl, _, _, w1⟩ := open_int Tryd.underlying3 (hval 1 3 v1 rfl rfl) h1
  clear hA0 hval0
  refine (walk W he a0' c0' x0 sl0 r0 l0' a1 (wf_i64 w1).1 (wf_i64 w1).2).mono fun e W' ⟨he, hnew⟩ => ?_
  have bel := hnew.below
  subst he
  exact ⟨_, rfl, _, _, _, [], _, [], hW', trodAll_mk1 (shut_bool Tryd.underlying4 _), (trodAll_cons_mk (Below.trod laidOut (by kernel_rfl) (of_decide_eq_true (by kernel_rfl)) k0 bel lt0) (trodAll_cons_mk (Below.trod laidOut (by kernel_rfl) (of_decide_eq_true (by kernel_rfl)) k1 bel lt1) trodAll_mk0)), rfl, bel.frame _, fun h => by cases h⟩

theorem reads (os : Os) {H : Type} (enc : TypeId × Value → H) : ∃ places, DataW.whole enc Tryd.prog ((laidWorld os).forCall (fun _ _ => 0) ⟨#[], #[.slice none 0 0, .int .i64 0], []⟩).memory Tryd.f6.params.toList Rows.lexBackSpec.vars false #[.slice none 0 0, .int .i64 0].toList 8 = some ([.nil, .lit (.int .i64 0)], [], places) :=
  ⟨[], by kernel_rfl⟩

set_option maxRecDepth 100000 in
theorem lifted (os : Os) (started : os.Started) (H : Type) (enc : TypeId × Value → H) (F : Stop.Interp) :
    ReturnsInHanded {} Tryd.checked os 6 .any ((OpenSpec.ofChange Rows.lexBackSpec).preRow enc Tryd.prog Tryd.f6 Rows.lexBackRow.domain false Rows.lexBackRow.laid) (((OpenSpec.ofChange Rows.lexBackSpec).at F).post enc Tryd.prog Tryd.f6 false true false false) := by
  obtain ⟨places, hx⟩ := reads os enc
  refine returnsInHanded_of_row (C := Tryd.checked) (s := OpenSpec.ofChange Rows.lexBackSpec) own started (by kernel_rfl) Tryd.func6
    (witness_row_at (enc := enc) (C := Tryd.checked) false (laidWorld os) #[.slice none 0 0, .int .i64 0] rfl (by kernel_rfl) (by kernel_rfl) (by kernel_rfl)
      (OpenSpec.preRow_of_cond 8 hx (by kernel_rfl) (fun k hk => by cases hk) (by kernel_rfl) (laid_met os _))) ?_
  intro W base args ds gs before hval hW _ _ hsz hL _ _
  exact contract H enc W base args ds gs before hval hW hsz hL

theorem said : Rows.LexBackSaid :=
  OpenClaim.holds_of_cond 6 Tryd.f6 rfl rfl rfl rfl rfl rfl rfl ⟨rfl, rfl, rfl, rfl, rfl⟩ rfl rfl rfl rfl rfl (by kernel_rfl) Tryd.func6 (by kernel_rfl)
    (of_decide_eq_true (by kernel_rfl)) (by unfold Func.isWrapper; first | (rw [if_pos (by decide +kernel)]; kernel_rfl) | (rw [if_neg (by decide +kernel)]; exact ⟨rfl, rfl⟩))
    (fun os started H enc _ F => by rw [OpenClaim.pre_eq_preRow]; exact lifted os started H enc F)

theorem plain (f : FuncId) (fn : Func) (hf : Tryd.pinned.checked.prog.funcNamed "pianola/pianolalaw04.LexBack" = some f) (hfn : Tryd.pinned.checked.prog.funcs[f]? = some fn) :
    true = Tryd.pinned.checked.prog.looks [] ∧ ∀ (j : Nat) t, fn.params[j]? = some t → Tryd.pinned.checked.prog.wantsStandIn t = false := by
  obtain rfl : f = 6 := Option.some.inj ((show Tryd.prog.funcNamed "pianola/pianolalaw04.LexBack" = some 6 by kernel_rfl).symm.trans hf) |>.symm
  obtain rfl : fn = Tryd.f6 := (Option.some.inj (Tryd.func6.symm.trans hfn)).symm
  refine ⟨by kernel_rfl, fun j t ht => ?_⟩
  rw [Tryd.params6] at ht
  have hm := Array.mem_of_getElem? ht
  have : t = 22 ∨ t = 3 := by
    simpa [or_assoc] using hm
  rcases this with rfl | rfl
  · exact (show Tryd.prog.wantsStandIn 22 = false by kernel_rfl)
  · exact (show Tryd.prog.wantsStandIn 3 = false by kernel_rfl)

/-- THE CARD. -/
theorem proved : Rows.LexBackCardSaid :=
  Claim7.holds_tied_plain_at .later [] _ _ _ _ said (fun _ h => by cases h) (by kernel_rfl) (fun _ h => by cases h) lexBack_row_tie rfl ⟨rfl, rfl⟩ (by kernel_rfl) rfl plain (by kernel_rfl)
end Go.Proofs.YtmmoocbnmjmfeaaDoor.lexBack
