/-
  'SketchLoose': the law returns true at every input; what it is handed reads afterwards as before; the variables of the library that it reads hold what the program's text lays.
-/
import Derived.Test.YtohalcbhckahmaaDoorSkT
import Derived.Test.YtohalcbhckahmaaDoorSkO
import Derived.Test.YtohalcbhckahmaaDoorSkY
namespace Go.Proofs.YtohalcbhckahmaaDoor.sketchLoose
open Go Go.RowKit Go.Joins Go.ChangeShapes Go.WideShapes Go.ChangeAt
open Go.ChangeMaps (open_string shut_string)
set_option linter.all false

set_option maxRecDepth 100000 in
set_option maxHeartbeats 4000000 in
theorem walk (w : World) (he : Env w) (a0 : ByteArray) (h0 : a0.size ≤ 140737488351232) :
    Calls Tryd.prog 8 #[.string a0] w fun e w' => e = .returned (.bool true) ∧ New w w' := by
  have hs : a0.size ≤ 9223372036854775807 := by omega
  obtain ⟨i0, hi, hz0, hz1, hz2⟩ := info_parts infoByte
  obtain ⟨⟨l, c, k⟩, hA⟩ : ∃ r, lexA a0.data.toList = r := ⟨_, rfl⟩
  have hall := fun W e => callA W a0 e hs l c k hA l.length rfl
  by_cases hc : c = 0
  · have hk : k = 0 := by rcases lexA_code hA with ⟨_, e, _⟩ | ⟨⟨e, _⟩ | ⟨e, _⟩, _⟩ <;> omega
    subst hc hk
    have hG := good_of hA
    have hln := (lexA_count (l := a0.data.toList)).1
    rw [hA] at hln
    simp only at hln
    have hne := hG.ne
    have hlaw := fun h => loose_law hA h
    have HLAW := Lib.hid hlaw
    have HG := Lib.hid hG
    have HA := Lib.hid hA
    have hll := loose_len hG
    have HLL := Lib.hid hll
    obtain ⟨N, hN⟩ : ∃ N, l.length = N := ⟨_, rfl⟩
    rw [hN] at hall hln hne
    have HLN := Lib.hid hN
    obtain ⟨res, hres⟩ : ∃ r, parseA a0.data.toList = r := ⟨_, rfl⟩
    clear hG hlaw hA hN hll
    cases res with
  | ok x =>
    have hpar := fun W e => skparse_ok W a0 e hs x hres
    obtain ⟨hro, hlen⟩ := read_ok hres
    have hbd := hro.bnd hlen
    have HBD := Lib.hid hbd
    have HX := Lib.hid (fun h => (HLAW.out h).1 x hres)
    clear hro hlen hbd hres
    go_enter Tryd.func8, Tryd.ntmps8
    go_wp2_with fail
    refine (hall _ he).mono ?_
    rintro e w1 ⟨ao, co, rfl, n1, hsl⟩
    have m1 : New w1 (w1.alloc (.cells #[I 0, I ((0 : Nat) : Int)] 27)) := (New.refl _).alloc _
    obtain ⟨f0, f1, -, -, fl⟩ := sk_get (heap_alloc_new w1 (.cells #[I 0, I ((0 : Nat) : Int)] 27))
    have N1 := Lib.hid (n1.trans m1)
    have HSL0 := Lib.hid (hsl.new m1)
    have hh1 := hpar _ (he.new N1.out)
    clear hall hpar hsl n1 m1
    go_wp2_with fail
    refine (hh1).mono ?_
    rintro e w2 ⟨w2t, w2ht, rfl, w2own, kw2⟩
    obtain ⟨w2nm, w2ia, w2ic, w2it⟩ := w2t
    have mw2 : New w2 ((w2.alloc (.cells #[.string w2nm, .slice w2ia w2it.length w2ic] 24)).alloc (.cells #[I 0, I 0] 27)) := ((New.refl _).alloc _).alloc _
    have hSw2 : ((w2.alloc (.cells #[.string w2nm, .slice w2ia w2it.length w2ic] 24)).alloc (.cells #[I 0, I 0] 27)).heap[w2.heap.size]? = some (.cells #[.string w2nm, .slice w2ia w2it.length w2ic] 24 (0, 0)) := Keeps.heap (Keeps.alloc (S := fun _ => False) _ _) (heap_alloc_new w2 _) (fun h => h)
    have hFw2 : ((w2.alloc (.cells #[.string w2nm, .slice w2ia w2it.length w2ic] 24)).alloc (.cells #[I 0, I 0] 27)).heap[w2.heap.size + 1]? = some (.cells #[I 0, I 0] 27 (0, 0)) := by
      have := heap_alloc_new (w2.alloc (.cells #[.string w2nm, .slice w2ia w2it.length w2ic] 24)) (.cells #[I 0, I 0] 27)
      simpa using this
    obtain ⟨w2s0, w2s1, -, -, w2sl⟩ := sk_get hSw2
    obtain ⟨w2f0, w2f1, -, -, w2fl⟩ := sk_get hFw2
    have N2 := Lib.hid (N1.out.trans (kw2.trans mw2))
    have Dw2 := Lib.hid (kw2.trans mw2)
    have Ow2 := Lib.hid (w2own.at.new mw2)
    have Uw2 := Lib.hid w2own
    have Tw2 := Lib.hid w2ht
    have hv : Sk.v ⟨w2nm, w2ia, w2ic, w2it⟩ = .agg #[.string w2nm, .slice w2ia w2it.length w2ic] := rfl
    rw [hv]
    clear hv hSw2 hFw2 kw2 mw2 w2own w2ht
    have HSL := Lib.hid (HSL0.out.new Dw2.out)
    have g0 := New.cell Dw2.out f0
    have g1 := New.cell Dw2.out f1
    have gb := World.block_lt_of_cell? _ _ g0
    clear hh1 f0 f1 fl HSL0
    go_wp2_with fail
    obtain ⟨W0, hW0⟩ : ∃ W, W = ((w2.alloc (.cells #[.string w2nm, .slice w2ia w2it.length w2ic] 24)).alloc (.cells #[I 0, I 0] 27)) := ⟨_, rfl⟩
    have hsz0 : w2.heap.size + 1 < W0.heap.size := by rw [hW0]; simp
    rw [← hW0] at Ow2 w2s0 w2s1 w2f0 w2f1 HSL N2 ⊢
    clear hW0 g0 g1 gb w2sl w2fl
    obtain ⟨SB, hSB⟩ : ∃ b, w2.heap.size = b := ⟨_, rfl⟩
    rw [hSB] at w2s0 w2s1 w2f0 w2f1 hsz0 ⊢
    clear hSB
    have HF := Lib.hid (And.intro w2f0 w2f1)
    have HS := Lib.hid (And.intro w2s0 w2s1)
    clear w2f0 w2f1 w2s0 w2s1
    have hnil : W0.ownsRow W0.heap.size 5 1 (.slice none 0 0) 0 (bCells []) := World.ownsRow_nil _ _ _ _
    have HNIL := Lib.hid hnil
    clear hnil
    go_loopw [7, 8, 9] (fun b g i wr => ∃ (k : Nat) (ab : Option Addr) (cb nb : Nat) (wz : Int), k ≤ N ∧ i = .int .i64 k ∧ g = .int .i64 wz ∧ b = .slice ab nb cb ∧ Hid (New W0 wr) ∧ Hid (wr.ownsRow W0.heap.size 5 1 (.slice ab nb cb) nb (bCells (looseU l k))) ∧ Hid ((looseU l k).length = nb ∧ nb ≤ 22 * k) ∧ Hid (wz = wrongZ l none k)) (fun _ _ i _ => N - (intOf i).toNat)
    case atStart => exact ⟨0, none, 0, 0, -1, by omega, rfl, rfl, rfl, Lib.hid (New.refl _), Lib.hid HNIL.out, Lib.hid ⟨rfl, by omega⟩, Lib.hid (by unfold wrongZ; simp)⟩
    case round =>
      obtain ⟨q, ab, cb, nb, wz, hq, rfl, rfl, rfl, HN, HB, HL, HWZ⟩ := hrel
      have G0 := New.cell HN.out HF.out.1
      have G1 := New.cell HN.out HF.out.2
      have gb := World.block_lt_of_cell? _ _ G0
      by_cases hq1 : q < N
      · have hql : q < l.length := by have := HLN.out; omega
        obtain ⟨bb, off, hab, q0, q1, q2, q3⟩ := toks_at (HSL.out.new HN.out) hql
        have hqN : (q : Int) < (N : Int) := by omega
        have hqd : decide (q < N) = true := decide_eq_true hq1
        have hnx := looseU_get hql
        have hrn := HG.out.nm q _ (List.getElem?_eq_getElem hql)
        have hrl := HG.out.len (List.getElem?_eq_getElem hql)
        obtain ⟨u, hu⟩ : ∃ u, l[q] = u := ⟨_, rfl⟩
        have hgu := List.getElem?_eq_getElem hql
        rw [hu] at q0 q1 q2 q3 hgu hnx hrn hrl
        clear hu
        have hbw := World.block_lt_of_cell? wr _ q0
        have HAB := Lib.hid hab
        have HGU := Lib.hid hgu
        have HNX := Lib.hid hnx
        obtain ⟨uso, utx, unu, uat⟩ := u
        obtain ⟨UT, hUT⟩ : ∃ T : ByteArray, (⟨utx.toArray⟩ : ByteArray) = T := ⟨_, rfl⟩
        simp only [hUT] at q0 q1 q2 q3
        obtain ⟨Sp, hSp⟩ : ∃ S, speltS ⟨uso, utx, unu, uat⟩ = S := ⟨_, rfl⟩
        have hSl : Sp.data.toList = (LTok.mk uso utx unu uat).spelt := by rw [← hSp]; rfl
        have hSz : Sp.size ≤ 21 := by rw [← toList_len, hSl]; exact hrl
        have hspl := fun W => spelt_any W ⟨uso, utx, unu, uat⟩ (uat : Int) hrn.1 hrn.2
        simp only [hUT, hSp] at hspl
        have HSP := Lib.hid hSl
        have hnb := HL.out.2
        have w2q : IntKind.i64.wrap ((q : Int) + 2) = (q : Int) + 2 := IntWalk.i64_in _ (by omega)
        clear hUT hgu hab hnx hrn hrl hSp hSl
        rw [HAB.out]
        have HWZ2 : Hid (wz = wrongZ l none (q + 1)) := HWZ
        go_wp2_with fail
        go_quiet (fail)
        obtain ⟨Wd, hWd⟩ : ∃ W, W = wr.drewN nq := ⟨_, rfl⟩
        have nd : New wr Wd := by rw [hWd]; exact (New.refl _).drewN _
        rw [← hWd]
        clear hWd
        replace q0 := New.cell nd q0
        replace q1 := New.cell nd q1
        replace q2 := New.cell nd q2
        replace q3 := New.cell nd q3
        replace hbw := World.block_lt_of_cell? Wd _ q0
        go_wp2_with fail
        refine (hspl _).mono ?_
        rintro e w4 ⟨rfl, n4⟩
        have N4 := Lib.hid ((HN.out.trans nd).trans n4)
        have HB4 := Lib.hid ((nd.trans n4).owns HB.out)
        have hsz4 : W0.heap.size ≤ w4.heap.size := N4.out.size
        clear hspl q0 q1 q2 q3 hbw nd n4 G0 G1 gb
        go_wp2_with (at_builtin; refine wpList_appL rfl _ _ rfl W0.heap.size ab cb (looseU l q) nb rfl HB4.out Sp rfl ?c1 hsz4 ?_)
        case c1 => omega
        intro a5 c5 w5 hown5 hk5
        have n5' : New W0 w5 := New.keeps N4.out hk5 (fun k hk hx => by have := (own_of_blk HB4.out hx).1; omega)
        have N5' := Lib.hid n5'
        obtain ⟨n5, hn5⟩ : ∃ n5 : Nat, nb + Sp.size = n5 := ⟨_, rfl⟩
        rw [hn5] at hown5 ⊢
        have HB5 := Lib.hid hown5
        have hsz5 := N5'.out.size
        clear hown5 hk5 n5'
        by_cases hq2 : q + 2 < N
        · have hd2 : decide ((q : Int) + 2 < (N : Int)) = true := decide_eq_true (by omega)
          have hi2 : (q : Int) + 2 < (N : Int) := by omega
          have ka : New w5 (w5.alloc (.cells #[.int .u8 32] 5)) := (New.refl w5).alloc _
          have HB6 := Lib.hid (ka.owns HB5.out)
          have hsz6 := Nat.le_trans hsz5 ka.size
          go_wp2_with (at_builtin; refine wpList_app rfl _ _ 47 rfl W0.heap.size 5 i0 _ 1 1 Tryd.underlying47 hi hz0 hz1 hz2 rfl (by decide) a5 n5 c5 (bCells (looseU l q ++ Sp.data.toList)) rfl HB6.out (some ⟨w5.heap.size, 0, none⟩) 1 1 (bCells [32]) rfl rfl (one_byte w5) (bCells_one _) (by unfold maxLen; omega) (by omega) hsz6 ?_)
          intro a7 c7 w7 hown7 hk7 _ _
          have hx7 : looseU l (q + 1) = looseU l q ++ Sp.data.toList ++ [32] := by rw [HNX.out, HSP.out, if_pos (by have := HLN.out; omega)]
          have HB7 : Hid (w7.ownsRow W0.heap.size 5 1 (.slice a7 (n5 + 1) c7) (n5 + 1) (bCells (looseU l (q + 1)))) := Lib.hid (by rw [hx7, bCells_app]; exact hown7)
          have hl7 : (looseU l (q + 1)).length = n5 + 1 := by rw [hx7, List.length_append, List.length_append, toList_len, HL.out.1, hn5]; rfl
          have hb7 := HLL.out (q + 1) (by have := HLN.out; omega)
          have HL7 : Hid ((looseU l (q + 1)).length = n5 + 1 ∧ n5 + 1 ≤ 22 * (q + 1)) := Lib.hid ⟨hl7, by omega⟩
          have N7 : Hid (New W0 w7) := Lib.hid (New.keeps (N5'.out.trans ka) hk7 (fun k hk hx => by have := (own_of_blk HB6.out hx).1; omega))
          clear hown7 hk7 hx7 hl7 hb7 ka
          go_wp2_with fail
          go_roundw
          case rel => exact ⟨q + 1, a7, c7, n5 + 1, _, by omega, by go_num, rfl, by first | rfl | (congr 1), N7, HB7, HL7, HWZ2⟩
          case measure => simp [intOf]; omega
        · have hd2 : decide ((q : Int) + 2 < (N : Int)) = false := decide_eq_false (by omega)
          have hi2 : (N : Int) ≤ (q : Int) + 2 := by omega
          have hx7 : looseU l (q + 1) = looseU l q ++ Sp.data.toList := by rw [HNX.out, HSP.out, if_neg (by have := HLN.out; omega), List.append_nil]
          have HB7 : Hid (w5.ownsRow W0.heap.size 5 1 (.slice a5 n5 c5) n5 (bCells (looseU l (q + 1)))) := Lib.hid (by rw [hx7]; exact HB5.out)
          have hl7 : (looseU l (q + 1)).length = n5 := by rw [hx7, List.length_append, toList_len, HL.out.1, hn5]
          have hb7 := HLL.out (q + 1) (by have := HLN.out; omega)
          have HL7 : Hid ((looseU l (q + 1)).length = n5 ∧ n5 ≤ 22 * (q + 1)) := Lib.hid ⟨hl7, by omega⟩
          clear hx7 hl7 hb7
          go_wp2_with fail
          go_roundw
          case rel => exact ⟨q + 1, a5, c5, n5, _, by omega, by go_num, rfl, by first | rfl | (congr 1), N5', HB7, HL7, HWZ2⟩
          case measure => simp [intOf]; omega
      · obtain rfl : q = N := by omega
        have hqd : decide (q < q) = false := decide_eq_false hq1
        have hsz := HN.out.size
        by_cases hbig : 1048576 < nb
        · have hbI : (1048576 : Int) < (nb : Int) := by omega
          have hbd9 : decide ((1048576 : Int) < (nb : Int)) = true := decide_eq_true hbI
          go_wp2_with fail
          (try go_ret)
          exact ⟨rfl, N2.out.trans HN.out⟩
        · have hbI : (nb : Int) ≤ (1048576 : Int) := by omega
          have hbd9 : decide ((1048576 : Int) < (nb : Int)) = false := decide_eq_false (by omega)
          obtain ⟨X, hX⟩ : ∃ X : ByteArray, (⟨(looseU l q).toArray⟩ : ByteArray) = X := ⟨_, rfl⟩
          have hXl : X.data.toList = looseU l q := by rw [← hX]
          have hXs : X.size = nb := by rw [← toList_len, hXl, HL.out.1]
          have hcv := conv_bytes wr W0.heap.size ab cb (looseU l q) nb HL.out.1 HB.out X hXl
          have hpx := HX.out (by rw [HLN.out, HL.out.1]; omega)
          rw [HLN.out, ← hXl] at hpx
          obtain ⟨y, hy, hyb⟩ := hpx
          have hh3 := skparse_ok wr X (he.new (N2.out.trans HN.out)) (by omega) y hy
          have HYB := Lib.hid hyb
          clear hX hXl hXs hy hyb
          go_wp2_with fail
          refine (hh3).mono ?_
          rintro e w3 ⟨w3t, w3ht, rfl, w3own, kw3⟩
          obtain ⟨w3nm, w3ia, w3ic, w3it⟩ := w3t
          have mw3 : New w3 ((w3.alloc (.cells #[.string w3nm, .slice w3ia w3it.length w3ic] 24)).alloc (.cells #[I 0, I 0] 27)) := ((New.refl _).alloc _).alloc _
          have hSw3 : ((w3.alloc (.cells #[.string w3nm, .slice w3ia w3it.length w3ic] 24)).alloc (.cells #[I 0, I 0] 27)).heap[w3.heap.size]? = some (.cells #[.string w3nm, .slice w3ia w3it.length w3ic] 24 (0, 0)) := Keeps.heap (Keeps.alloc (S := fun _ => False) _ _) (heap_alloc_new w3 _) (fun h => h)
          have hFw3 : ((w3.alloc (.cells #[.string w3nm, .slice w3ia w3it.length w3ic] 24)).alloc (.cells #[I 0, I 0] 27)).heap[w3.heap.size + 1]? = some (.cells #[I 0, I 0] 27 (0, 0)) := by
            have := heap_alloc_new (w3.alloc (.cells #[.string w3nm, .slice w3ia w3it.length w3ic] 24)) (.cells #[I 0, I 0] 27)
            simpa using this
          obtain ⟨w3s0, w3s1, -, -, w3sl⟩ := sk_get hSw3
          obtain ⟨w3f0, w3f1, -, -, w3fl⟩ := sk_get hFw3
          have N3 := Lib.hid ((N2.out.trans HN.out).trans (kw3.trans mw3))
          have Dw3 := Lib.hid (kw3.trans mw3)
          have Ow3 := Lib.hid (w3own.at.new mw3)
          have Uw3 := Lib.hid w3own
          have Tw3 := Lib.hid w3ht
          have hv : Sk.v ⟨w3nm, w3ia, w3ic, w3it⟩ = .agg #[.string w3nm, .slice w3ia w3it.length w3ic] := rfl
          rw [hv]
          clear hv hSw3 hFw3 kw3 mw3 w3own w3ht
          have s0 := New.cell (HN.out.trans Dw3.out) HS.out.1
          have s1 := New.cell (HN.out.trans Dw3.out) HS.out.2
          have g0 := New.cell Dw3.out G0
          have g1 := New.cell Dw3.out G1
          have O3 := Lib.hid (Ow2.out.new (HN.out.trans Dw3.out))
          have haw := awake_sk _ (he.new N3.out)
          have gb2 := World.block_lt_of_cell? _ _ s0
          clear hh3 hcv G0 G1 gb
          go_wp2_with fail
          refine haw.mono ?_
          rintro e w4 ⟨rfl, n4⟩
          have A0 := New.cell n4 s0
          have A1 := New.cell n4 s1
          have B0 := New.cell n4 w3s0
          have B1 := New.cell n4 w3s1
          have C0 := New.cell n4 w3f0
          have C1 := New.cell n4 w3f1
          have hb1 := World.block_lt_of_cell? _ _ A0
          have hb2 := World.block_lt_of_cell? _ _ B0
          have hb3 := World.block_lt_of_cell? _ _ C0
          have hsb := HBD.out.mem Tw2.out
          have hal := fun W (n : New w4 W) => alike_yes W ⟨w2nm, w2ia, w2ic, w2it⟩ ⟨w3nm, w3ia, w3ic, w3it⟩ ((O3.out.new n4).new n) ((Ow3.out.new n4).new n) (alike_of Tw2.out Tw3.out HYB.out).1 (alike_of Tw2.out Tw3.out HYB.out).2 hsb.i (fun z hz => (hsb.bd z hz).ln)
          have hv1 : Sk.v ⟨w2nm, w2ia, w2ic, w2it⟩ = .agg #[.string w2nm, .slice w2ia w2it.length w2ic] := rfl
          have hv2 : Sk.v ⟨w3nm, w3ia, w3ic, w3it⟩ = .agg #[.string w3nm, .slice w3ia w3it.length w3ic] := rfl
          rw [hv1, hv2] at hal
          have N4 := Lib.hid (N3.out.trans n4)
          clear haw s0 s1 g0 g1 gb2 w3s0 w3s1 w3sl w3f0 w3f1 w3fl hsb n4 hv1 hv2
          go_wp2_with fail
          refine (hal _ (New.refl _)).mono ?_
          rintro e w5 ⟨rfl, n5⟩
          go_wp2_with fail
          (try go_ret)
          exact ⟨rfl, N4.out.trans n5⟩
  | error ck =>
    obtain ⟨c, k⟩ := ck
    obtain ⟨rfl, k9⟩ : c = 50 ∧ True := by
      unfold parseA at hres
      rw [HA.out] at hres
      simp only at hres
      rw [if_neg (by simp)] at hres
      split at hres
      · cases hres
      · cases hres; exact ⟨rfl, trivial⟩
    obtain ⟨l', j, tj, hA', hpl, htj, hat⟩ := parse_err hres
    rw [HA.out] at hA'
    cases hA'
    have hpar := fun W e => skparse_no W a0 e hs 50 k hres
    have hone := fun (i : Nat) (u : LTok) (hu : l[i]? = some u) (e : u.at_ = tj.at_) => tok_one HA.out hu htj e
    have hjl := (List.getElem?_eq_some_iff.1 htj).1
    have hlen2 := parse_of_bad HA.out hpl htj
    have hjN : j < N := by have := HLN.out; omega
    have HON := Lib.hid hone
    have HTJ := Lib.hid htj
    obtain ⟨at_, hat_⟩ : ∃ a, tj.at_ = a := ⟨_, rfl⟩
    have HAT := Lib.hid hat_
    obtain rfl : k = at_ := by omega
    have HX : Hid ((looseU l l.length).length ≤ 1048576 → parseA (looseU l l.length) = .error (50, (looseU l j).length)) := Lib.hid (fun h => by
      obtain ⟨_, j', t', h1, h2, h3⟩ := (HLAW.out h).2 50 k hres
      have := HON.out j' t' h1 (by rw [h2]; exact hat_.symm)
      rw [this] at h3; exact h3)
    clear hone htj hpl hat hlen2 hres k9 hat_ hjl
    go_enter Tryd.func8, Tryd.ntmps8
    go_wp2_with fail
    refine (hall _ he).mono ?_
    rintro e w1 ⟨ao, co, rfl, n1, hsl⟩
    have m1 : New w1 (w1.alloc (.cells #[I 0, I ((0 : Nat) : Int)] 27)) := (New.refl _).alloc _
    obtain ⟨f0, f1, -, -, fl⟩ := sk_get (heap_alloc_new w1 (.cells #[I 0, I ((0 : Nat) : Int)] 27))
    have N1 := Lib.hid (n1.trans m1)
    have HSL0 := Lib.hid (hsl.new m1)
    have hh1 := hpar _ (he.new N1.out)
    clear hall hpar hsl n1 m1
    go_wp2_with fail
    refine (hh1).mono ?_
    rintro e w2 ⟨rfl, kw2⟩
    have mw2 : New w2 ((w2.alloc (.cells #[.string ⟨#[]⟩, .slice none 0 0] 24)).alloc (.cells #[I 50, I (k : Int)] 27)) := ((New.refl _).alloc _).alloc _
    have hFw2 : ((w2.alloc (.cells #[.string ⟨#[]⟩, .slice none 0 0] 24)).alloc (.cells #[I 50, I (k : Int)] 27)).heap[w2.heap.size + 1]? = some (.cells #[I 50, I (k : Int)] 27 (0, 0)) := by
      have := heap_alloc_new (w2.alloc (.cells #[.string ⟨#[]⟩, .slice none 0 0] 24)) (.cells #[I 50, I (k : Int)] 27)
      simpa using this
    obtain ⟨w2f0, w2f1, -, -, w2fl⟩ := sk_get hFw2
    have N2 := Lib.hid (kw2.trans mw2)
    clear hFw2 kw2 mw2
    have HSL := Lib.hid (HSL0.out.new N2.out)
    have g0 := New.cell N2.out f0
    have g1 := New.cell N2.out f1
    replace N2 := Lib.hid (N1.out.trans N2.out)
    have gb := World.block_lt_of_cell? _ _ g0
    clear hh1 f0 f1 fl HSL0
    go_wp2_with fail
    obtain ⟨W0, hW0⟩ : ∃ W, W = ((w2.alloc (.cells #[.string ⟨#[]⟩, .slice none 0 0] 24)).alloc (.cells #[I 50, I (k : Int)] 27)) := ⟨_, rfl⟩
    have hsz0 : w2.heap.size + 1 < W0.heap.size := by rw [hW0]; simp
    rw [← hW0] at w2f0 w2f1 HSL N2 ⊢
    clear hW0 g0 g1 gb w2fl
    obtain ⟨SB, hSB⟩ : ∃ b, w2.heap.size = b := ⟨_, rfl⟩
    rw [hSB] at w2f0 w2f1 hsz0 ⊢
    clear hSB
    have HF := Lib.hid (And.intro w2f0 w2f1)

    clear w2f0 w2f1
    have hnil : W0.ownsRow W0.heap.size 5 1 (.slice none 0 0) 0 (bCells []) := World.ownsRow_nil _ _ _ _
    have HNIL := Lib.hid hnil
    clear hnil
    go_loopw [7, 8, 9] (fun b g i wr => ∃ (k : Nat) (ab : Option Addr) (cb nb : Nat) (wz : Int), k ≤ N ∧ i = .int .i64 k ∧ g = .int .i64 wz ∧ b = .slice ab nb cb ∧ Hid (New W0 wr) ∧ Hid (wr.ownsRow W0.heap.size 5 1 (.slice ab nb cb) nb (bCells (looseU l k))) ∧ Hid ((looseU l k).length = nb ∧ nb ≤ 22 * k) ∧ Hid (wz = wrongZ l (some j) k)) (fun _ _ i _ => N - (intOf i).toNat)
    case atStart => exact ⟨0, none, 0, 0, -1, by omega, rfl, rfl, rfl, Lib.hid (New.refl _), Lib.hid HNIL.out, Lib.hid ⟨rfl, by omega⟩, Lib.hid (by unfold wrongZ; simp)⟩
    case round =>
      obtain ⟨q, ab, cb, nb, wz, hq, rfl, rfl, rfl, HN, HB, HL, HWZ⟩ := hrel
      have G0 := New.cell HN.out HF.out.1
      have G1 := New.cell HN.out HF.out.2
      have gb := World.block_lt_of_cell? _ _ G0
      by_cases hq1 : q < N
      · have hql : q < l.length := by have := HLN.out; omega
        obtain ⟨bb, off, hab, q0, q1, q2, q3⟩ := toks_at (HSL.out.new HN.out) hql
        have hqN : (q : Int) < (N : Int) := by omega
        have hqd : decide (q < N) = true := decide_eq_true hq1
        have hnx := looseU_get hql
        have hrn := HG.out.nm q _ (List.getElem?_eq_getElem hql)
        have hrl := HG.out.len (List.getElem?_eq_getElem hql)
        obtain ⟨u, hu⟩ : ∃ u, l[q] = u := ⟨_, rfl⟩
        have hgu := List.getElem?_eq_getElem hql
        rw [hu] at q0 q1 q2 q3 hgu hnx hrn hrl
        clear hu
        have hbw := World.block_lt_of_cell? wr _ q0
        have HAB := Lib.hid hab
        have HGU := Lib.hid hgu
        have HNX := Lib.hid hnx
        obtain ⟨uso, utx, unu, uat⟩ := u
        obtain ⟨UT, hUT⟩ : ∃ T : ByteArray, (⟨utx.toArray⟩ : ByteArray) = T := ⟨_, rfl⟩
        simp only [hUT] at q0 q1 q2 q3
        obtain ⟨Sp, hSp⟩ : ∃ S, speltS ⟨uso, utx, unu, uat⟩ = S := ⟨_, rfl⟩
        have hSl : Sp.data.toList = (LTok.mk uso utx unu uat).spelt := by rw [← hSp]; rfl
        have hSz : Sp.size ≤ 21 := by rw [← toList_len, hSl]; exact hrl
        have hspl := fun W => spelt_any W ⟨uso, utx, unu, uat⟩ (uat : Int) hrn.1 hrn.2
        simp only [hUT, hSp] at hspl
        have HSP := Lib.hid hSl
        have hnb := HL.out.2
        have w2q : IntKind.i64.wrap ((q : Int) + 2) = (q : Int) + 2 := IntWalk.i64_in _ (by omega)
        clear hUT hgu hab hnx hrn hrl hSp hSl
        rw [HAB.out]
        by_cases hj : q = j
        · subst hj
          obtain rfl : wz = -1 := by have := HWZ.out; rw [wrongZ_at.1] at this; exact this
          have hsame : (⟨uso, utx, unu, uat⟩ : LTok) = tj := by have := HGU.out.symm.trans HTJ.out; exact Option.some.inj this
          obtain rfl : uat = k := by rw [← HAT.out, ← hsame]
          have HWZ2 : Hid ((nb : Int) = wrongZ l (some q) (q + 1)) := Lib.hid (by rw [wrongZ_at.2, HL.out.1])
          clear hsame
          go_wp2_with fail
          go_quiet (fail)
          obtain ⟨Wd, hWd⟩ : ∃ W, W = wr.drewN nq := ⟨_, rfl⟩
          have nd : New wr Wd := by rw [hWd]; exact (New.refl _).drewN _
          rw [← hWd]
          clear hWd
          replace q0 := New.cell nd q0
          replace q1 := New.cell nd q1
          replace q2 := New.cell nd q2
          replace q3 := New.cell nd q3
          replace hbw := World.block_lt_of_cell? Wd _ q0
          go_wp2_with fail
          refine (hspl _).mono ?_
          rintro e w4 ⟨rfl, n4⟩
          have N4 := Lib.hid ((HN.out.trans nd).trans n4)
          have HB4 := Lib.hid ((nd.trans n4).owns HB.out)
          have hsz4 : W0.heap.size ≤ w4.heap.size := N4.out.size
          clear hspl q0 q1 q2 q3 hbw nd n4 G0 G1 gb
          go_wp2_with (at_builtin; refine wpList_appL rfl _ _ rfl W0.heap.size ab cb (looseU l q) nb rfl HB4.out Sp rfl ?c1 hsz4 ?_)
          case c1 => omega
          intro a5 c5 w5 hown5 hk5
          have n5' : New W0 w5 := New.keeps N4.out hk5 (fun k hk hx => by have := (own_of_blk HB4.out hx).1; omega)
          have N5' := Lib.hid n5'
          obtain ⟨n5, hn5⟩ : ∃ n5 : Nat, nb + Sp.size = n5 := ⟨_, rfl⟩
          rw [hn5] at hown5 ⊢
          have HB5 := Lib.hid hown5
          have hsz5 := N5'.out.size
          clear hown5 hk5 n5'
          by_cases hq2 : q + 2 < N
          · have hd2 : decide ((q : Int) + 2 < (N : Int)) = true := decide_eq_true (by omega)
            have hi2 : (q : Int) + 2 < (N : Int) := by omega
            have ka : New w5 (w5.alloc (.cells #[.int .u8 32] 5)) := (New.refl w5).alloc _
            have HB6 := Lib.hid (ka.owns HB5.out)
            have hsz6 := Nat.le_trans hsz5 ka.size
            go_wp2_with (at_builtin; refine wpList_app rfl _ _ 47 rfl W0.heap.size 5 i0 _ 1 1 Tryd.underlying47 hi hz0 hz1 hz2 rfl (by decide) a5 n5 c5 (bCells (looseU l q ++ Sp.data.toList)) rfl HB6.out (some ⟨w5.heap.size, 0, none⟩) 1 1 (bCells [32]) rfl rfl (one_byte w5) (bCells_one _) (by unfold maxLen; omega) (by omega) hsz6 ?_)
            intro a7 c7 w7 hown7 hk7 _ _
            have hx7 : looseU l (q + 1) = looseU l q ++ Sp.data.toList ++ [32] := by rw [HNX.out, HSP.out, if_pos (by have := HLN.out; omega)]
            have HB7 : Hid (w7.ownsRow W0.heap.size 5 1 (.slice a7 (n5 + 1) c7) (n5 + 1) (bCells (looseU l (q + 1)))) := Lib.hid (by rw [hx7, bCells_app]; exact hown7)
            have hl7 : (looseU l (q + 1)).length = n5 + 1 := by rw [hx7, List.length_append, List.length_append, toList_len, HL.out.1, hn5]; rfl
            have hb7 := HLL.out (q + 1) (by have := HLN.out; omega)
            have HL7 : Hid ((looseU l (q + 1)).length = n5 + 1 ∧ n5 + 1 ≤ 22 * (q + 1)) := Lib.hid ⟨hl7, by omega⟩
            have N7 : Hid (New W0 w7) := Lib.hid (New.keeps (N5'.out.trans ka) hk7 (fun k hk hx => by have := (own_of_blk HB6.out hx).1; omega))
            clear hown7 hk7 hx7 hl7 hb7 ka
            go_wp2_with fail
            go_roundw
            case rel => exact ⟨q + 1, a7, c7, n5 + 1, _, by omega, by go_num, rfl, by first | rfl | (congr 1), N7, HB7, HL7, HWZ2⟩
            case measure => simp [intOf]; omega
          · have hd2 : decide ((q : Int) + 2 < (N : Int)) = false := decide_eq_false (by omega)
            have hi2 : (N : Int) ≤ (q : Int) + 2 := by omega
            have hx7 : looseU l (q + 1) = looseU l q ++ Sp.data.toList := by rw [HNX.out, HSP.out, if_neg (by have := HLN.out; omega), List.append_nil]
            have HB7 : Hid (w5.ownsRow W0.heap.size 5 1 (.slice a5 n5 c5) n5 (bCells (looseU l (q + 1)))) := Lib.hid (by rw [hx7]; exact HB5.out)
            have hl7 : (looseU l (q + 1)).length = n5 := by rw [hx7, List.length_append, toList_len, HL.out.1, hn5]
            have hb7 := HLL.out (q + 1) (by have := HLN.out; omega)
            have HL7 : Hid ((looseU l (q + 1)).length = n5 ∧ n5 ≤ 22 * (q + 1)) := Lib.hid ⟨hl7, by omega⟩
            clear hx7 hl7 hb7
            go_wp2_with fail
            go_roundw
            case rel => exact ⟨q + 1, a5, c5, n5, _, by omega, by go_num, rfl, by first | rfl | (congr 1), N5', HB7, HL7, HWZ2⟩
            case measure => simp [intOf]; omega
        · have hne' : ¬ uat = k := fun e => hj (HON.out q _ HGU.out (by rw [HAT.out]; exact e))
          have e1 : ((uat : Int) == (k : Int)) = false := by simpa using fun h : (uat : Int) = (k : Int) => hne' (by omega)
          have HWZ2 : Hid (wz = wrongZ l (some j) (q + 1)) := Lib.hid (by rw [wrongZ_ne (Ne.symm hj)]; exact HWZ.out)
          clear hne'
          go_wp2_with fail
          go_quiet (fail)
          obtain ⟨Wd, hWd⟩ : ∃ W, W = wr.drewN nq := ⟨_, rfl⟩
          have nd : New wr Wd := by rw [hWd]; exact (New.refl _).drewN _
          rw [← hWd]
          clear hWd
          replace q0 := New.cell nd q0
          replace q1 := New.cell nd q1
          replace q2 := New.cell nd q2
          replace q3 := New.cell nd q3
          replace hbw := World.block_lt_of_cell? Wd _ q0
          go_wp2_with fail
          refine (hspl _).mono ?_
          rintro e w4 ⟨rfl, n4⟩
          have N4 := Lib.hid ((HN.out.trans nd).trans n4)
          have HB4 := Lib.hid ((nd.trans n4).owns HB.out)
          have hsz4 : W0.heap.size ≤ w4.heap.size := N4.out.size
          clear hspl q0 q1 q2 q3 hbw nd n4 G0 G1 gb
          go_wp2_with (at_builtin; refine wpList_appL rfl _ _ rfl W0.heap.size ab cb (looseU l q) nb rfl HB4.out Sp rfl ?c1 hsz4 ?_)
          case c1 => omega
          intro a5 c5 w5 hown5 hk5
          have n5' : New W0 w5 := New.keeps N4.out hk5 (fun k hk hx => by have := (own_of_blk HB4.out hx).1; omega)
          have N5' := Lib.hid n5'
          obtain ⟨n5, hn5⟩ : ∃ n5 : Nat, nb + Sp.size = n5 := ⟨_, rfl⟩
          rw [hn5] at hown5 ⊢
          have HB5 := Lib.hid hown5
          have hsz5 := N5'.out.size
          clear hown5 hk5 n5'
          by_cases hq2 : q + 2 < N
          · have hd2 : decide ((q : Int) + 2 < (N : Int)) = true := decide_eq_true (by omega)
            have hi2 : (q : Int) + 2 < (N : Int) := by omega
            have ka : New w5 (w5.alloc (.cells #[.int .u8 32] 5)) := (New.refl w5).alloc _
            have HB6 := Lib.hid (ka.owns HB5.out)
            have hsz6 := Nat.le_trans hsz5 ka.size
            go_wp2_with (at_builtin; refine wpList_app rfl _ _ 47 rfl W0.heap.size 5 i0 _ 1 1 Tryd.underlying47 hi hz0 hz1 hz2 rfl (by decide) a5 n5 c5 (bCells (looseU l q ++ Sp.data.toList)) rfl HB6.out (some ⟨w5.heap.size, 0, none⟩) 1 1 (bCells [32]) rfl rfl (one_byte w5) (bCells_one _) (by unfold maxLen; omega) (by omega) hsz6 ?_)
            intro a7 c7 w7 hown7 hk7 _ _
            have hx7 : looseU l (q + 1) = looseU l q ++ Sp.data.toList ++ [32] := by rw [HNX.out, HSP.out, if_pos (by have := HLN.out; omega)]
            have HB7 : Hid (w7.ownsRow W0.heap.size 5 1 (.slice a7 (n5 + 1) c7) (n5 + 1) (bCells (looseU l (q + 1)))) := Lib.hid (by rw [hx7, bCells_app]; exact hown7)
            have hl7 : (looseU l (q + 1)).length = n5 + 1 := by rw [hx7, List.length_append, List.length_append, toList_len, HL.out.1, hn5]; rfl
            have hb7 := HLL.out (q + 1) (by have := HLN.out; omega)
            have HL7 : Hid ((looseU l (q + 1)).length = n5 + 1 ∧ n5 + 1 ≤ 22 * (q + 1)) := Lib.hid ⟨hl7, by omega⟩
            have N7 : Hid (New W0 w7) := Lib.hid (New.keeps (N5'.out.trans ka) hk7 (fun k hk hx => by have := (own_of_blk HB6.out hx).1; omega))
            clear hown7 hk7 hx7 hl7 hb7 ka
            go_wp2_with fail
            go_roundw
            case rel => exact ⟨q + 1, a7, c7, n5 + 1, _, by omega, by go_num, rfl, by first | rfl | (congr 1), N7, HB7, HL7, HWZ2⟩
            case measure => simp [intOf]; omega
          · have hd2 : decide ((q : Int) + 2 < (N : Int)) = false := decide_eq_false (by omega)
            have hi2 : (N : Int) ≤ (q : Int) + 2 := by omega
            have hx7 : looseU l (q + 1) = looseU l q ++ Sp.data.toList := by rw [HNX.out, HSP.out, if_neg (by have := HLN.out; omega), List.append_nil]
            have HB7 : Hid (w5.ownsRow W0.heap.size 5 1 (.slice a5 n5 c5) n5 (bCells (looseU l (q + 1)))) := Lib.hid (by rw [hx7]; exact HB5.out)
            have hl7 : (looseU l (q + 1)).length = n5 := by rw [hx7, List.length_append, toList_len, HL.out.1, hn5]
            have hb7 := HLL.out (q + 1) (by have := HLN.out; omega)
            have HL7 : Hid ((looseU l (q + 1)).length = n5 ∧ n5 ≤ 22 * (q + 1)) := Lib.hid ⟨hl7, by omega⟩
            clear hx7 hl7 hb7
            go_wp2_with fail
            go_roundw
            case rel => exact ⟨q + 1, a5, c5, n5, _, by omega, by go_num, rfl, by first | rfl | (congr 1), N5', HB7, HL7, HWZ2⟩
            case measure => simp [intOf]; omega
      · obtain rfl : q = N := by omega
        have hqd : decide (q < q) = false := decide_eq_false hq1
        have hsz := HN.out.size
        by_cases hbig : 1048576 < nb
        · have hbI : (1048576 : Int) < (nb : Int) := by omega
          have hbd9 : decide ((1048576 : Int) < (nb : Int)) = true := decide_eq_true hbI
          go_wp2_with fail
          (try go_ret)
          exact ⟨rfl, N2.out.trans HN.out⟩
        · have hbI : (nb : Int) ≤ (1048576 : Int) := by omega
          have hbd9 : decide ((1048576 : Int) < (nb : Int)) = false := decide_eq_false (by omega)
          obtain ⟨X, hX⟩ : ∃ X : ByteArray, (⟨(looseU l q).toArray⟩ : ByteArray) = X := ⟨_, rfl⟩
          have hXl : X.data.toList = looseU l q := by rw [← hX]
          have hXs : X.size = nb := by rw [← toList_len, hXl, HL.out.1]
          have hcv := conv_bytes wr W0.heap.size ab cb (looseU l q) nb HL.out.1 HB.out X hXl
          have hpx := HX.out (by rw [HLN.out, HL.out.1]; omega)
          rw [HLN.out, ← hXl] at hpx
          obtain ⟨nj, hnj⟩ : ∃ n, (looseU l j).length = n := ⟨_, rfl⟩
          rw [hnj] at hpx
          have hh3 := skparse_no wr X (he.new (N2.out.trans HN.out)) (by omega) 50 nj hpx
          obtain rfl : wz = (nj : Int) := by have := HWZ.out; rw [← HLN.out, wrongZ_end (by have := HLN.out; omega), hnj] at this; exact this
          clear hX hXl hXs hpx hnj
          go_wp2_with fail
          refine (hh3).mono ?_
          rintro e w3 ⟨rfl, kw3⟩
          have mw3 : New w3 ((w3.alloc (.cells #[.string ⟨#[]⟩, .slice none 0 0] 24)).alloc (.cells #[I 50, I (nj : Int)] 27)) := ((New.refl _).alloc _).alloc _
          have hFw3 : ((w3.alloc (.cells #[.string ⟨#[]⟩, .slice none 0 0] 24)).alloc (.cells #[I 50, I (nj : Int)] 27)).heap[w3.heap.size + 1]? = some (.cells #[I 50, I (nj : Int)] 27 (0, 0)) := by
            have := heap_alloc_new (w3.alloc (.cells #[.string ⟨#[]⟩, .slice none 0 0] 24)) (.cells #[I 50, I (nj : Int)] 27)
            simpa using this
          obtain ⟨w3f0, w3f1, -, -, w3fl⟩ := sk_get hFw3
          have N3 := Lib.hid (kw3.trans mw3)
          clear hFw3 kw3 mw3
          have g0 := New.cell N3.out G0
          have g1 := New.cell N3.out G1
          have N3' := Lib.hid ((N2.out.trans HN.out).trans N3.out)
          have gb2 := World.block_lt_of_cell? _ _ g0
          have haw := awake_sk _ (he.new N3'.out)
          clear hh3 hcv G0 G1 gb
          go_wp2_with fail
          refine haw.mono ?_
          rintro e w4 ⟨rfl, n4⟩
          have A0 := New.cell n4 g0
          have A1 := New.cell n4 g1
          have C0 := New.cell n4 w3f0
          have C1 := New.cell n4 w3f1
          have hb1 := World.block_lt_of_cell? _ _ A0
          have hb3 := World.block_lt_of_cell? _ _ C0
          have N4 := Lib.hid (N3'.out.trans n4)
          clear haw g0 g1 gb2 w3f0 w3f1 w3fl n4
          go_wp2_with fail
          (try go_ret)
          exact ⟨rfl, N4.out⟩
  · have hpe : parseA a0.data.toList = .error (c, k) := by unfold parseA; rw [hA]; simp only; rw [if_pos hc]
    have hpar := fun W e => skparse_no W a0 e hs c k hpe
    have hc0 : (c == 0) = false := by simpa using hc
    have hc1 : (c != 0) = true := by simpa using hc
    clear hA hc hpe
    go_enter Tryd.func8, Tryd.ntmps8
    go_wp2_with fail
    refine (hall _ he).mono ?_
    rintro e w1 ⟨ao, co, rfl, n1, hsl⟩
    have m1 : New w1 (w1.alloc (.cells #[I c, I (k : Int)] 27)) := (New.refl _).alloc _
    obtain ⟨f0, f1, -, -, fl⟩ := sk_get (heap_alloc_new w1 (.cells #[I c, I (k : Int)] 27))
    have N1 := Lib.hid (n1.trans m1)
    have hh1 := hpar _ (he.new N1.out)
    clear hall hpar hsl n1 m1
    go_wp2_with fail
    refine (hh1).mono ?_
    rintro e w2 ⟨rfl, kw2⟩
    have mw2 : New w2 ((w2.alloc (.cells #[.string ⟨#[]⟩, .slice none 0 0] 24)).alloc (.cells #[I c, I (k : Int)] 27)) := ((New.refl _).alloc _).alloc _
    have hFw2 : ((w2.alloc (.cells #[.string ⟨#[]⟩, .slice none 0 0] 24)).alloc (.cells #[I c, I (k : Int)] 27)).heap[w2.heap.size + 1]? = some (.cells #[I c, I (k : Int)] 27 (0, 0)) := by
      have := heap_alloc_new (w2.alloc (.cells #[.string ⟨#[]⟩, .slice none 0 0] 24)) (.cells #[I c, I (k : Int)] 27)
      simpa using this
    obtain ⟨w2f0, w2f1, -, -, w2fl⟩ := sk_get hFw2
    have N2 := Lib.hid (kw2.trans mw2)
    clear hFw2 kw2 mw2
    have g0 := New.cell N2.out f0
    have g1 := New.cell N2.out f1
    have N3 := Lib.hid (N1.out.trans N2.out)
    have haw := awake_sk _ (he.new N3.out)
    have gb := World.block_lt_of_cell? _ _ g0
    clear hh1 f0 f1 fl
    go_wp2_with fail
    refine haw.mono ?_
    rintro e w3 ⟨rfl, n3⟩
    have A0 := New.cell n3 g0
    have A1 := New.cell n3 g1
    have B0 := New.cell n3 w2f0
    have B1 := New.cell n3 w2f1
    have hb1 := World.block_lt_of_cell? _ _ A0
    have hb2 := World.block_lt_of_cell? _ _ B0
    clear haw g0 g1 gb w2f0 w2f1 w2fl
    go_wp2_with fail
    (try go_ret)
    exact ⟨rfl, N3.out.trans n3⟩

set_option maxRecDepth 100000 in
theorem contract (H : Type) (enc : TypeId × Value → H) (W : World) (base : Nat) (args : Array Value) (ds gs : List (DataW H)) (before : List MemPlace)
    (hval0 : ∀ (j : Nat) t v, Tryd.f8.params[j]? = some t → args[j]? = some v → Value.okWide Tryd.prog W .any base t v)
    (hW : DataW.Whole enc Tryd.prog Tryd.f8.params.toList Rows.sketchLooseSpec.vars false W args.toList ds gs before)
    (hsz0 : (DataW.weightsEach Tryd.prog (Tryd.f8.params.toList ++ Rows.sketchLooseSpec.plain.varTypes Tryd.prog) (ds ++ gs)).all (· ≤ reachBytes) = true) (hL : laidMetH Tryd.prog Rows.sketchLooseRow.laid W) :
    Calls Tryd.prog 8 args W fun e W' => ∃ v, e = .returned v ∧ Rows.sketchLooseSpec.post enc Tryd.prog Tryd.f8 false true false false W args v W' := by
  have hval := hval0
  have hsz := hsz0
  clear hsz0
  have hW' := hW
  have he : Env W := env_of (by exact hL)
  obtain ⟨p, q, hA0, hV, rfl, hfz, hnd⟩ := hW
  have hA : DataW.TrodAll enc Tryd.prog W 0 (fun _ => true) true Tryd.f8.params.toList args.toList ds p := hA0
  rw [Tryd.params8] at hA hval hsz
  obtain ⟨v0, vs0, d0, ds0, p0, q0, hargs, rfl, rfl, h0, r0'⟩ := trodAll_cons hA
  obtain ⟨rfl, rfl, rfl⟩ := trodAll_nil r0'
  obtain rfl : args = #[v0] := by cases args; simp_all
  obtain ⟨rfl, rfl⟩ := trodVars_none hV
  have k0 := h0
  have lt0 : ∀ x ∈ p0, x.block < W.heap.size := by obtain ⟨m, hm⟩ := k0; exact DataW.trod_lt m _ _ _ hm
  obtain ⟨a0, rfl, e0, _, w0⟩ := open_string Tryd.underlying9 (hval 0 9 v0 rfl rfl) h0
  have s0 : a0.size ≤ 140737488351232 := by
    have hh := sized_string hsz (j := 0) (t := 9) (bytes := a0.data.toList) rfl (by rw [e0]; rfl)
    have hr : reachBytes = 140737488351232 := rfl
    rw [hr, Array.length_toList] at hh
    exact hh
  clear hA0 hval0
  refine (walk W he a0 s0).mono fun e W' ⟨he, hnew⟩ => ?_
  have bel := hnew.below
  subst he
  exact ⟨_, rfl, _, _, _, [], _, [], hW', trodAll_mk1 (shut_bool Tryd.underlying4 _), (trodAll_cons_mk (Below.trod laidOut (by kernel_rfl) (of_decide_eq_true (by kernel_rfl)) k0 bel lt0) trodAll_mk0), rfl, bel.frame _, fun h => by cases h⟩

theorem reads (os : Os) {H : Type} (enc : TypeId × Value → H) : ∃ places, DataW.whole enc Tryd.prog ((laidWorld os).forCall (fun _ _ => 0) ⟨#[], #[.string ByteArray.empty], []⟩).memory Tryd.f8.params.toList Rows.sketchLooseSpec.vars false #[.string ByteArray.empty].toList 8 = some ([.lit (.string [])], [], places) :=
  ⟨[], by kernel_rfl⟩

set_option maxRecDepth 100000 in
theorem lifted (os : Os) (started : os.Started) (H : Type) (enc : TypeId × Value → H) (F : Stop.Interp) :
    ReturnsInHanded {} Tryd.checked os 8 .any ((OpenSpec.ofChange Rows.sketchLooseSpec).preRow enc Tryd.prog Tryd.f8 Rows.sketchLooseRow.domain false Rows.sketchLooseRow.laid) (((OpenSpec.ofChange Rows.sketchLooseSpec).at F).post enc Tryd.prog Tryd.f8 false true false false) := by
  obtain ⟨places, hx⟩ := reads os enc
  refine returnsInHanded_of_row (C := Tryd.checked) (s := OpenSpec.ofChange Rows.sketchLooseSpec) own started (by kernel_rfl) Tryd.func8
    (witness_row_at (enc := enc) (C := Tryd.checked) false (laidWorld os) #[.string ByteArray.empty] rfl (by kernel_rfl) (by kernel_rfl) (by kernel_rfl)
      (OpenSpec.preRow_of_cond 8 hx (by kernel_rfl) (fun k hk => by cases hk) (by kernel_rfl) (laid_met os _))) ?_
  intro W base args ds gs before hval hW _ _ hsz hL _ _
  exact contract H enc W base args ds gs before hval hW hsz hL

theorem said : Rows.SketchLooseSaid :=
  OpenClaim.holds_of_cond 8 Tryd.f8 rfl rfl rfl rfl rfl rfl rfl ⟨rfl, rfl, rfl, rfl, rfl⟩ rfl rfl rfl rfl rfl (by kernel_rfl) Tryd.func8 (by kernel_rfl)
    (of_decide_eq_true (by kernel_rfl)) (by unfold Func.isWrapper; first | (rw [if_pos (by decide +kernel)]; kernel_rfl) | (rw [if_neg (by decide +kernel)]; exact ⟨rfl, rfl⟩))
    (fun os started H enc _ F => by rw [OpenClaim.pre_eq_preRow]; exact lifted os started H enc F)

theorem plain (f : FuncId) (fn : Func) (hf : Tryd.pinned.checked.prog.funcNamed "pianola/pianolalaw05.SketchLoose" = some f) (hfn : Tryd.pinned.checked.prog.funcs[f]? = some fn) :
    true = Tryd.pinned.checked.prog.looks [] ∧ ∀ (j : Nat) t, fn.params[j]? = some t → Tryd.pinned.checked.prog.wantsStandIn t = false := by
  obtain rfl : f = 8 := Option.some.inj ((show Tryd.prog.funcNamed "pianola/pianolalaw05.SketchLoose" = some 8 by kernel_rfl).symm.trans hf) |>.symm
  obtain rfl : fn = Tryd.f8 := (Option.some.inj (Tryd.func8.symm.trans hfn)).symm
  refine ⟨by kernel_rfl, fun j t ht => ?_⟩
  rw [Tryd.params8] at ht
  have hm := Array.mem_of_getElem? ht
  have : t = 9 := by
    simpa [or_assoc] using hm
  rcases this with rfl
  · exact (show Tryd.prog.wantsStandIn 9 = false by kernel_rfl)

/-- THE CARD. -/
theorem proved : Rows.SketchLooseCardSaid :=
  Claim7.holds_tied_plain_at .later [] _ _ _ _ said (fun _ h => by cases h) (by kernel_rfl) (fun _ h => by cases h) sketchLoose_row_tie rfl ⟨rfl, rfl⟩ (by kernel_rfl) rfl plain (by kernel_rfl)
end Go.Proofs.YtohalcbhckahmaaDoor.sketchLoose
