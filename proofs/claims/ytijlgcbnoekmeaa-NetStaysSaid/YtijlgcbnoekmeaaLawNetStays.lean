/-
  'NetStays': the law returns true at every input; what it is handed reads afterwards as before.
-/
import Derived.Test.YtijlgcbnoekmeaaRead
import Derived.Test.YtijlgcbnoekmeaaReadNet
import Derived.Test.YtijlgcbnoekmeaaNetJ
namespace Go.Proofs.Ytijlgcbnoekmeaa.netStays
open Go Go.RowKit Go.ChangeShapes Go.WideShapes Go.ChangeAt
open Go.ChangeMaps (open_string shut_string)
set_option linter.all false

/-- Those below k that may fire. -/
def ml (arcs : List ArcD) (n : Nat) (t : List Int) (k : Nat) : List Int := ((List.range k).map fun i : Nat => (i : Int)).filter fun v => mayS arcs n t v
theorem ml_len (arcs : List ArcD) (n : Nat) (t : List Int) (k : Nat) : (ml arcs n t k).length ≤ k := by
  have := List.length_filter_le (fun v => mayS arcs n t v) ((List.range k).map fun i : Nat => (i : Int)); simpa [ml] using this
theorem ml_yes {arcs : List ArcD} {n : Nat} {t : List Int} {k : Nat} (h : mayS arcs n t (k : Int) = true) : ml arcs n t (k + 1) = ml arcs n t k ++ [(k : Int)] := by
  unfold ml; rw [List.range_succ, List.map_append, List.filter_append]; simp [h]
theorem ml_no {arcs : List ArcD} {n : Nat} {t : List Int} {k : Nat} (h : mayS arcs n t (k : Int) = false) : ml arcs n t (k + 1) = ml arcs n t k := by
  unfold ml; rw [List.range_succ, List.map_append, List.filter_append]; simp [h]
theorem ml_may {arcs : List ArcD} {n : Nat} {t : List Int} {k : Nat} : ∀ v ∈ ml arcs n t k, mayS arcs n t v = true := by
  intro v hv; exact (List.mem_filter.1 hv).2
/-- A row of ints of the call's own, its blocks from B on. -/
def Row (w : World) (B : Nat) (v : Value) (xs : List Int) : Prop := ∃ a c, v = .slice a xs.length c ∧ w.ownsRow B 3 1 (.slice a xs.length c) xs.length (Is xs)
theorem Row.keeps {S : Nat → Prop} {w w' : World} {B : Nat} {v : Value} {xs : List Int} (h : Row w B v xs) (k : Keeps S w w') (hS : ∀ x, B ≤ x → x < w.heap.size → ¬ S x) : Row w' B v xs := by
  obtain ⟨a, c, e, ho⟩ := h
  exact ⟨a, c, e, k.owns ho (fun x hx => by have := World.ownsRow.lt ho x hx; exact hS x this.1 this.2)⟩
theorem Row.nil (w : World) (B : Nat) : Row w B (.slice none 0 0) [] := ⟨none, 0, rfl, World.ownsRow_nil _ _ _ _⟩
theorem Row.rebase {w : World} {B B' : Nat} {v : Value} {xs : List Int} (h : Row w B v xs) (hb : B' ≤ B) : Row w B' v xs := by
  obtain ⟨a, c, e, ho⟩ := h
  exact ⟨a, c, e, ownsRow_rebase ho (fun k hk => by have := (World.ownsRow.lt ho k hk).1; omega)⟩

theorem ownsRow_keeps_rt {w w' : World} {p : StD} {e : TypeId} {size n : Nat} {v : Value} {xs : List Value} (h : w.ownsRow p.hi e size v n xs) (k : Keeps (fun k => k = p.bt ∨ k = p.bf) w w') (rt : p.lo ≤ p.bt ∧ p.bt < p.hi) (rf : p.lo ≤ p.bf ∧ p.bf < p.hi) : w'.ownsRow p.hi e size v n xs :=
  k.owns h (fun x hx e => by have := (World.ownsRow.lt h x hx).1; omega)

/-- What firing one node does to those that may. -/
theorem one_stays {nodes : Nat} {arcs : List ArcD} {s : Mark} (hs : Sound nodes arcs) (hf : Fits nodes arcs s) (o : Int) {v : Int} (hv : mayS arcs nodes s.toks v = true) :
    (v = o → (fireS arcs nodes s [o]).1 = 1) ∧ (v ≠ o → mayS arcs nodes (fireS arcs nodes s [o]).2.toks v = true) := by
  cases ho : mayS arcs nodes s.toks o with
  | true => simp only [fireS, ho, if_true]; exact ⟨fun _ => by simp, fun hne => stays hs hf ho hv (fun e => hne e.symm)⟩
  | false => simp only [fireS, ho, Bool.false_eq_true, if_false]; exact ⟨fun e => (by rw [e, ho] at hv; cases hv), fun _ => hv⟩

set_option maxRecDepth 100000 in
set_option maxHeartbeats 2000000 in
theorem bad (w : World) (n0 : Int) (b0 : Option Addr) (c0 : Nat) (x0 : List ArcD) (h0 : SlAt w b0 (arcsCells x0)) (l0 : x0.length ≤ maxLen) (he : netErr n0 x0 ≠ 0) (b1 b2 : Option Addr) (c1 k1 c2 k2 : Nat) :
    Calls Try.prog 7 #[.agg #[I n0, .slice b0 x0.length c0], .slice b1 k1 c1, .slice b2 k2 c2] w fun e w' => e = .returned (.bool true) ∧ New w w' := by
  have hnew : ∀ w1, New w w1 → Calls Try.prog 14 #[.agg #[I n0, .slice b0 x0.length c0]] w1 fun e w' => e = .returned (.tuple #[.pointer none, I (netErr n0 x0)]) ∧ New w1 w' :=
    fun w1 h => new_bad w1 n0 x0 b0 c0 (h0.new h) (by unfold maxLen at l0; omega) he
  have hne : (netErr n0 x0 != 0) = true := by simpa using he
  generalize netErr n0 x0 = q at hnew hne
  clear he
  go_enter Try.func7, Try.ntmps7
  go_wp2_with fail
  refine (hnew _ ((New.refl w).alloc _)).mono ?_
  rintro e w1 ⟨rfl, m1⟩
  have kC := ((New.refl w).alloc _).trans m1
  go_wp2_with fail
  refine (awake_any _).mono ?_
  rintro e w3 ⟨rfl, m3⟩
  go_wp2
  go_ret
  exact ⟨rfl, kC.trans m3⟩

set_option maxRecDepth 100000 in
set_option maxHeartbeats 4000000 in
theorem good (w : World) (n : Nat) (b0 : Option Addr) (c0 : Nat) (x0 : List ArcD) (h0 : SlAt w b0 (arcsCells x0)) (hs : Sound n x0) (b1 b2 : Option Addr) (c1 c2 : Nat) (x1 x2 : List Int) (h1 : SlAt w b1 (Is x1)) (l1 : x1.length * 8 ≤ 140737488351232) (h2 : SlAt w b2 (Is x2)) (l2 : x2.length * 8 ≤ 140737488351232) :
    Calls Try.prog 7 #[.agg #[I n, .slice b0 x0.length c0], .slice b1 x1.length c1, .slice b2 x2.length c2] w fun e w' => e = .returned (.bool true) ∧ New w w' := by
  have hM := hs.m
  have hN := hs.n2
  obtain ⟨s1, hm1⟩ : ∃ s1, (fireS x0 n (start x0 n) x1).2 = s1 := ⟨_, rfl⟩
  obtain ⟨kk1, hk1⟩ : ∃ k1 : Int, ((fireS x0 n (start x0 n) x1).1 : Int) = k1 := ⟨_, rfl⟩
  obtain ⟨iI, hiI, hzI, hsI, hbI⟩ := info_parts Try.infoInt
  have HM1 := Lib.hid hm1
  have HK1 := Lib.hid hk1
  clear hm1 hk1
  go_enter Try.func7, Try.ntmps7
  have kA : New w (w.alloc (.cells #[I n, .slice b0 x0.length c0] 24)) := (New.refl w).alloc _
  have a0 : (w.alloc (.cells #[I n, .slice b0 x0.length c0] 24)).cell? ⟨w.heap.size, 0, none⟩ = some (I n) := by simp
  have az : (w.alloc (.cells #[I n, .slice b0 x0.length c0] 24)).heap.size = w.heap.size + 1 := by simp
  go_wp2_with fail
  refine (new_any _ n x0 _ _ hs (h0.new kA)).mono ?_
  rintro e w1 ⟨p, rfl, sp1, lp, m1⟩
  rw [az] at lp
  have kB := kA.trans m1
  have a01 := m1.cell a0
  have lp' : w.heap.size ≤ p.lo := by omega
  have b0s : Bd 256 (start x0 n) := bd_start hs
  clear m1 a0 kA az
  go_wp2_with fail
  refine (fire_old w _ p n x0 _ b1 c1 x1 256 sp1 hs h1 kB lp' b0s (by omega) (by decide)).mono ?_
  rw [HK1.out, HM1.out]
  rintro e w3 ⟨rfl, sp3, ky3, kD, bd1⟩
  have rt := sp1.rt
  have rf := sp1.rf
  have a03 := ky3.cell a01 (by simp only; omega)
  clear sp1 ky3 kB a01 rt rf b0s
  go_wp2_with fail
  go_loopw [9, 10] (fun m i wr => ∃ k : Nat, k ≤ n ∧ i = .int .i64 k ∧ Row wr p.hi m (ml x0 n s1.toks k) ∧ St wr p n x0 s1 ∧ New w wr ∧ wr.cell? ⟨w.heap.size, 0, none⟩ = some (I n)) (fun _ i _ => n - (intOf i).toNat)
  case atStart => exact ⟨0, Nat.zero_le _, rfl, Row.nil _ _, sp3, kD, a03⟩
  case round =>
    clear sp3 kD a03
    obtain ⟨k, hk, rfl, ⟨ra, rc, rfl, hrow⟩, hst, hnew, hbox⟩ := hrel
    have hll := ml_len x0 n s1.toks k
    have hsz := hst.sz
    by_cases hk1 : k < n
    · cases hmay : mayS x0 n s1.toks (k : Int) with
      | true =>
        have HMY := Lib.hid (ml_yes hmay)
        go_wp2_with fail
        refine (mayN_any _ p n x0 s1 k hst hM).mono ?_
        rw [hmay]
        rintro e w4 ⟨rfl, m4⟩
        have hrow4 := m4.owns hrow
        have hst4 := hst.new m4
        have hnew4 := hnew.trans m4
        have hbox4 := m4.cell hbox
        have hsz4 := hst4.sz
        have ka : New w4 (w4.alloc (.cells #[.int .i64 k] 3)) := (New.refl w4).alloc _
        clear hrow hst hnew hbox hsz m4
        generalize hmk : ml x0 n s1.toks k = mk at hrow4 hll HMY
        clear hmk
        go_wp2_with (at_builtin; refine wpList_app rfl _ _ 37 rfl p.hi 3 iI (.int .i64 0) 1 8 Try.underlying37 hiI hzI hsI hbI rfl (by decide) ra mk.length rc (Is mk) rfl (ka.owns hrow4) _ 1 1 [.int .i64 k] rfl rfl (SlAt.lit _ _ _) (one1 k) (by unfold maxLen; omega) (by omega) (Nat.le_trans hsz4 ka.size) ?_)
        intro a5 c5 w5 hown5 hk5 hmv5 _
        have hb5 : ∀ x, blk ra x → p.hi ≤ x := fun x hx => (own_of_blk hrow4 hx).1
        have hlo := hst4.rb
        have hbl := World.block_lt_of_cell? w4 _ hbox4
        have hst5 := (hst4.new ka).keeps hk5 (fun x hx1 hx2 hb => by have := hb5 x hb; omega)
        have hnew5 := (hnew4.trans ka).keeps hk5 (fun x hx hb => by have := hb5 x hb; omega)
        have hbox5 := hk5.cell (ka.cell hbox4) (fun hb => by have := hb5 _ hb; simp only at this; omega)
        have hrow5 : Row w5 p.hi (.slice a5 (mk.length + 1) c5) (ml x0 n s1.toks (k + 1)) := by
          rw [HMY.out]
          exact ⟨a5, c5, by simp, by simpa using hown5⟩
        have H5 := Lib.hid (And.intro hrow5 (And.intro hst5 (And.intro hnew5 hbox5)))
        clear hown5 hk5 hmv5 hb5 hlo hbl hst5 hnew5 hbox5 hrow5 hst4 hnew4 hbox4 hrow4 ka
        go_wp2
        go_roundw
        case rel => exact ⟨k + 1, by omega, by go_num, H5.out.1, H5.out.2.1, H5.out.2.2.1, H5.out.2.2.2⟩
        case measure => simp [intOf]; omega
      | false =>
        have HMY := Lib.hid (ml_no hmay)
        go_wp2_with fail
        refine (mayN_any _ p n x0 s1 k hst hM).mono ?_
        rw [hmay]
        rintro e w4 ⟨rfl, m4⟩
        have hrow4 := m4.owns hrow
        have H5 := Lib.hid (And.intro hrow4 (And.intro (hst.new m4) (And.intro (hnew.trans m4) (m4.cell hbox))))
        clear hrow4 hrow hst hnew hbox m4
        go_wp2
        go_roundw
        case rel => exact ⟨k + 1, by omega, by go_num, by rw [HMY.out]; exact ⟨ra, rc, rfl, H5.out.1⟩, H5.out.2.1, H5.out.2.2.1, H5.out.2.2.2⟩
        case measure => simp [intOf]; omega
    · obtain rfl : k = n := by omega
      have hLm : ∀ v ∈ ml x0 k s1.toks k, mayS x0 k s1.toks v = true := ml_may
      generalize ml x0 k s1.toks k = L0 at hrow hll hLm
      have HLm := Lib.hid hLm
      clear hLm HM1 HK1
      go_wp2_with fail
      clear hbox
      go_loopw [9, 11] (fun m i wr => ∃ j : Nat, j ≤ x2.length ∧ i = .int .i64 j ∧ ∃ sk L, Row wr p.hi m L ∧ (∀ v ∈ L, mayS x0 k sk.toks v = true) ∧ L.length ≤ 32 ∧ St wr p k x0 sk ∧ New w wr ∧ Bd (256 + 12288 * x1.length + 12288 * j) sk) (fun _ i _ => x2.length - (intOf i).toNat)
      case atStart => exact ⟨0, Nat.zero_le _, rfl, s1, L0, ⟨ra, rc, rfl, hrow⟩, HLm.out, by omega, hst, hnew, by simpa using bd1⟩
      case round =>
        clear hrow hst hnew bd1 HLm hll hsz
        obtain ⟨j, hj, rfl, sk, L, ⟨ma, mc, rfl, hmr⟩, hLm, hL32, hst, hnew, hbd⟩ := hrel
        have HLm := Lib.hid hLm
        clear hLm
        have hsz := hst.sz
        by_cases hj1 : j < x2.length
        · obtain ⟨b6, o6, rfl, q6⟩ := Is_at (h2.new hnew) hj1
          generalize x2[j] = o at q6
          have hj0 : (j : Int) < (x2.length : Int) := by omega
          obtain ⟨s', hs'⟩ : ∃ s', (fireS x0 k sk [o]).2 = s' := ⟨_, rfl⟩
          obtain ⟨kk, hkk⟩ : ∃ kk : Int, ((fireS x0 k sk [o]).1 : Int) = kk := ⟨_, rfl⟩
          have hos : ∀ v ∈ L, (v = o → kk = 1) ∧ (v ≠ o → mayS x0 k s'.toks v = true) := fun v hv => by
            have := one_stays hs hst.fits o (HLm.out v hv)
            rw [← hs', ← hkk]
            exact ⟨fun e => by rw [this.1 e]; rfl, this.2⟩
          have hbd' := bd_fire hs [o] sk _ hst.fits hbd
          rw [hs'] at hbd'
          have HOS := Lib.hid hos
          have HS := Lib.hid hs'
          have HK := Lib.hid hkk
          clear hos hs' hkk
          have al : New wr (wr.alloc (.cells #[.int .i64 o] 3)) := (New.refl wr).alloc _
          go_wp2_with fail
          refine (fire_is _ p k x0 sk _ _ 1 [o] _ kk s' (hst.new al) hs (SlAt.lit _ _ _) rfl HK.out HS.out (fun a ha => .inr (by cases ha; exact hsz)) hbd (by omega) (by omega)).mono ?_
          rintro e w7 ⟨rfl, st7, ky7⟩
          have rt := (hst.new al).rt
          have rf := (hst.new al).rf
          have hmr7 := ownsRow_keeps_rt (al.owns hmr) ky7 rt rf
          have k7 := (hnew.trans al).fire (hst.new al) lp' ky7
          have q67 : w7.cell? ⟨b6, o6 + j, none⟩ = some (.int .i64 o) := by
            refine ky7.cell (al.cell q6) (fun hb => ?_)
            obtain ⟨bb, oo, e1, c1⟩ := Is_at h2 hj1
            cases e1
            have := World.block_lt_of_cell? w _ c1
            simp only at this hb
            omega
          have hsz7 := st7.sz
          have hz7 : p.hi ≤ w7.heap.size := hsz7
          clear hst al hmr q6 hsz ky7 rt rf hnew hbd
          go_wp2_with fail
          go_loopw [13, 14] (fun l i wz => ∃ q : Nat, q ≤ L.length ∧ i = .int .i64 q ∧ ∃ L', Row wz w7.heap.size l L' ∧ L'.length ≤ q ∧ (∀ v ∈ L', mayS x0 k s'.toks v = true) ∧ New w7 wz) (fun _ i _ => L.length - (intOf i).toNat)
          case atStart => exact ⟨0, Nat.zero_le _, rfl, [], Row.nil _ _, Nat.le_refl _, by simp, New.refl _⟩
          case round =>
            obtain ⟨q, hq, rfl, L', ⟨la, lc, rfl, hlr⟩, hLl, hLv, hnz⟩ := hrel
            have HLV := Lib.hid hLv
            clear hLv
            have hst := st7.new hnz
            by_cases hq1 : q < L.length
            · obtain ⟨b5, o5, rfl, q5⟩ := Is_at (SlAt.of_owns (hnz.owns hmr7)) hq1
              have hmem := List.getElem_mem hq1
              generalize L[q] = v at q5 hmem
              have q6z := hnz.cell q67
              have hq0 : (q : Int) < (L.length : Int) := by omega
              by_cases hvo : v = o
              · have hk1' := (HOS.out v hmem).1 hvo
                subst hvo
                subst hk1'
                have hd : decide (v = v) = true := by simp
                clear hmem
                go_wp2_with fail
                go_quiet (fail)
                go_wp2
                go_roundw
                case rel => exact ⟨q + 1, by omega, by go_num, L', ⟨la, lc, rfl, (Keeps.drewN (S := fun _ => False) _ _).owns hlr (fun _ _ h => h)⟩, by omega, HLV.out, hnz.drewN _⟩
                case measure => simp [intOf]; omega
              · have hmv := (HOS.out v hmem).2 hvo
                have HMV := Lib.hid hmv
                have hd : decide (v = o) = false := by simpa using hvo
                have hd2 : (v == o) = false := by simpa using hvo
                clear hmem hvo hmv
                go_wp2_with fail
                go_quiet (fail)
                go_wp2_with fail
                refine (mayN_any _ p k x0 s' v (hst.drewN _) hM).mono ?_
                rw [HMV.out]
                rintro e w8 ⟨rfl, m8⟩
                have k8 := (hnz.drewN nq).trans m8
                have hlr8 := m8.owns ((Keeps.drewN (S := fun _ => False) _ nq).owns hlr (fun _ _ h => h))
                have q58 := m8.cell ((Keeps.drewN (S := fun _ => False) _ nq).cell q5 (fun h => h))
                have hz8 := k8.size
                have ka : New w8 (w8.alloc (.cells #[.int .i64 v] 3)) := (New.refl w8).alloc _
                clear q5 q6z hlr hnz hst
                go_wp2_with (at_builtin; refine wpList_app rfl _ _ 37 rfl w7.heap.size 3 iI (.int .i64 0) 1 8 Try.underlying37 hiI hzI hsI hbI rfl (by decide) la L'.length lc (Is L') rfl (ka.owns hlr8) _ 1 1 [.int .i64 v] rfl rfl (SlAt.lit _ _ _) (by intro u hu; simp at hu; subst hu; rfl) (by unfold maxLen; omega) (by omega) (Nat.le_trans hz8 ka.size) ?_)
                intro a9 c9 w9 hown9 hk9 hmv9 _
                have hb9 : ∀ x, blk la x → w7.heap.size ≤ x := fun x hx => (own_of_blk hlr8 hx).1
                have hn9 : New w7 w9 := (k8.trans ka).keeps hk9 (fun x hx hb => by have := hb9 x hb; omega)
                have hrow9 : Row w9 w7.heap.size (.slice a9 (L'.length + 1) c9) (L' ++ [v]) := ⟨a9, c9, by simp, by simpa using hown9⟩
                have hall9 : ∀ u ∈ L' ++ [v], mayS x0 k s'.toks u = true := by
                  intro u hu
                  rcases List.mem_append.1 hu with h | h
                  · exact HLV.out u h
                  · simp at h; subst h; exact HMV.out
                have hl9 : (L' ++ [v]).length ≤ q + 1 := by simp; omega
                have H9 := Lib.hid (And.intro hrow9 (And.intro hl9 (And.intro hall9 hn9)))
                clear hown9 hk9 hmv9 hb9 hn9 hrow9 hall9 hl9 k8 hlr8 q58 ka m8
                go_wp2
                go_roundw
                case rel => exact ⟨q + 1, by omega, by go_num, L' ++ [v], H9.out.1, H9.out.2.1, H9.out.2.2.1, H9.out.2.2.2⟩
                case measure => simp [intOf]; omega
            · go_wp2
              have hbb : (256 : Int) + 12288 * x1.length + 12288 * ((j + 1 : Nat) : Int) = 256 + 12288 * x1.length + 12288 * j + 12288 * (([o] : List Int).length : Int) := by simp; omega
              go_roundw
              case rel => exact ⟨j + 1, by omega, by go_num, s', L', Row.rebase ⟨la, lc, rfl, hlr⟩ hz7, HLV.out, by omega, hst, k7.trans hnz, by rw [hbb]; exact hbd'⟩
              case measure => simp [intOf]; omega
        · go_wp2_with fail
          refine (awake_any _).mono ?_
          rintro e w9 ⟨rfl, m9⟩
          go_wp2
          go_ret
          exact ⟨rfl, hnew.trans m9⟩

theorem walk (w : World) (n0 : Int) (b0 : Option Addr) (c0 : Nat) (x0 : List ArcD) (h0 : SlAt w b0 (arcsCells x0)) (l0 : x0.length ≤ maxLen) (a1 : Option Addr) (c1 : Nat) (x1 : List Int) (h1 : SlAt w a1 (x1.map (Value.int .i64))) (r1 : ∀ x ∈ x1, (Lit.int .i64 x).wf = true) (l1 : x1.length * 8 ≤ 140737488351232) (a2 : Option Addr) (c2 : Nat) (x2 : List Int) (h2 : SlAt w a2 (x2.map (Value.int .i64))) (r2 : ∀ x ∈ x2, (Lit.int .i64 x).wf = true) (l2 : x2.length * 8 ≤ 140737488351232) :
    Calls Try.prog 7 #[.agg #[I n0, .slice b0 x0.length c0], .slice a1 x1.length c1, .slice a2 x2.length c2] w fun e w' => e = .returned (.bool true) ∧ New w w' := by
  by_cases he : netErr n0 x0 = 0
  · obtain ⟨n, rfl, hs⟩ := sound_of he
    exact good w n b0 c0 x0 h0 hs a1 a2 c1 c2 x1 x2 h1 l1 h2 l2
  · exact bad w n0 b0 c0 x0 h0 l0 he a1 a2 c1 _ c2 _
set_option maxRecDepth 100000 in
theorem lifted (os : Os) (started : os.Started) (H : Type) (enc : TypeId × Value → H) :
    ReturnsInHanded {} Try.checked os 7 .any (Rows.netStaysSpec.pre6 enc Try.prog Try.f7 Rows.netStaysRow.domain false) (Rows.netStaysSpec.post enc Try.prog Try.f7 false true false false) := by
  refine returnsInHanded_of_change_sized (C := Try.checked) own started (by kernel_rfl) Try.func7
    (ChangeSpec.witness6 (enc := enc) (C := Try.checked) false ⟨#[], #[.agg #[.int .i64 0, .slice none 0 0], .slice none 0 0, .slice none 0 0], []⟩ 8 (by kernel_rfl) (by kernel_rfl) (by kernel_rfl) (by kernel_rfl)) ?_
  intro W base args ds gs before hval0 hW hcnd hsz0 _
  have hval : ∀ (j : Nat) t v, Try.f7.params[j]? = some t → args[j]? = some v → Value.okWide Try.prog W .any base t v := hval0
  have hsz : (DataW.weightsEach Try.prog (Try.f7.params.toList ++ Rows.netStaysSpec.plain.varTypes Try.prog) (ds ++ gs)).all (· ≤ reachBytes) = true := hsz0
  clear hsz0
  have hW' := hW
  obtain ⟨p, q, hA0, hV, rfl, hfz, hnd⟩ := hW
  have hA : DataW.TrodAll enc Try.prog W 0 (fun _ => true) true Try.f7.params.toList args.toList ds p := hA0
  rw [Try.params7] at hA hval hsz
  obtain ⟨v0, vs0, d0, ds0, p0, q0, hargs, rfl, rfl, h0, r0'⟩ := trodAll_cons hA
  obtain ⟨v1, vs1, d1, ds1, p1, q1, rfl, rfl, rfl, h1, r1'⟩ := trodAll_cons r0'
  obtain ⟨v2, vs2, d2, ds2, p2, q2, rfl, rfl, rfl, h2, r2'⟩ := trodAll_cons r1'
  obtain ⟨rfl, rfl, rfl⟩ := trodAll_nil r2'
  obtain rfl : args = #[v0, v1, v2] := by cases args; simp_all
  obtain ⟨rfl, rfl⟩ := trodVars_none hV
  have k0 := h0
  have lt0 : ∀ x ∈ p0, x.block < W.heap.size := by obtain ⟨m, hm⟩ := k0; exact DataW.trod_lt m _ _ _ hm
  have k1 := h1
  have lt1 : ∀ x ∈ p1, x.block < W.heap.size := by obtain ⟨m, hm⟩ := k1; exact DataW.trod_lt m _ _ _ hm
  have k2 := h2
  have lt2 : ∀ x ∈ p2, x.block < W.heap.size := by obtain ⟨m, hm⟩ := k2; exact DataW.trod_lt m _ _ _ hm
  obtain ⟨n0, b0, c0, x0, rfl, w0, sl0, l0, e00, e01, rfl, dd0⟩ := read_net (hval 0 24 v0 rfl rfl) h0
  obtain ⟨a1, n1, c1, rfl⟩ := okWide_slice Try.underlying37 (hval 1 37 v1 rfl rfl)
  obtain ⟨x1, rfl, sl1, r1, l1, _, dd1⟩ := read_ints h1
  have l1' : x1.length * 8 ≤ 140737488351232 := by
    rcases dd1 with ⟨_, rfl⟩ | ⟨spare, rfl⟩
    · simp
    · have := sized_slice hsz (j := 1) (t := 37) (e := 3) rfl rfl Try.underlying37
      rw [show Try.prog.bytesOf 3 = 8 by kernel_rfl] at this
      simp only [lits_len, reachBytes] at this
      omega
  obtain ⟨a2, n2, c2, rfl⟩ := okWide_slice Try.underlying37 (hval 2 37 v2 rfl rfl)
  obtain ⟨x2, rfl, sl2, r2, l2, _, dd2⟩ := read_ints h2
  have l2' : x2.length * 8 ≤ 140737488351232 := by
    rcases dd2 with ⟨_, rfl⟩ | ⟨spare, rfl⟩
    · simp
    · have := sized_slice hsz (j := 2) (t := 37) (e := 3) rfl rfl Try.underlying37
      rw [show Try.prog.bytesOf 3 = 8 by kernel_rfl] at this
      simp only [lits_len, reachBytes] at this
      omega
  clear hA0 hval0
  refine (walk W n0 b0 c0 x0 sl0 l0 a1 c1 x1 sl1 r1 l1' a2 c2 x2 sl2 r2 l2').mono fun e W' ⟨he, hnew⟩ => ?_
  have bel := hnew.below
  subst he
  exact ⟨_, rfl, _, _, _, [], _, [], hW', trodAll_mk1 (shut_bool Try.underlying4 _), (trodAll_cons_mk (Below.trod laidOut (by kernel_rfl) (of_decide_eq_true (by kernel_rfl)) k0 bel lt0) (trodAll_cons_mk (Below.trod laidOut (by kernel_rfl) (of_decide_eq_true (by kernel_rfl)) k1 bel lt1) (trodAll_cons_mk (Below.trod laidOut (by kernel_rfl) (of_decide_eq_true (by kernel_rfl)) k2 bel lt2) trodAll_mk0))), rfl, bel.frame _, fun h => by cases h⟩

theorem over : Rows.netStaysRow.holds Try.pinned (OpenSpec.ofChange Rows.netStaysSpec) :=
  OpenClaim.holds_of_wide 7 Try.f7 rfl rfl rfl rfl rfl rfl rfl ⟨rfl, rfl, rfl, rfl, rfl⟩ rfl rfl rfl rfl rfl (by kernel_rfl) Try.func7 (by kernel_rfl)
    (of_decide_eq_true (by kernel_rfl)) (by unfold Func.isWrapper; first | (rw [if_pos (by decide +kernel)]; kernel_rfl) | (rw [if_neg (by decide +kernel)]; exact ⟨rfl, rfl⟩))
    (fun os started H enc _ => lifted os started H enc)

/-- THE STATEMENT. -/
theorem proved : Rows.NetStaysSaid := over
end Go.Proofs.Ytijlgcbnoekmeaa.netStays
