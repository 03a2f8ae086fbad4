/-
  Layer 20: the program's reader of programs.
-/
import Derived.Test.YtfmpjbiaamkobaaDoorCodeT
namespace Go.Proofs.YtfmpjbiaamkobaaDoor
open Go Go.RowKit Go.Joins
set_option linter.all false

def contO (q : Pg) (n : Nat) (r : List Int) : Rd Pg := (timesR opR n r).bind fun l r' => .ok { q with ops := q.ops ++ l } r'
def contO0 (q : Pg) (r : List Int) : Rd Pg := (manyR 131072 r).bind fun n r' => contO q n r'
def contL (q : Pg) (n : Nat) (r : List Int) : Rd Pg := (timesR lineR n r).bind fun l r' => contO0 { q with lines := q.lines ++ l } r'
def contL0 (q : Pg) (r : List Int) : Rd Pg := (manyR 96 r).bind fun n r' => contL q n r'
def contP (q : Pg) (n : Nat) (r : List Int) : Rd Pg := (timesR partR n r).bind fun l r' => contL0 { q with parts := q.parts ++ l } r'
def contP0 (q : Pg) (r : List Int) : Rd Pg := (manyR 32 r).bind fun n r' => contP q n r'
def pg4 (m c i o : Int) : Pg := ⟨m, c, i, o, none, 0, [], none, 0, [], none, 0, []⟩
theorem progR_cont (r : List Int) : progR r = (countR r).bind fun m r1 => (countR r1).bind fun c r2 => (countR r2).bind fun i r3 => (countR r3).bind fun o r4 => contP0 (pg4 m c i o) r4 := by
  unfold progR contP0 contP contL0 contL contO0 contO listR pg4
  simp only [Rd.bind_assoc, List.nil_append]
theorem contP_zero (q : Pg) (r : List Int) : contP q 0 r = contL0 q r := by simp [contP, timesR]
theorem contL_zero (q : Pg) (r : List Int) : contL q 0 r = contO0 q r := by simp [contL, timesR]
theorem contO_zero (q : Pg) (r : List Int) : contO q 0 r = .ok q r := by simp [contO, timesR]
theorem contP_succ (q : Pg) (n : Nat) (r : List Int) : contP q (n + 1) r = (partR r).bind fun x r' => contP { q with parts := q.parts ++ [x] } n r' := by
  simp [contP, timesR, Rd.bind_assoc]
theorem contL_succ (q : Pg) (n : Nat) (r : List Int) : contL q (n + 1) r = (lineR r).bind fun x r' => contL { q with lines := q.lines ++ [x] } n r' := by
  simp [contL, timesR, Rd.bind_assoc]
theorem contO_succ (q : Pg) (n : Nat) (r : List Int) : contO q (n + 1) r = (opR r).bind fun x r' => contO { q with ops := q.ops ++ [x] } n r' := by
  simp [contO, timesR, Rd.bind_assoc]

theorem Tryd.infoPart : (Tryd.prog.info? 52).map (fun i => (i.zero, i.size, i.bytes)) = some (some (.agg #[.int .u8 0, .slice none 0 0]), 2, 32) := by kernel_rfl
theorem Tryd.infoLine : (Tryd.prog.info? 58).map (fun i => (i.zero, i.size, i.bytes)) = some (some (.agg #[.int .i64 0, .int .i64 0, .slice none 0 0]), 3, 40) := by kernel_rfl
theorem Tryd.infoOp : (Tryd.prog.info? 24).map (fun i => (i.zero, i.size, i.bytes)) = some (some (.agg #[.int .u8 0, .int .i64 0, .int .i64 0]), 3, 24) := by kernel_rfl

theorem one_part (x : PartD) : ∀ u ∈ partCells x, u.oneCell' = true := by intro u hu; simp [partCells] at hu; rcases hu with rfl | rfl <;> rfl
theorem one_line (x : LineD) : ∀ u ∈ lineCells x, u.oneCell' = true := by intro u hu; simp [lineCells] at hu; rcases hu with rfl | rfl | rfl <;> rfl
theorem one_op (x : OpD) : ∀ u ∈ opCells x, u.oneCell' = true := by intro u hu; simp [opCells] at hu; rcases hu with rfl | rfl | rfl <;> rfl
theorem OwnI.rebase {w : World} {B B' : Nat} {a : Option Addr} {c : Nat} {xs : List Int} (h : OwnI w B a c xs) (hb : B' ≤ B) : OwnI w B' a c xs := ownsRow_le h hb
theorem PgOwn.rebase {w : World} {B B' : Nat} {p : Pg} (h : PgOwn w B p) (hb : B' ≤ B) : PgOwn w B' p :=
  ⟨ownsRow_le h.oo hb, ownsRow_le h.po hb, ownsRow_le h.lo hb, fun x hx => OwnI.rebase (h.px x hx) hb, fun x hx => OwnI.rebase (h.lx x hx) hb, h.ap⟩
/-- A block that is new lies apart from the rows that are there. -/
theorem Build.apart {w : World} {B P G : Nat} {s : ByteArray} {p : Pg} {r : List Int} (h : Build w B P G s p r) {k : Nat} (hk : w.heap.size ≤ k) : (∀ y ∈ p.parts, ¬ blk y.a k) ∧ (∀ y ∈ p.lines, ¬ blk y.a k) :=
  ⟨fun y hy hb => by have := (own_of_blk (h.own.px y hy) hb).2; omega, fun y hy hb => by have := (own_of_blk (h.own.lx y hy) hb).2; omega⟩

/-- What the reader of a program does. -/
def ReadP (w : World) (G : Nat) (s : ByteArray) (res : Rd Pg) (e : Ending) (w' : World) : Prop := match res with
  | .bad c k => ReadBad w G s c k e w'
  | .ok p r => ∃ q : Pg, q.bare = p ∧ e = .returned q.v ∧ PgOwn w' w.heap.size q ∧ CurAt w' G s r ∧ Keeps (fun k => k = G) w w'

set_option maxRecDepth 100000 in
set_option maxHeartbeats 16000000 in
theorem cprog_any (w : World) (G : Nat) (s : ByteArray) (r : List Int) (hs : s.size ≤ 9223372036854775807) (hc : CurAt w G s r) :
    Calls Tryd.prog 23 #[.pointer (some ⟨G, 0, none⟩)] w (ReadP w G s (progR r)) := by
  have hGl := hc.lt
  obtain ⟨ip, hip, hzp0, hzp1, hzp2⟩ := info_parts Tryd.infoPart
  obtain ⟨il, hil, hzl0, hzl1, hzl2⟩ := info_parts Tryd.infoLine
  obtain ⟨io, hio, hzo0, hzo1, hzo2⟩ := info_parts Tryd.infoOp
  rw [progR_cont]
  obtain ⟨res, hre⟩ : ∃ x, ((countR r).bind fun m r1 => (countR r1).bind fun c r2 => (countR r2).bind fun i r3 => (countR r3).bind fun o r4 => contP0 (pg4 m c i o) r4) = x := ⟨_, rfl⟩
  rw [hre]
  have HRES := Lib.hid hre
  clear hre
  go_enter Tryd.func23, Tryd.ntmps23
  go_wp2_with fail
  have hW0 : New w (w.alloc (.cells #[.int .i64 0, .int .i64 0, .int .i64 0, .int .i64 0, .slice none 0 0, .slice none 0 0, .slice none 0 0] 39)) := Keeps.alloc _ _
  have hR0 : (w.alloc (.cells #[.int .i64 0, .int .i64 0, .int .i64 0, .int .i64 0, .slice none 0 0, .slice none 0 0, .slice none 0 0] 39)).heap[w.heap.size]? = some (.cells #[.int .i64 0, .int .i64 0, .int .i64 0, .int .i64 0, .slice none 0 0, .slice none 0 0, .slice none 0 0] 39 (0, 0)) := heap_alloc_new w _
  have hk0 : Keeps (fun k => k = G) w (w.alloc (.cells #[.int .i64 0, .int .i64 0, .int .i64 0, .int .i64 0, .slice none 0 0, .slice none 0 0, .slice none 0 0] 39)) := Keeps.alloc _ _
  have hc0 := hc.keeps hW0 (fun h => h)
  generalize w.alloc (.cells #[.int .i64 0, .int .i64 0, .int .i64 0, .int .i64 0, .slice none 0 0, .slice none 0 0, .slice none 0 0] 39) = w0 at hR0 hk0 hc0 ⊢
  clear hW0 hc
  have hGR : w.heap.size ≠ G := by omega
  have hu := ccount_any _ G s r hs hc0
  generalize countR r = x0 at hu HRES
  cases x0 with
  | bad c k =>
    have hr := HRES.out
    simp only [Rd.bind_bad] at hr
    subst hr
    refine hu.mono ?_
    rintro e w' ⟨rfl, hkw⟩
    go_wp2
    exact bodyPost_panic rfl ⟨rfl, hk0.trans hkw (fun _ _ h => h)⟩
  | ok pm r1 =>
    have hr := HRES.out
    simp only [Rd.bind_ok] at hr
    replace HRES := Lib.hid hr
    clear hr
    refine hu.mono ?_
    rintro e w1 ⟨rfl, hc1, hkw⟩
    have hk1 := hk0.trans hkw (fun _ _ h => h)
    replace hR0 := hkw.heap hR0 hGR
    clear hu hkw hk0 hc0
    go_wp2_with fail
    have hu := ccount_any _ G s r1 hs hc1
    generalize countR r1 = x1 at hu HRES
    cases x1 with
    | bad c k =>
      have hr := HRES.out
      simp only [Rd.bind_bad] at hr
      subst hr
      refine hu.mono ?_
      rintro e w' ⟨rfl, hkw⟩
      go_wp2
      exact bodyPost_panic rfl ⟨rfl, hk1.trans hkw (fun _ _ h => h)⟩
    | ok pc r2 =>
      have hr := HRES.out
      simp only [Rd.bind_ok] at hr
      replace HRES := Lib.hid hr
      clear hr
      refine hu.mono ?_
      rintro e w2 ⟨rfl, hc2, hkw⟩
      have hk2 := hk1.trans hkw (fun _ _ h => h)
      replace hR0 := hkw.heap hR0 hGR
      clear hu hkw hk1 hc1
      go_wp2_with fail
      have hu := ccount_any _ G s r2 hs hc2
      generalize countR r2 = x2 at hu HRES
      cases x2 with
      | bad c k =>
        have hr := HRES.out
        simp only [Rd.bind_bad] at hr
        subst hr
        refine hu.mono ?_
        rintro e w' ⟨rfl, hkw⟩
        go_wp2
        exact bodyPost_panic rfl ⟨rfl, hk2.trans hkw (fun _ _ h => h)⟩
      | ok pi r3 =>
        have hr := HRES.out
        simp only [Rd.bind_ok] at hr
        replace HRES := Lib.hid hr
        clear hr
        refine hu.mono ?_
        rintro e w3 ⟨rfl, hc3, hkw⟩
        have hk3 := hk2.trans hkw (fun _ _ h => h)
        replace hR0 := hkw.heap hR0 hGR
        clear hu hkw hk2 hc2
        go_wp2_with fail
        have hu := ccount_any _ G s r3 hs hc3
        generalize countR r3 = x3 at hu HRES
        cases x3 with
        | bad c k =>
          have hr := HRES.out
          simp only [Rd.bind_bad] at hr
          subst hr
          refine hu.mono ?_
          rintro e w' ⟨rfl, hkw⟩
          go_wp2
          exact bodyPost_panic rfl ⟨rfl, hk3.trans hkw (fun _ _ h => h)⟩
        | ok po r4 =>
          have hr := HRES.out
          simp only [Rd.bind_ok] at hr
          replace HRES := Lib.hid hr
          clear hr
          refine hu.mono ?_
          rintro e w4 ⟨rfl, hc4, hkw⟩
          have hk4 := hk3.trans hkw (fun _ _ h => h)
          replace hR0 := hkw.heap hR0 hGR
          clear hu hkw hk3 hc3
          go_wp2_with fail
          have hPl : w.heap.size < w4.heap.size := (Array.getElem?_eq_some_iff.1 hR0).1
          have hB0 : Build (w4.alloc (.cells #[I (pm : Int), I (pc : Int), I (pi : Int), I (po : Int), .slice none 0 0, .slice none 0 0, .slice none 0 0] 39)) (w.heap.size + 1) w4.heap.size G s (pg4 pm pc pi po) r4 :=
            ⟨heap_alloc_new w4 _, ⟨World.ownsRow_nil _ _ _ _, World.ownsRow_nil _ _ _ _, World.ownsRow_nil _ _ _ _, (fun x hx => by cases hx), (fun x hx => by cases hx), List.Pairwise.nil⟩, hc4.keeps (Keeps.alloc (S := fun _ => False) _ _) (fun h => h)⟩
          have hR1 := Keeps.heap (Keeps.alloc (S := fun _ => False) w4 (.cells #[I (pm : Int), I (pc : Int), I (pi : Int), I (po : Int), .slice none 0 0, .slice none 0 0, .slice none 0 0] 39)) hR0 (fun h => h)
          have hk5 := hk4.trans (Keeps.alloc (S := fun k => k = G) w4 (.cells #[I (pm : Int), I (pc : Int), I (pi : Int), I (po : Int), .slice none 0 0, .slice none 0 0, .slice none 0 0] 39)) (fun _ _ h => h)
          generalize w4.alloc (.cells #[I (pm : Int), I (pc : Int), I (pi : Int), I (po : Int), .slice none 0 0, .slice none 0 0, .slice none 0 0] 39) = w5 at hB0 hR1 hk5 ⊢
          clear hR0 hk4 hc4
          generalize w4.heap.size = P at hPl hB0 ⊢
          have hbare : (pg4 pm pc pi po).bare = pg4 pm pc pi po := rfl
          rw [← hbare] at HRES
          clear hbare
          have hq0 : (pg4 pm pc pi po).parts.length ≤ 0 ∧ (pg4 pm pc pi po).lines.length ≤ 0 ∧ (pg4 pm pc pi po).ops.length ≤ 0 := ⟨Nat.le_refl _, Nat.le_refl _, Nat.le_refl _⟩
          generalize pg4 pm pc pi po = q0 at HRES hB0 hq0
          have hu := cmany_any _ G s r4 32 (by omega) hs hB0.cur
          have hmle : ∀ n r', manyR 32 r4 = .ok n r' → n ≤ 32 := fun n r' h => many_le h
          unfold contP0 at HRES
          generalize manyR 32 r4 = x4 at hu HRES hmle
          cases x4 with
          | bad c k =>
            have hr := HRES.out
            simp only [Rd.bind_bad] at hr
            subst hr
            refine hu.mono ?_
            rintro e w' ⟨rfl, hkw⟩
            go_wp2
            exact bodyPost_panic rfl ⟨rfl, hk5.trans hkw (fun _ _ h => h)⟩
          | ok n r5 =>
            have hr := HRES.out
            simp only [Rd.bind_ok] at hr
            have hn := hmle n r5 rfl
            have h0 : contP q0.bare (n - 0) r5 = res := hr
            replace HRES := Lib.hid h0
            clear hr hmle h0
            refine hu.mono ?_
            rintro e w6 ⟨rfl, hc6, hkw⟩
            have hB6 := hB0.cursor hkw hc6
            have hk6 := hk5.trans hkw (fun _ _ h => h)
            replace hR1 := hkw.heap hR1 hGR
            clear hu hkw hk5 hB0 hc6
            go_wp2_with fail
            go_loopw [16] (fun i wr => ∃ (k : Nat) (q : Pg) (r : List Int), k ≤ n ∧ i = .int .i64 k ∧ Build wr (w.heap.size + 1) P G s q r ∧ contP q.bare (n - k) r = res ∧ (q.parts.length ≤ k ∧ q.lines.length ≤ 0 ∧ q.ops.length ≤ 0) ∧ wr.heap[w.heap.size]? = some (.cells #[.int .i64 0, .int .i64 0, .int .i64 0, .int .i64 0, .slice none 0 0, .slice none 0 0, .slice none 0 0] 39 (0, 0)) ∧ Keeps (fun k => k = G) w wr) (fun i _ => n - (intOf i).toNat)
            case atStart => exact ⟨0, q0, r5, by omega, rfl, hB6, HRES.out, hq0, hR1, hk6⟩
            case round =>
              clear hB6 hR1 hk6 HRES hq0
              obtain ⟨k, q, r, hk, rfl, hB, hres, hql, hR, hkr⟩ := hrel
              by_cases hkn : k < n
              · have e1 : n - k = (n - (k + 1)) + 1 := by omega
                rw [e1, contP_succ] at hres
                unfold partR at hres
                simp only [Rd.bind_assoc, Rd.bind_ok] at hres
                have HR := Lib.hid hres
                clear hres e1
                go_wp2_with fail
                have hPw : P < wr.heap.size := (Array.getElem?_eq_some_iff.1 hB.blkP).1
                have hPG : P ≠ G := by
                  rintro rfl
                  obtain ⟨_, _, _, h3⟩ := hB.cur
                  rw [hB.blkP] at h3; simp at h3
                have hPc : wr.cell? ⟨P, 4, none⟩ = some (.slice q.pa q.parts.length q.pc) := by rw [cell_of_block hB.blkP 4]; simp
                have hdr : New wr wr.drew := (New.refl wr).drew
                have hBd := hB.new hdr
                have hS0 : (fun w' : World => w'.cell? ⟨P, 4, none⟩ = some (.slice q.pa q.parts.length q.pc)) wr.drew := hdr.cell hPc
                refine wp_region_X (fun w' => w'.cell? ⟨P, 4, none⟩ = some (.slice q.pa q.parts.length q.pc)) [12] (by kernel_rfl) hS0 ?_
                refine anyX_take 0 (by kernel_rfl) (by kernel_rfl) (by kernel_rfl) (by kernel_rfl) (by kernel_rfl) hS0 ?_
                intro oi ho; cases ho
                refine ⟨?_, fun _ _ _ h => h, Or.inl ⟨by rfl, ?_⟩, ?_⟩; rotate_left 1
                · (intro wS hSw; (try dsimp only at hSw); go_simp; try with_reducible rfl)
                simp only [Act.put, List.setIfInBounds_toArray, List.set_cons_zero, List.set_cons_succ]
                refine anyX_take 1 (by kernel_rfl) (by kernel_rfl) (by kernel_rfl) (by kernel_rfl) (by kernel_rfl) hS0 ?_
                intro oi ho; cases ho
                refine ⟨?_, fun _ _ _ h => h, Or.inl ⟨by rfl, ?_⟩, ?_⟩; rotate_left 1
                · (intro wS hSw; (try dsimp only at hSw); go_simp; try with_reducible rfl)
                simp only [Act.put, List.setIfInBounds_toArray, List.set_cons_zero, List.set_cons_succ]
                refine anyX_take 2 (by kernel_rfl) (by kernel_rfl) (by kernel_rfl) (by kernel_rfl) (by kernel_rfl) hS0 ?_
                intro oi ho; cases ho
                refine ⟨?_, fun _ _ _ h => h, Or.inl ⟨by rfl, ?_⟩, ?_⟩; rotate_left 1
                · (intro wS hSw; (try dsimp only at hSw); go_simp; try with_reducible rfl)
                simp only [Act.put, List.setIfInBounds_toArray, List.set_cons_zero, List.set_cons_succ]
                refine anyX_take 3 (by kernel_rfl) (by kernel_rfl) (by kernel_rfl) (by kernel_rfl) (by kernel_rfl) hS0 ?_
                intro oi ho; cases ho
                refine ⟨?_, fun _ _ _ h => h, Or.inl ⟨by rfl, ?_⟩, ?_⟩; rotate_left 1
                · (intro wS hSw; (try dsimp only at hSw); go_simp; try with_reducible rfl)
                simp only [Act.put, List.setIfInBounds_toArray, List.set_cons_zero, List.set_cons_succ]
                refine anyX_take 4 (by kernel_rfl) (by kernel_rfl) (by kernel_rfl) (by kernel_rfl) (by kernel_rfl) hS0 ?_
                intro oi ho; cases ho
                refine ⟨?_, fun _ _ _ h => h, Or.inl ⟨by rfl, ?_⟩, ?_⟩; rotate_left 1
                · (intro wS hSw; (try dsimp only at hSw); go_simp; try with_reducible rfl)
                simp only [Act.put, List.setIfInBounds_toArray, List.set_cons_zero, List.set_cons_succ]
                refine anyX_take 6 (by kernel_rfl) (by kernel_rfl) (by kernel_rfl) (by kernel_rfl) (by kernel_rfl) hS0 ?_
                intro oi ho; cases ho
                refine ⟨?_, fun _ _ _ h => h, Or.inl ⟨by rfl, ?_⟩, ?_⟩; rotate_left 1
                · (intro wS hSw; (try dsimp only at hSw); go_simp; try with_reducible rfl)
                simp only [Act.put, List.setIfInBounds_toArray, List.set_cons_zero, List.set_cons_succ]
                refine anyX_one 5 (by kernel_rfl) ?_
                intro oi ho; cases ho; intro K hK
                (try simp only [Act.put, List.setIfInBounds_toArray, List.set_cons_zero, List.set_cons_succ])
                go_simp
                have hu := next_any wr.drew G s r hs hBd.cur
                generalize nextR r = y0 at hu HR
                cases y0 with
                | bad c kk =>
                  have hr := HR.out
                  simp only [Rd.bind_bad] at hr
                  subst hr
                  refine hu.mono ?_
                  rintro e w' ⟨rfl, hkw⟩
                  go_wp2
                  exact bodyPost_panic rfl ⟨rfl, (hkr.trans (Keeps.mono hdr (fun _ _ h => h.elim)) (fun _ _ h => h)).trans hkw (fun _ _ h => h)⟩
                | ok tg ra =>
                  have hr := HR.out
                  simp only [Rd.bind_ok] at hr
                  replace HR := Lib.hid hr
                  clear hr
                  refine hu.mono ?_
                  rintro e wa ⟨rfl, hca, hka⟩
                  have hBa := hBd.cursor hka hca
                  have hSa : (fun w' : World => w'.cell? ⟨P, 4, none⟩ = some (.slice q.pa q.parts.length q.pc)) wa := hka.cell hS0 hPG
                  refine hK _ _ (fun _ => hSa) ?_
                  clear hK K hu
                  refine anyX_one 7 (by kernel_rfl) ?_
                  intro oi ho; cases ho; intro K hK
                  (try simp only [Act.put, List.setIfInBounds_toArray, List.set_cons_zero, List.set_cons_succ])
                  go_simp
                  have hu := cints_any wa G s ra 16 (by decide) hs hca
                  generalize intsR 16 ra = y1 at hu HR
                  cases y1 with
                  | bad c kk =>
                    have hr := HR.out
                    simp only [Rd.bind_bad] at hr
                    subst hr
                    refine hu.mono ?_
                    rintro e w' ⟨rfl, hkw⟩
                    go_wp2
                    exact bodyPost_panic rfl ⟨rfl, (hkr.trans (Keeps.mono hdr (fun _ _ h => h.elim)) (fun _ _ h => h)).trans (hka.trans hkw (fun _ _ h => h)) (fun _ _ h => h)⟩
                  | ok xs rlast =>
                    have hr := HR.out
                    simp only [Rd.bind_ok] at hr
                    replace HR := Lib.hid hr
                    clear hr
                    refine hu.mono ?_
                    rintro e wb ⟨xa, xc, rfl, hxo, hcb, hkb⟩
                    have hBb := hBa.cursor hkb hcb
                    have hSb : (fun w' : World => w'.cell? ⟨P, 4, none⟩ = some (.slice q.pa q.parts.length q.pc)) wb := hkb.cell hSa hPG
                    refine hK _ _ (fun _ => hSb) ?_
                    clear hK K hu
                    refine anyX_one 8 (by kernel_rfl) ?_
                    intro oi ho; cases ho; intro K hK
                    (try simp only [Act.put, List.setIfInBounds_toArray, List.set_cons_zero, List.set_cons_succ])
                    go_simp
                    refine hK _ _ (fun _ => hSb) ?_
                    clear hK K
                    refine anyX_one 9 (by kernel_rfl) ?_
                    intro oi ho; cases ho; intro K hK
                    (try simp only [Act.put, List.setIfInBounds_toArray, List.set_cons_zero, List.set_cons_succ])
                    go_simp
                    have hSc : (fun w' : World => w'.cell? ⟨P, 4, none⟩ = some (.slice q.pa q.parts.length q.pc)) (wb.alloc (.cells #[.int .u8 tg, .slice xa xs.length xc] 52)) := New.cell ((New.refl wb).alloc _) hSb
                    refine hK _ _ (fun _ => hSc) ?_
                    clear hK K
                    refine anyX_one 10 (by kernel_rfl) ?_
                    intro oi ho; cases ho; intro K hK
                    have kbc : New wb (wb.alloc (.cells #[.int .u8 tg, .slice xa xs.length xc] 52)) := (New.refl wb).alloc _
                    have hBc := hBb.new kbc
                    have hszb : w.heap.size + 1 ≤ (wb.alloc (.cells #[.int .u8 tg, .slice xa xs.length xc] 52)).heap.size := by have h1 := hkr.size; have h2 := hdr.size; have h3 := hka.size; have h4 := hkb.size; have h5 := kbc.size; omega
                    refine step_app rfl _ _ 35 rfl (w.heap.size + 1) 52 ip (.agg #[.int .u8 0, .slice none 0 0]) 2 32 Tryd.underlying35 hip hzp0 hzp1 hzp2 rfl (by decide) q.pa q.parts.length q.pc (q.parts.flatMap partCells) rfl hBc.own.po (some ⟨wb.heap.size, 0, none⟩) 1 1 (partCells ⟨tg, xa, xc, xs⟩) rfl rfl (SlAt.lit wb _ _) (one_part _) (by unfold maxLen; omega) (by omega) hszb ?_
                    intro ao' c' wc hown' hk' hmv
                    obtain ⟨⟨hv0, hfz⟩, hBn, hkn'⟩ := hBb.addPart ⟨tg, xa, xc, xs⟩ (OwnI.rebase hxo (by have h1 := hkr.size; have h2 := hdr.size; have h3 := hka.size; omega)) (fun k hk => hBa.apart (own_of_blk hxo hk).1) kbc hown' hk' hmv
                    have HBn := Lib.hid hBn
                    have HKn := Lib.hid hkn'
                    clear hBn hkn'
                    have hSd : (fun w' : World => w'.cell? ⟨P, 4, none⟩ = some (.slice q.pa q.parts.length q.pc)) wc := hv0
                    refine hK _ _ (fun _ => hSd) ?_
                    clear hK K
                    refine anyX_take 11 (by kernel_rfl) (by kernel_rfl) (by kernel_rfl) (by kernel_rfl) (by kernel_rfl) hSd ?_
                    intro oi ho; cases ho
                    refine ⟨?_, fun _ _ _ h => h, Or.inl ⟨by rfl, ?_⟩, ?_⟩; rotate_left 1
                    · (intro wS hSw; (try dsimp only at hSw); go_simp; try with_reducible rfl)
                    simp only [Act.put, List.setIfInBounds_toArray, List.set_cons_zero, List.set_cons_succ]
                    refine anyX_one 12 (by kernel_rfl) ?_
                    intro oi ho; cases ho; intro K hK
                    (try simp only [Act.put, List.setIfInBounds_toArray, List.set_cons_zero, List.set_cons_succ])
                    go_simp
                    refine hK _ _ (fun hx => by cases hx) ?_
                    clear hK K
                    refine anyX_done (by kernel_rfl) ?_
                    (try simp only [Act.put, List.setIfInBounds_toArray, List.set_cons_zero, List.set_cons_succ])
                    clear hS0 hSa hSb hSc hSd
                    (try simp only [Exit.then])
                    go_wp2
                    have hkw9 : Keeps (fun k => k = G) w (wc.setCell ⟨P, 4, none⟩ (.slice ao' (q.parts.length + 1) c')) := (((hkr.trans (Keeps.mono hdr (fun _ _ h => h.elim)) (fun _ _ h => h)).trans hka (fun _ _ h => h)).trans hkb (fun _ _ h => h)).trans HKn.out (fun i hi hb => by
                      rcases hb with rfl | hb
                      · omega
                      · have := (own_of_blk hBb.own.po hb).1; omega)
                    have hR9 : (wc.setCell ⟨P, 4, none⟩ (.slice ao' (q.parts.length + 1) c')).heap[w.heap.size]? = some (.cells #[.int .i64 0, .int .i64 0, .int .i64 0, .int .i64 0, .slice none 0 0, .slice none 0 0, .slice none 0 0] 39 (0, 0)) := HKn.out.heap (hkb.heap (hka.heap (Keeps.heap hdr hR (fun h => h)) hGR) hGR) (fun hb => by
                      rcases hb with hb | hb
                      · omega
                      · have := (own_of_blk hBb.own.po hb).1; omega)
                    obtain ⟨hq1, hq2, hq3⟩ := hql
                    go_roundw
                    case rel =>
                      refine ⟨k + 1, { q with pa := ao', pc := c', parts := q.parts ++ [⟨tg, xa, xc, xs⟩] }, rlast, by omega, by go_num, HBn.out, ?_, ⟨by simp; omega, hq2, hq3⟩, hR9, hkw9⟩
                      have h := HR.out
                      simpa [Pg.bare, PartD.bare] using h
                    case measure => simp [intOf]; omega
              · rw [show n - k = 0 by omega, contP_zero] at hres
                unfold contL0 at hres
                have HRES := Lib.hid hres
                have hk9 : n ≤ k := by omega
                clear hres hk hkn
                have hu := cmany_any _ G s r 96 (by omega) hs hB.cur
                have hmle : ∀ n r', manyR 96 r = .ok n r' → n ≤ 96 := fun n r' h => many_le h
                generalize manyR 96 r = x4 at hu HRES hmle
                go_wp2_with fail
                cases x4 with
                | bad c k =>
                  have hr := HRES.out
                  simp only [Rd.bind_bad] at hr
                  subst hr
                  refine hu.mono ?_
                  rintro e w' ⟨rfl, hkw⟩
                  go_wp2
                  exact bodyPost_panic rfl ⟨rfl, hkr.trans hkw (fun _ _ h => h)⟩
                | ok n2 r5 =>
                  have hr := HRES.out
                  simp only [Rd.bind_ok] at hr
                  have hnn2 := hmle n2 r5 rfl
                  have h0 : contL q.bare (n2 - 0) r5 = res := hr
                  replace HRES := Lib.hid h0
                  clear hr hmle h0 hk9
                  refine hu.mono ?_
                  rintro e w6 ⟨rfl, hc6, hkw⟩
                  have hB6 := hB.cursor hkw hc6
                  have hk6 := hkr.trans hkw (fun _ _ h => h)
                  have hR1 := hkw.heap hR hGR
                  clear hu hkw hkr hR hB hc6
                  go_wp2_with fail
                  obtain ⟨wo2, rfl⟩ : ∃ wo : World, wo = wr := ⟨_, rfl⟩
                  go_loopw [33] (fun i wr => ∃ (k : Nat) (q : Pg) (r : List Int), k ≤ n2 ∧ i = .int .i64 k ∧ Build wr (w.heap.size + 1) P G s q r ∧ contL q.bare (n2 - k) r = res ∧ (q.lines.length ≤ k ∧ q.ops.length ≤ 0) ∧ wr.heap[w.heap.size]? = some (.cells #[.int .i64 0, .int .i64 0, .int .i64 0, .int .i64 0, .slice none 0 0, .slice none 0 0, .slice none 0 0] 39 (0, 0)) ∧ Keeps (fun k => k = G) w wr) (fun i _ => n2 - (intOf i).toNat)
                  case atStart => exact ⟨0, q, r5, by omega, rfl, hB6, HRES.out, by omega, hR1, hk6⟩
                  case round =>
                    clear hB6 hR1 hk6 HRES hql
                    obtain ⟨k, q, r, hk, rfl, hB, hres, hql, hR, hkr⟩ := hrel
                    by_cases hkn : k < n2
                    · have e1 : n2 - k = (n2 - (k + 1)) + 1 := by omega
                      rw [e1, contL_succ] at hres
                      unfold lineR at hres
                      simp only [Rd.bind_assoc, Rd.bind_ok] at hres
                      have HR := Lib.hid hres
                      clear hres e1
                      have hPw : P < wr.heap.size := (Array.getElem?_eq_some_iff.1 hB.blkP).1
                      have hPG : P ≠ G := by
                        rintro rfl
                        obtain ⟨_, _, _, h3⟩ := hB.cur
                        rw [hB.blkP] at h3; simp at h3
                      have hu := ccount_any wr G s r hs hB.cur
                      go_wp2_with fail
                      generalize countR r = y0 at hu HR
                      cases y0 with
                      | bad c kk =>
                        have hr := HR.out
                        simp only [Rd.bind_bad] at hr
                        subst hr
                        refine hu.mono ?_
                        rintro e w' ⟨rfl, hkw⟩
                        go_wp2
                        exact bodyPost_panic rfl ⟨rfl, (hkr).trans hkw (fun _ _ h => h)⟩
                      | ok nb ra =>
                        have hr := HR.out
                        simp only [Rd.bind_ok] at hr
                        replace HR := Lib.hid hr
                        clear hr
                        refine hu.mono ?_
                        rintro e wa ⟨rfl, hca, hka⟩
                        have hBa := hB.cursor hka hca
                        clear hu
                        go_wp2_with fail
                        have hu := ccount_any wa G s ra hs hca
                        generalize countR ra = y0 at hu HR
                        cases y0 with
                        | bad c kk =>
                          have hr := HR.out
                          simp only [Rd.bind_bad] at hr
                          subst hr
                          refine hu.mono ?_
                          rintro e w' ⟨rfl, hkw⟩
                          go_wp2
                          exact bodyPost_panic rfl ⟨rfl, (hkr.trans hka (fun _ _ h => h)).trans hkw (fun _ _ h => h)⟩
                        | ok ns rb =>
                          have hr := HR.out
                          simp only [Rd.bind_ok] at hr
                          replace HR := Lib.hid hr
                          clear hr
                          refine hu.mono ?_
                          rintro e wb ⟨rfl, hcb, hkb⟩
                          have hBb := hBa.cursor hkb hcb
                          clear hu
                          go_wp2_with fail
                          have kbx : New wb (wb.alloc (.cells #[I (nb : Int), I (ns : Int)] 56)) := Keeps.alloc _ _
                          have x0 : (wb.alloc (.cells #[I (nb : Int), I (ns : Int)] 56)).cell? ⟨wb.heap.size, 0, none⟩ = some (I (nb : Int)) := by simp
                          have x1 : (wb.alloc (.cells #[I (nb : Int), I (ns : Int)] 56)).cell? ⟨wb.heap.size, 1, none⟩ = some (I (ns : Int)) := by simp
                          have hBx := hBb.new kbx
                          generalize wb.alloc (.cells #[I (nb : Int), I (ns : Int)] 56) = wx at kbx x0 x1 hBx ⊢
                          have hLG : wb.heap.size ≠ G := by have := hcb.lt; omega
                          have hszb : w.heap.size + 1 ≤ wb.heap.size := by have h1 := hkr.size; have h3 := hka.size; have h4 := hkb.size; omega
                          have hcx := hBx.cur
                          have hPc : wx.cell? ⟨P, 5, none⟩ = some (.slice q.la q.lines.length q.lc) := by rw [cell_of_block hBx.blkP 5]; simp
                          have hdr : New wx wx.drew := (New.refl wx).drew
                          have hBd := hBx.new hdr
                          have hS0 : (fun w' : World => w'.cell? ⟨P, 5, none⟩ = some (.slice q.la q.lines.length q.lc) ∧ w'.cell? ⟨wb.heap.size, 0, none⟩ = some (I (nb : Int)) ∧ w'.cell? ⟨wb.heap.size, 1, none⟩ = some (I (ns : Int))) wx.drew := ⟨hdr.cell hPc, hdr.cell x0, hdr.cell x1⟩
                          refine wp_region_X (fun w' : World => w'.cell? ⟨P, 5, none⟩ = some (.slice q.la q.lines.length q.lc) ∧ w'.cell? ⟨wb.heap.size, 0, none⟩ = some (I (nb : Int)) ∧ w'.cell? ⟨wb.heap.size, 1, none⟩ = some (I (ns : Int))) [9] (by kernel_rfl) hS0 ?_
                          refine anyX_take 0 (by kernel_rfl) (by kernel_rfl) (by kernel_rfl) (by kernel_rfl) (by kernel_rfl) hS0 ?_
                          intro oi ho; cases ho
                          refine ⟨?_, fun _ _ _ h => h, Or.inl ⟨by rfl, ?_⟩, ?_⟩; rotate_left 1
                          · (intro wS hSw; (try dsimp only at hSw); obtain ⟨hz0, hz1, hz2⟩ := hSw; go_simp; try with_reducible rfl)
                          simp only [Act.put, List.setIfInBounds_toArray, List.set_cons_zero, List.set_cons_succ]
                          refine anyX_take 1 (by kernel_rfl) (by kernel_rfl) (by kernel_rfl) (by kernel_rfl) (by kernel_rfl) hS0 ?_
                          intro oi ho; cases ho
                          refine ⟨?_, fun _ _ _ h => h, Or.inl ⟨by rfl, ?_⟩, ?_⟩; rotate_left 1
                          · (intro wS hSw; (try dsimp only at hSw); obtain ⟨hz0, hz1, hz2⟩ := hSw; go_simp; try with_reducible rfl)
                          simp only [Act.put, List.setIfInBounds_toArray, List.set_cons_zero, List.set_cons_succ]
                          refine anyX_take 2 (by kernel_rfl) (by kernel_rfl) (by kernel_rfl) (by kernel_rfl) (by kernel_rfl) hS0 ?_
                          intro oi ho; cases ho
                          refine ⟨?_, fun _ _ _ h => h, Or.inl ⟨by rfl, ?_⟩, ?_⟩; rotate_left 1
                          · (intro wS hSw; (try dsimp only at hSw); obtain ⟨hz0, hz1, hz2⟩ := hSw; go_simp; try with_reducible rfl)
                          simp only [Act.put, List.setIfInBounds_toArray, List.set_cons_zero, List.set_cons_succ]
                          refine anyX_take 3 (by kernel_rfl) (by kernel_rfl) (by kernel_rfl) (by kernel_rfl) (by kernel_rfl) hS0 ?_
                          intro oi ho; cases ho
                          refine ⟨?_, fun _ _ _ h => h, Or.inl ⟨by rfl, ?_⟩, ?_⟩; rotate_left 1
                          · (intro wS hSw; (try dsimp only at hSw); obtain ⟨hz0, hz1, hz2⟩ := hSw; go_simp; try with_reducible rfl)
                          simp only [Act.put, List.setIfInBounds_toArray, List.set_cons_zero, List.set_cons_succ]
                          refine anyX_one 4 (by kernel_rfl) ?_
                          intro oi ho; cases ho; intro K hK
                          (try simp only [Act.put, List.setIfInBounds_toArray, List.set_cons_zero, List.set_cons_succ])
                          go_simp
                          have hu := cints_any wx.drew G s rb 1024 (by decide) hs hBd.cur
                          generalize intsR 1024 rb = y1 at hu HR
                          cases y1 with
                          | bad c kk =>
                            have hr := HR.out
                            simp only [Rd.bind_bad] at hr
                            subst hr
                            refine hu.mono ?_
                            rintro e w' ⟨rfl, hkw⟩
                            go_wp2
                            exact bodyPost_panic rfl ⟨rfl, (((hkr.trans hka (fun _ _ h => h)).trans hkb (fun _ _ h => h)).trans ((Keeps.mono kbx (fun _ _ h => h.elim)).trans (Keeps.mono hdr (fun _ _ h => h.elim)) (fun _ _ h => h)) (fun _ _ h => h)).trans hkw (fun _ _ h => h)⟩
                          | ok xs rlast =>
                            have hr := HR.out
                            simp only [Rd.bind_ok] at hr
                            replace HR := Lib.hid hr
                            clear hr
                            refine hu.mono ?_
                            rintro e wd ⟨xa, xc, rfl, hxo, hcd, hkd⟩
                            have hBe := hBd.cursor hkd hcd
                            have hSb : (fun w' : World => w'.cell? ⟨P, 5, none⟩ = some (.slice q.la q.lines.length q.lc) ∧ w'.cell? ⟨wb.heap.size, 0, none⟩ = some (I (nb : Int)) ∧ w'.cell? ⟨wb.heap.size, 1, none⟩ = some (I (ns : Int))) wd := ⟨hkd.cell hS0.1 hPG, hkd.cell hS0.2.1 hLG, hkd.cell hS0.2.2 hLG⟩
                            refine hK _ _ (fun _ => hSb) ?_
                            clear hK K hu
                            refine anyX_one 5 (by kernel_rfl) ?_
                            intro oi ho; cases ho; intro K hK
                            (try simp only [Act.put, List.setIfInBounds_toArray, List.set_cons_zero, List.set_cons_succ])
                            go_simp
                            refine hK _ _ (fun _ => hSb) ?_
                            clear hK K
                            refine anyX_one 6 (by kernel_rfl) ?_
                            intro oi ho; cases ho; intro K hK
                            (try simp only [Act.put, List.setIfInBounds_toArray, List.set_cons_zero, List.set_cons_succ])
                            go_simp
                            have kbc : New wd (wd.alloc (.cells #[I (nb : Int), I (ns : Int), .slice xa xs.length xc] 58)) := (New.refl wd).alloc _
                            have hSc : (fun w' : World => w'.cell? ⟨P, 5, none⟩ = some (.slice q.la q.lines.length q.lc) ∧ w'.cell? ⟨wb.heap.size, 0, none⟩ = some (I (nb : Int)) ∧ w'.cell? ⟨wb.heap.size, 1, none⟩ = some (I (ns : Int))) (wd.alloc (.cells #[I (nb : Int), I (ns : Int), .slice xa xs.length xc] 58)) := ⟨New.cell kbc hSb.1, New.cell kbc hSb.2.1, New.cell kbc hSb.2.2⟩
                            refine hK _ _ (fun _ => hSc) ?_
                            clear hK K
                            refine anyX_one 7 (by kernel_rfl) ?_
                            intro oi ho; cases ho; intro K hK
                            have hBc := hBe.new kbc
                            have hszx : wb.heap.size ≤ wx.drew.heap.size := by have h1 := kbx.size; have h2 := hdr.size; omega
                            have hszc : w.heap.size + 1 ≤ (wd.alloc (.cells #[I (nb : Int), I (ns : Int), .slice xa xs.length xc] 58)).heap.size := by have h4 := hkd.size; have h5 := kbc.size; omega
                            refine step_app rfl _ _ 36 rfl (w.heap.size + 1) 58 il (.agg #[.int .i64 0, .int .i64 0, .slice none 0 0]) 3 40 Tryd.underlying36 hil hzl0 hzl1 hzl2 rfl (by decide) q.la q.lines.length q.lc (q.lines.flatMap lineCells) rfl hBc.own.lo (some ⟨wd.heap.size, 0, none⟩) 1 1 (lineCells ⟨nb, ns, xa, xc, xs⟩) rfl rfl (SlAt.lit wd _ _) (one_line _) (by unfold maxLen; omega) (by omega) hszc ?_
                            intro ao' c' wc hown' hk' hmv
                            have hxs : w.heap.size + 1 ≤ wx.drew.heap.size := by omega
                            obtain ⟨⟨hv0, hfz⟩, hBn, hkn'⟩ := hBe.addLine ⟨nb, ns, xa, xc, xs⟩ (OwnI.rebase hxo hxs) (fun k hk => hBd.apart (own_of_blk hxo hk).1) kbc hown' hk' hmv
                            have HBn := Lib.hid hBn
                            have HKn := Lib.hid hkn'
                            clear hBn hkn'
                            have hnl : ¬ blk q.la wb.heap.size := fun hb => by have := (own_of_blk hBb.own.lo hb).2; omega
                            have hSd : (fun w' : World => w'.cell? ⟨P, 5, none⟩ = some (.slice q.la q.lines.length q.lc) ∧ w'.cell? ⟨wb.heap.size, 0, none⟩ = some (I (nb : Int)) ∧ w'.cell? ⟨wb.heap.size, 1, none⟩ = some (I (ns : Int))) wc := ⟨hv0, hk'.cell hSc.2.1 hnl, hk'.cell hSc.2.2 hnl⟩
                            refine hK _ _ (fun _ => hSd) ?_
                            clear hK K
                            refine anyX_take 8 (by kernel_rfl) (by kernel_rfl) (by kernel_rfl) (by kernel_rfl) (by kernel_rfl) hSd ?_
                            intro oi ho; cases ho
                            refine ⟨?_, fun _ _ _ h => h, Or.inl ⟨by rfl, ?_⟩, ?_⟩; rotate_left 1
                            · (intro wS hSw; (try dsimp only at hSw); obtain ⟨hz0, hz1, hz2⟩ := hSw; go_simp; try with_reducible rfl)
                            simp only [Act.put, List.setIfInBounds_toArray, List.set_cons_zero, List.set_cons_succ]
                            refine anyX_one 9 (by kernel_rfl) ?_
                            intro oi ho; cases ho; intro K hK
                            (try simp only [Act.put, List.setIfInBounds_toArray, List.set_cons_zero, List.set_cons_succ])
                            go_simp
                            refine hK _ _ (fun hx => by cases hx) ?_
                            clear hK K
                            refine anyX_done (by kernel_rfl) ?_
                            (try simp only [Act.put, List.setIfInBounds_toArray, List.set_cons_zero, List.set_cons_succ])
                            (try simp only [Exit.then])
                            go_wp2
                            have hkw9 : Keeps (fun k => k = G) w (wc.setCell ⟨P, 5, none⟩ (.slice ao' (q.lines.length + 1) c')) := (((((hkr.trans hka (fun _ _ h => h)).trans hkb (fun _ _ h => h)).trans (Keeps.mono kbx (fun _ _ h => h.elim)) (fun _ _ h => h)).trans (Keeps.mono hdr (fun _ _ h => h.elim)) (fun _ _ h => h)).trans hkd (fun _ _ h => h)).trans HKn.out (fun i hi hb => by
                              rcases hb with rfl | hb
                              · omega
                              · have := (own_of_blk hBe.own.lo hb).1; omega)
                            have hR9 : (wc.setCell ⟨P, 5, none⟩ (.slice ao' (q.lines.length + 1) c')).heap[w.heap.size]? = some (.cells #[.int .i64 0, .int .i64 0, .int .i64 0, .int .i64 0, .slice none 0 0, .slice none 0 0, .slice none 0 0] 39 (0, 0)) := HKn.out.heap (hkd.heap (Keeps.heap hdr (Keeps.heap kbx (hkb.heap (hka.heap hR hGR) hGR) (fun h => h)) (fun h => h)) hGR) (fun hb => by
                              rcases hb with hb | hb
                              · omega
                              · have := (own_of_blk hBe.own.lo hb).1; omega)
                            obtain ⟨hq1, hq2⟩ := hql
                            go_roundw
                            case rel =>
                              refine ⟨k + 1, { q with la := ao', lc := c', lines := q.lines ++ [⟨nb, ns, xa, xc, xs⟩] }, rlast, by omega, by go_num, HBn.out, ?_, ⟨by simp; omega, hq2⟩, hR9, hkw9⟩
                              have h := HR.out
                              simpa [Pg.bare, LineD.bare] using h
                            case measure => simp [intOf]; omega
                    · rw [show n2 - k = 0 by omega, contL_zero] at hres
                      unfold contO0 at hres
                      have HRES := Lib.hid hres
                      have hk9 : n2 ≤ k := by omega
                      clear hres hk hkn
                      have hu := cmany_any _ G s r 131072 (by omega) hs hB.cur
                      have hmle : ∀ n r', manyR 131072 r = .ok n r' → n ≤ 131072 := fun n r' h => many_le h
                      generalize manyR 131072 r = x4 at hu HRES hmle
                      go_wp2_with fail
                      cases x4 with
                      | bad c k =>
                        have hr := HRES.out
                        simp only [Rd.bind_bad] at hr
                        subst hr
                        refine hu.mono ?_
                        rintro e w' ⟨rfl, hkw⟩
                        go_wp2
                        exact bodyPost_panic rfl ⟨rfl, hkr.trans hkw (fun _ _ h => h)⟩
                      | ok n3 r5 =>
                        have hr := HRES.out
                        simp only [Rd.bind_ok] at hr
                        have hnn3 := hmle n3 r5 rfl
                        have h0 : contO q.bare (n3 - 0) r5 = res := hr
                        replace HRES := Lib.hid h0
                        clear hr hmle h0 hk9
                        refine hu.mono ?_
                        rintro e w6 ⟨rfl, hc6, hkw⟩
                        have hB6 := hB.cursor hkw hc6
                        have hk6 := hkr.trans hkw (fun _ _ h => h)
                        have hR1 := hkw.heap hR hGR
                        clear hu hkw hkr hR hB hc6
                        go_wp2_with fail
                        obtain ⟨wo3, rfl⟩ : ∃ wo : World, wo = wr := ⟨_, rfl⟩
                        go_loopw [52] (fun i wr => ∃ (k : Nat) (q : Pg) (r : List Int), k ≤ n3 ∧ i = .int .i64 k ∧ Build wr (w.heap.size + 1) P G s q r ∧ contO q.bare (n3 - k) r = res ∧ (q.ops.length ≤ k) ∧ wr.heap[w.heap.size]? = some (.cells #[.int .i64 0, .int .i64 0, .int .i64 0, .int .i64 0, .slice none 0 0, .slice none 0 0, .slice none 0 0] 39 (0, 0)) ∧ Keeps (fun k => k = G) w wr) (fun i _ => n3 - (intOf i).toNat)
                        case atStart => exact ⟨0, q, r5, by omega, rfl, hB6, HRES.out, by omega, hR1, hk6⟩
                        case round =>
                          clear hB6 hR1 hk6 HRES hql
                          obtain ⟨k, q, r, hk, rfl, hB, hres, hql, hR, hkr⟩ := hrel
                          by_cases hkn : k < n3
                          · have e1 : n3 - k = (n3 - (k + 1)) + 1 := by omega
                            rw [e1, contO_succ] at hres
                            unfold opR at hres
                            simp only [Rd.bind_assoc, Rd.bind_ok] at hres
                            have HR := Lib.hid hres
                            clear hres e1
                            have hPw : P < wr.heap.size := (Array.getElem?_eq_some_iff.1 hB.blkP).1
                            have hPG : P ≠ G := by
                              rintro rfl
                              obtain ⟨_, _, _, h3⟩ := hB.cur
                              rw [hB.blkP] at h3; simp at h3
                            go_wp2_with fail
                            have hPc : wr.cell? ⟨P, 6, none⟩ = some (.slice q.oa q.ops.length q.oc) := by rw [cell_of_block hB.blkP 6]; simp
                            have hdr : New wr wr.drew := (New.refl wr).drew
                            have hBd := hB.new hdr
                            have hS0 : (fun w' : World => w'.cell? ⟨P, 6, none⟩ = some (.slice q.oa q.ops.length q.oc)) wr.drew := hdr.cell hPc
                            refine wp_region_X (fun w' : World => w'.cell? ⟨P, 6, none⟩ = some (.slice q.oa q.ops.length q.oc)) [14] (by kernel_rfl) hS0 ?_
                            refine anyX_take 0 (by kernel_rfl) (by kernel_rfl) (by kernel_rfl) (by kernel_rfl) (by kernel_rfl) hS0 ?_
                            intro oi ho; cases ho
                            refine ⟨?_, fun _ _ _ h => h, Or.inl ⟨by rfl, ?_⟩, ?_⟩; rotate_left 1
                            · (intro wS hSw; (try dsimp only at hSw); skip; go_simp; try with_reducible rfl)
                            simp only [Act.put, List.setIfInBounds_toArray, List.set_cons_zero, List.set_cons_succ]
                            refine anyX_take 1 (by kernel_rfl) (by kernel_rfl) (by kernel_rfl) (by kernel_rfl) (by kernel_rfl) hS0 ?_
                            intro oi ho; cases ho
                            refine ⟨?_, fun _ _ _ h => h, Or.inl ⟨by rfl, ?_⟩, ?_⟩; rotate_left 1
                            · (intro wS hSw; (try dsimp only at hSw); skip; go_simp; try with_reducible rfl)
                            simp only [Act.put, List.setIfInBounds_toArray, List.set_cons_zero, List.set_cons_succ]
                            refine anyX_take 2 (by kernel_rfl) (by kernel_rfl) (by kernel_rfl) (by kernel_rfl) (by kernel_rfl) hS0 ?_
                            intro oi ho; cases ho
                            refine ⟨?_, fun _ _ _ h => h, Or.inl ⟨by rfl, ?_⟩, ?_⟩; rotate_left 1
                            · (intro wS hSw; (try dsimp only at hSw); skip; go_simp; try with_reducible rfl)
                            simp only [Act.put, List.setIfInBounds_toArray, List.set_cons_zero, List.set_cons_succ]
                            refine anyX_take 3 (by kernel_rfl) (by kernel_rfl) (by kernel_rfl) (by kernel_rfl) (by kernel_rfl) hS0 ?_
                            intro oi ho; cases ho
                            refine ⟨?_, fun _ _ _ h => h, Or.inl ⟨by rfl, ?_⟩, ?_⟩; rotate_left 1
                            · (intro wS hSw; (try dsimp only at hSw); skip; go_simp; try with_reducible rfl)
                            simp only [Act.put, List.setIfInBounds_toArray, List.set_cons_zero, List.set_cons_succ]
                            refine anyX_take 4 (by kernel_rfl) (by kernel_rfl) (by kernel_rfl) (by kernel_rfl) (by kernel_rfl) hS0 ?_
                            intro oi ho; cases ho
                            refine ⟨?_, fun _ _ _ h => h, Or.inl ⟨by rfl, ?_⟩, ?_⟩; rotate_left 1
                            · (intro wS hSw; (try dsimp only at hSw); skip; go_simp; try with_reducible rfl)
                            simp only [Act.put, List.setIfInBounds_toArray, List.set_cons_zero, List.set_cons_succ]
                            refine anyX_take 6 (by kernel_rfl) (by kernel_rfl) (by kernel_rfl) (by kernel_rfl) (by kernel_rfl) hS0 ?_
                            intro oi ho; cases ho
                            refine ⟨?_, fun _ _ _ h => h, Or.inl ⟨by rfl, ?_⟩, ?_⟩; rotate_left 1
                            · (intro wS hSw; (try dsimp only at hSw); skip; go_simp; try with_reducible rfl)
                            simp only [Act.put, List.setIfInBounds_toArray, List.set_cons_zero, List.set_cons_succ]
                            refine anyX_take 8 (by kernel_rfl) (by kernel_rfl) (by kernel_rfl) (by kernel_rfl) (by kernel_rfl) hS0 ?_
                            intro oi ho; cases ho
                            refine ⟨?_, fun _ _ _ h => h, Or.inl ⟨by rfl, ?_⟩, ?_⟩; rotate_left 1
                            · (intro wS hSw; (try dsimp only at hSw); skip; go_simp; try with_reducible rfl)
                            simp only [Act.put, List.setIfInBounds_toArray, List.set_cons_zero, List.set_cons_succ]
                            refine anyX_one 5 (by kernel_rfl) ?_
                            intro oi ho; cases ho; intro K hK
                            (try simp only [Act.put, List.setIfInBounds_toArray, List.set_cons_zero, List.set_cons_succ])
                            go_simp
                            have hu := next_any wr.drew G s r hs hBd.cur
                            generalize nextR r = y0 at hu HR
                            cases y0 with
                            | bad c kk =>
                              have hr := HR.out
                              simp only [Rd.bind_bad] at hr
                              subst hr
                              refine hu.mono ?_
                              rintro e w' ⟨rfl, hkw⟩
                              go_wp2
                              exact bodyPost_panic rfl ⟨rfl, (hkr.trans (Keeps.mono hdr (fun _ _ h => h.elim)) (fun _ _ h => h)).trans hkw (fun _ _ h => h)⟩
                            | ok kd ra =>
                              have hr := HR.out
                              simp only [Rd.bind_ok] at hr
                              replace HR := Lib.hid hr
                              clear hr
                              refine hu.mono ?_
                              rintro e wa ⟨rfl, hcwa, hkwa⟩
                              have hBwa := hBd.cursor hkwa hcwa
                              have hSwa : (fun w' : World => w'.cell? ⟨P, 6, none⟩ = some (.slice q.oa q.ops.length q.oc)) wa := hkwa.cell hS0 hPG
                              refine hK _ _ (fun _ => hSwa) ?_
                              clear hK K hu
                              refine anyX_one 7 (by kernel_rfl) ?_
                              intro oi ho; cases ho; intro K hK
                              (try simp only [Act.put, List.setIfInBounds_toArray, List.set_cons_zero, List.set_cons_succ])
                              go_simp
                              have hu := ccount_any wa G s ra hs hcwa
                              generalize countR ra = y0 at hu HR
                              cases y0 with
                              | bad c kk =>
                                have hr := HR.out
                                simp only [Rd.bind_bad] at hr
                                subst hr
                                refine hu.mono ?_
                                rintro e w' ⟨rfl, hkw⟩
                                go_wp2
                                exact bodyPost_panic rfl ⟨rfl, ((hkr.trans (Keeps.mono hdr (fun _ _ h => h.elim)) (fun _ _ h => h)).trans hkwa (fun _ _ h => h)).trans hkw (fun _ _ h => h)⟩
                              | ok na rb =>
                                have hr := HR.out
                                simp only [Rd.bind_ok] at hr
                                replace HR := Lib.hid hr
                                clear hr
                                refine hu.mono ?_
                                rintro e wb ⟨rfl, hcwb, hkwb⟩
                                have hBwb := hBwa.cursor hkwb hcwb
                                have hSwb : (fun w' : World => w'.cell? ⟨P, 6, none⟩ = some (.slice q.oa q.ops.length q.oc)) wb := hkwb.cell hSwa hPG
                                refine hK _ _ (fun _ => hSwb) ?_
                                clear hK K hu
                                refine anyX_one 9 (by kernel_rfl) ?_
                                intro oi ho; cases ho; intro K hK
                                (try simp only [Act.put, List.setIfInBounds_toArray, List.set_cons_zero, List.set_cons_succ])
                                go_simp
                                have hu := ccount_any wb G s rb hs hcwb
                                generalize countR rb = y0 at hu HR
                                cases y0 with
                                | bad c kk =>
                                  have hr := HR.out
                                  simp only [Rd.bind_bad] at hr
                                  subst hr
                                  refine hu.mono ?_
                                  rintro e w' ⟨rfl, hkw⟩
                                  go_wp2
                                  exact bodyPost_panic rfl ⟨rfl, (((hkr.trans (Keeps.mono hdr (fun _ _ h => h.elim)) (fun _ _ h => h)).trans hkwa (fun _ _ h => h)).trans hkwb (fun _ _ h => h)).trans hkw (fun _ _ h => h)⟩
                                | ok nb rlast =>
                                  have hr := HR.out
                                  simp only [Rd.bind_ok] at hr
                                  replace HR := Lib.hid hr
                                  clear hr
                                  refine hu.mono ?_
                                  rintro e wd ⟨rfl, hcwd, hkwd⟩
                                  have hBwd := hBwb.cursor hkwd hcwd
                                  have hSwd : (fun w' : World => w'.cell? ⟨P, 6, none⟩ = some (.slice q.oa q.ops.length q.oc)) wd := hkwd.cell hSwb hPG
                                  refine hK _ _ (fun _ => hSwd) ?_
                                  clear hK K hu
                                  refine anyX_one 10 (by kernel_rfl) ?_
                                  intro oi ho; cases ho; intro K hK
                                  (try simp only [Act.put, List.setIfInBounds_toArray, List.set_cons_zero, List.set_cons_succ])
                                  go_simp
                                  refine hK _ _ (fun _ => hSwd) ?_
                                  clear hK K
                                  refine anyX_one 11 (by kernel_rfl) ?_
                                  intro oi ho; cases ho; intro K hK
                                  (try simp only [Act.put, List.setIfInBounds_toArray, List.set_cons_zero, List.set_cons_succ])
                                  go_simp
                                  have kbc : New wd (wd.alloc (.cells #[.int .u8 kd, I (na : Int), I (nb : Int)] 24)) := (New.refl wd).alloc _
                                  have hSc : (fun w' : World => w'.cell? ⟨P, 6, none⟩ = some (.slice q.oa q.ops.length q.oc)) (wd.alloc (.cells #[.int .u8 kd, I (na : Int), I (nb : Int)] 24)) := New.cell kbc hSwd
                                  refine hK _ _ (fun _ => hSc) ?_
                                  clear hK K
                                  refine anyX_one 12 (by kernel_rfl) ?_
                                  intro oi ho; cases ho; intro K hK
                                  have hBc := hBwd.new kbc
                                  have hszc : w.heap.size + 1 ≤ (wd.alloc (.cells #[.int .u8 kd, I (na : Int), I (nb : Int)] 24)).heap.size := by have h1 := hdr.size; have h2 := hkwa.size; have h3 := hkwb.size; have h4 := hkwd.size; have h5 := kbc.size; omega
                                  refine step_app rfl _ _ 37 rfl (w.heap.size + 1) 24 io (.agg #[.int .u8 0, .int .i64 0, .int .i64 0]) 3 24 Tryd.underlying37 hio hzo0 hzo1 hzo2 rfl (by decide) q.oa q.ops.length q.oc (q.ops.flatMap opCells) rfl hBc.own.oo (some ⟨wd.heap.size, 0, none⟩) 1 1 (opCells ⟨kd, na, nb⟩) rfl rfl (SlAt.lit wd _ _) (one_op _) (by unfold maxLen; omega) (by omega) hszc ?_
                                  intro ao' c' wc hown' hk' hmv
                                  obtain ⟨⟨hv0, hfz⟩, hBn, hkn'⟩ := hBwd.addOp ⟨kd, na, nb⟩ kbc hown' hk' hmv
                                  have HBn := Lib.hid hBn
                                  have HKn := Lib.hid hkn'
                                  clear hBn hkn'
                                  have hSd : (fun w' : World => w'.cell? ⟨P, 6, none⟩ = some (.slice q.oa q.ops.length q.oc)) wc := hv0
                                  refine hK _ _ (fun _ => hSd) ?_
                                  clear hK K
                                  refine anyX_take 13 (by kernel_rfl) (by kernel_rfl) (by kernel_rfl) (by kernel_rfl) (by kernel_rfl) hSd ?_
                                  intro oi ho; cases ho
                                  refine ⟨?_, fun _ _ _ h => h, Or.inl ⟨by rfl, ?_⟩, ?_⟩; rotate_left 1
                                  · (intro wS hSw; (try dsimp only at hSw); skip; go_simp; try with_reducible rfl)
                                  simp only [Act.put, List.setIfInBounds_toArray, List.set_cons_zero, List.set_cons_succ]
                                  refine anyX_one 14 (by kernel_rfl) ?_
                                  intro oi ho; cases ho; intro K hK
                                  (try simp only [Act.put, List.setIfInBounds_toArray, List.set_cons_zero, List.set_cons_succ])
                                  go_simp
                                  refine hK _ _ (fun hx => by cases hx) ?_
                                  clear hK K
                                  refine anyX_done (by kernel_rfl) ?_
                                  (try simp only [Act.put, List.setIfInBounds_toArray, List.set_cons_zero, List.set_cons_succ])
                                  (try simp only [Exit.then])
                                  go_wp2
                                  have hkw9 : Keeps (fun k => k = G) w (wc.setCell ⟨P, 6, none⟩ (.slice ao' (q.ops.length + 1) c')) := ((((hkr.trans (Keeps.mono hdr (fun _ _ h => h.elim)) (fun _ _ h => h)).trans hkwa (fun _ _ h => h)).trans hkwb (fun _ _ h => h)).trans hkwd (fun _ _ h => h)).trans HKn.out (fun i hi hb => by
                                    rcases hb with rfl | hb
                                    · omega
                                    · have := (own_of_blk hBwd.own.oo hb).1; omega)
                                  have hR9 : (wc.setCell ⟨P, 6, none⟩ (.slice ao' (q.ops.length + 1) c')).heap[w.heap.size]? = some (.cells #[.int .i64 0, .int .i64 0, .int .i64 0, .int .i64 0, .slice none 0 0, .slice none 0 0, .slice none 0 0] 39 (0, 0)) := HKn.out.heap (hkwd.heap (hkwb.heap (hkwa.heap (Keeps.heap hdr hR (fun h => h)) hGR) hGR) hGR) (fun hb => by
                                    rcases hb with hb | hb
                                    · omega
                                    · have := (own_of_blk hBwd.own.oo hb).1; omega)
                                  obtain hq1 := hql
                                  go_roundw
                                  case rel =>
                                    refine ⟨k + 1, { q with oa := ao', oc := c', ops := q.ops ++ [⟨kd, na, nb⟩] }, rlast, by omega, by go_num, HBn.out, ?_, by simp; omega, hR9, hkw9⟩
                                    have h := HR.out
                                    simpa [Pg.bare, OpD.mk.injEq] using h
                                  case measure => simp [intOf]; omega
                          · rw [show n3 - k = 0 by omega, contO_zero] at hres
                            subst hres
                            have hk9 : n3 ≤ k := by omega
                            clear hk hkn
                            have cp0 : wr.cell? ⟨P, 0, none⟩ = some (I q.mem) := by rw [cell_of_block hB.blkP 0]; simp
                            have cr0 := cell_of_block hR 0
                            have zr0 := unfrozen_of_block hR 0
                            simp only [List.getElem?_toArray, List.getElem?_cons_zero, List.getElem?_cons_succ] at cr0
                            have cp1 : wr.cell? ⟨P, 1, none⟩ = some (I q.ctr) := by rw [cell_of_block hB.blkP 1]; simp
                            have cr1 := cell_of_block hR 1
                            have zr1 := unfrozen_of_block hR 1
                            simp only [List.getElem?_toArray, List.getElem?_cons_zero, List.getElem?_cons_succ] at cr1
                            have cp2 : wr.cell? ⟨P, 2, none⟩ = some (I q.ins) := by rw [cell_of_block hB.blkP 2]; simp
                            have cr2 := cell_of_block hR 2
                            have zr2 := unfrozen_of_block hR 2
                            simp only [List.getElem?_toArray, List.getElem?_cons_zero, List.getElem?_cons_succ] at cr2
                            have cp3 : wr.cell? ⟨P, 3, none⟩ = some (I q.outs) := by rw [cell_of_block hB.blkP 3]; simp
                            have cr3 := cell_of_block hR 3
                            have zr3 := unfrozen_of_block hR 3
                            simp only [List.getElem?_toArray, List.getElem?_cons_zero, List.getElem?_cons_succ] at cr3
                            have cp4 : wr.cell? ⟨P, 4, none⟩ = some (.slice q.pa q.parts.length q.pc) := by rw [cell_of_block hB.blkP 4]; simp
                            have cr4 := cell_of_block hR 4
                            have zr4 := unfrozen_of_block hR 4
                            simp only [List.getElem?_toArray, List.getElem?_cons_zero, List.getElem?_cons_succ] at cr4
                            have cp5 : wr.cell? ⟨P, 5, none⟩ = some (.slice q.la q.lines.length q.lc) := by rw [cell_of_block hB.blkP 5]; simp
                            have cr5 := cell_of_block hR 5
                            have zr5 := unfrozen_of_block hR 5
                            simp only [List.getElem?_toArray, List.getElem?_cons_zero, List.getElem?_cons_succ] at cr5
                            have cp6 : wr.cell? ⟨P, 6, none⟩ = some (.slice q.oa q.ops.length q.oc) := by rw [cell_of_block hB.blkP 6]; simp
                            have cr6 := cell_of_block hR 6
                            have zr6 := unfrozen_of_block hR 6
                            simp only [List.getElem?_toArray, List.getElem?_cons_zero, List.getElem?_cons_succ] at cr6
                            have hRP : w.heap.size ≠ P := by omega
                            go_wp2_with fail
                            have b0 := block_setCell (i := 0) hR (I q.mem)
                            have b1 := block_setCell (i := 1) b0 (I q.ctr)
                            have b2 := block_setCell (i := 2) b1 (I q.ins)
                            have b3 := block_setCell (i := 3) b2 (I q.outs)
                            have b4 := block_setCell (i := 4) b3 (.slice q.pa q.parts.length q.pc)
                            have b5 := block_setCell (i := 5) b4 (.slice q.la q.lines.length q.lc)
                            have b6 := block_setCell (i := 6) b5 (.slice q.oa q.ops.length q.oc)
                            have hfk : Keeps (fun k => k = w.heap.size) wr (((((((wr.setCell ⟨w.heap.size, 0, none⟩ (I q.mem)).setCell ⟨w.heap.size, 1, none⟩ (I q.ctr)).setCell ⟨w.heap.size, 2, none⟩ (I q.ins)).setCell ⟨w.heap.size, 3, none⟩ (I q.outs)).setCell ⟨w.heap.size, 4, none⟩ (.slice q.pa q.parts.length q.pc)).setCell ⟨w.heap.size, 5, none⟩ (.slice q.la q.lines.length q.lc)).setCell ⟨w.heap.size, 6, none⟩ (.slice q.oa q.ops.length q.oc)) := (((((((Keeps.refl (fun k => k = w.heap.size) wr).trans (Keeps.setCell (S := fun k => k = w.heap.size) _ ⟨w.heap.size, 0, none⟩ (I q.mem) rfl) (fun _ _ h => h)).trans (Keeps.setCell (S := fun k => k = w.heap.size) _ ⟨w.heap.size, 1, none⟩ (I q.ctr) rfl) (fun _ _ h => h)).trans (Keeps.setCell (S := fun k => k = w.heap.size) _ ⟨w.heap.size, 2, none⟩ (I q.ins) rfl) (fun _ _ h => h)).trans (Keeps.setCell (S := fun k => k = w.heap.size) _ ⟨w.heap.size, 3, none⟩ (I q.outs) rfl) (fun _ _ h => h)).trans (Keeps.setCell (S := fun k => k = w.heap.size) _ ⟨w.heap.size, 4, none⟩ (.slice q.pa q.parts.length q.pc) rfl) (fun _ _ h => h)).trans (Keeps.setCell (S := fun k => k = w.heap.size) _ ⟨w.heap.size, 5, none⟩ (.slice q.la q.lines.length q.lc) rfl) (fun _ _ h => h)).trans (Keeps.setCell (S := fun k => k = w.heap.size) _ ⟨w.heap.size, 6, none⟩ (.slice q.oa q.ops.length q.oc) rfl) (fun _ _ h => h)
                            have hfb : (((((((wr.setCell ⟨w.heap.size, 0, none⟩ (I q.mem)).setCell ⟨w.heap.size, 1, none⟩ (I q.ctr)).setCell ⟨w.heap.size, 2, none⟩ (I q.ins)).setCell ⟨w.heap.size, 3, none⟩ (I q.outs)).setCell ⟨w.heap.size, 4, none⟩ (.slice q.pa q.parts.length q.pc)).setCell ⟨w.heap.size, 5, none⟩ (.slice q.la q.lines.length q.lc)).setCell ⟨w.heap.size, 6, none⟩ (.slice q.oa q.ops.length q.oc)).heap[w.heap.size]? = some (.cells q.cs 39 (0, 0)) := by rw [b6]; simp
                            clear b0 b1 b2 b3 b4 b5 b6
                            generalize (((((((wr.setCell ⟨w.heap.size, 0, none⟩ (I q.mem)).setCell ⟨w.heap.size, 1, none⟩ (I q.ctr)).setCell ⟨w.heap.size, 2, none⟩ (I q.ins)).setCell ⟨w.heap.size, 3, none⟩ (I q.outs)).setCell ⟨w.heap.size, 4, none⟩ (.slice q.pa q.parts.length q.pc)).setCell ⟨w.heap.size, 5, none⟩ (.slice q.la q.lines.length q.lc)).setCell ⟨w.heap.size, 6, none⟩ (.slice q.oa q.ops.length q.oc)) = wf at hfk hfb ⊢
                            have cf0 : wf.cell? ⟨w.heap.size, 0, none⟩ = some (I q.mem) := by rw [cell_of_block hfb 0]; simp
                            have cf1 : wf.cell? ⟨w.heap.size, 1, none⟩ = some (I q.ctr) := by rw [cell_of_block hfb 1]; simp
                            have cf2 : wf.cell? ⟨w.heap.size, 2, none⟩ = some (I q.ins) := by rw [cell_of_block hfb 2]; simp
                            have cf3 : wf.cell? ⟨w.heap.size, 3, none⟩ = some (I q.outs) := by rw [cell_of_block hfb 3]; simp
                            have cf4 : wf.cell? ⟨w.heap.size, 4, none⟩ = some (.slice q.pa q.parts.length q.pc) := by rw [cell_of_block hfb 4]; simp
                            have cf5 : wf.cell? ⟨w.heap.size, 5, none⟩ = some (.slice q.la q.lines.length q.lc) := by rw [cell_of_block hfb 5]; simp
                            have cf6 : wf.cell? ⟨w.heap.size, 6, none⟩ = some (.slice q.oa q.ops.length q.oc) := by rw [cell_of_block hfb 6]; simp
                            have hown : PgOwn wf (w.heap.size + 1) q := hB.own.keeps hfk (Tagged.block hR (by unfold noT; decide))
                            exact bodyPost_ret (v := .agg #[I q.mem, I q.ctr, I q.ins, I q.outs, .slice q.pa q.parts.length q.pc, .slice q.la q.lines.length q.lc, .slice q.oa q.ops.length q.oc]) (by simp [results, Tryd.results23, go_sem, cf0, cf1, cf2, cf3, cf4, cf5, cf6]) rfl ⟨q, rfl, rfl, hown.rebase (by omega), hB.cur.keeps hfk (fun e => hGR e.symm), hkr.trans hfk (fun i hi e => by omega)⟩
                            end Go.Proofs.YtfmpjbiaamkobaaDoor
