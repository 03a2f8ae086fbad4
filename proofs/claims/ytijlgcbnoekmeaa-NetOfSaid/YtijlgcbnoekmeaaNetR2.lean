/-
  Layer 10: the reference's May, Fire, Counts, Start.
-/
import Derived.Test.YtijlgcbnoekmeaaNetR
import Derived.Deep.OwnRows
namespace Go.Proofs.Ytijlgcbnoekmeaa
open Go Go.RowKit
set_option linter.all false

theorem hl_new' (w : World) (o : Obj) (k : Nat) (h : k = w.heap.size) : (w.alloc o).heap[k]? = some o := by subst h; exact heap_alloc_new w o
theorem hl_old' {w : World} {o x : Obj} {k : Nat} (h : w.heap[k]? = some x) : (w.alloc o).heap[k]? = some x := (Below.heap_alloc w o k (Array.getElem?_eq_some_iff.1 h).1).trans h
theorem own_get' {w : World} {B g n c size : Nat} {e : TypeId} {xs : List Value} (h : w.ownsRow B e size (.slice (some ⟨g, 0, none⟩) n c) n xs) {j : Nat} (hj : j < n * size) : ∃ v, w.cell? ⟨g, j, none⟩ = some v := by
  rw [h.cellAt j (by omega)]
  exact ⟨_, List.getElem?_eq_getElem (by rw [h.1]; omega)⟩

set_option maxHeartbeats 1000000 in
theorem refMay_any (w : World) (nodes : Nat) (arcs : List ArcD) (ao : Option Addr) (c lo bf : Nat) (s : Mark) (v : Int) (hs : Sound nodes arcs) (h : Rs w nodes arcs ao lo bf s.fired) (he : EqnW arcs s) :
    Calls Try.prog 35 #[refV nodes arcs ao c bf, I v] w fun e w' => e = .returned (.bool (mayS arcs nodes s.toks v)) ∧ New w w' := by
  unfold refV
  by_cases hv : 0 ≤ v ∧ v < nodes
  · have hsh : mayS arcs nodes s.toks v = decide (shortS arcs nodes s.toks v < 0) := by unfold mayS; rw [decide_eq_true hv]; rfl
    have HS := Lib.hid hsh
    have hd : decide ((0 : Int) ≤ v ∧ v < (nodes : Int)) = true := by simpa using hv
    have hc : ∀ w1, New w w1 → Calls Try.prog 36 #[.agg #[I nodes, .slice ao arcs.length c, .slice (some ⟨bf, 0, none⟩) nodes nodes], I v] w1 fun e w' => e = .returned (I (shortS arcs nodes s.toks v)) ∧ New w1 w' :=
      fun w1 k => refShort_any w1 nodes arcs ao c lo bf s v hs (h.new k) he
    clear hsh hv he h
    generalize shortS arcs nodes s.toks v = sh at HS hc
    go_enter Try.func35, Try.ntmps35
    go_wp2_with fail
    refine (refNode_any nodes v _ _ rfl).mono ?_
    rintro e w1 ⟨rfl, n1⟩
    have b0 := n1.cell (p := ⟨w.heap.size, 0, none⟩) (v := I nodes) (by simp)
    have b1 := n1.cell (p := ⟨w.heap.size, 1, none⟩) (v := .slice ao arcs.length c) (by simp)
    have b2 := n1.cell (p := ⟨w.heap.size, 2, none⟩) (v := .slice (some ⟨bf, 0, none⟩) nodes nodes) (by simp)
    have hn := ((New.refl w).alloc _).trans n1
    go_wp2_with fail
    refine (hc _ hn).mono ?_
    rintro e w2 ⟨rfl, n2⟩
    go_wp2
    go_ret
    rw [HS.out]
    exact ⟨rfl, hn.trans n2⟩
  · have hsh : mayS arcs nodes s.toks v = false := by unfold mayS; rw [decide_eq_false hv]; rfl
    have HS := Lib.hid hsh
    have hd : decide ((0 : Int) ≤ v ∧ v < (nodes : Int)) = false := by simpa using hv
    clear hsh hv he h
    go_enter Try.func35, Try.ntmps35
    go_wp2_with fail
    refine (refNode_any nodes v _ _ rfl).mono ?_
    rintro e w1 ⟨rfl, n1⟩
    have hn := ((New.refl w).alloc _).trans n1
    go_wp2
    go_ret
    rw [HS.out]
    exact ⟨rfl, hn⟩

theorem Rs.store {w : World} {nodes : Nat} {arcs : List ArcD} {ao : Option Addr} {lo bf : Nat} {F : List Int} (h : Rs w nodes arcs ao lo bf F) (i : Nat) (x : Int) :
    Rs (w.setCell ⟨bf, i, none⟩ (I x)) nodes arcs ao lo bf (F.set i x) ∧ Keeps (fun k => k = bf) w (w.setCell ⟨bf, i, none⟩ (I x)) := by
  have k : Keeps (fun k => k = bf) w (w.setCell ⟨bf, i, none⟩ (I x)) := Keeps.setCell w ⟨bf, i, none⟩ _ rfl
  refine ⟨⟨?_, ?_, h.sep⟩, k⟩
  · by_cases hne : arcs = []
    · subst hne; exact SlAt.nil _ _
    · exact h.hx.keeps k (fun a ha => h.sep a ha hne)
  rw [show Is (F.set i x) = (Is F).set i (I x) by simp [List.map_set]]
  exact (h.hf.stored i (I x)).1

set_option maxRecDepth 100000 in
set_option maxHeartbeats 2000000 in
theorem refFire_any (w : World) (nodes : Nat) (arcs : List ArcD) (ao vo : Option Addr) (c cv lo bf : Nat) (s : Mark) (vs : List Int) (hs : Sound nodes arcs) (h : Rs w nodes arcs ao lo bf s.fired) (hf : Fits nodes arcs s) (he : EqnW arcs s) (hw : ∀ x ∈ s.fired, wrap64 x = x)
    (hxv : SlAt w vo (Is vs)) (hsep : ∀ a, vo = some a → a.block ≠ bf) (hvl : vs.length ≤ 9000000000000000000) :
    Calls Try.prog 21 #[refV nodes arcs ao c bf, .slice vo vs.length cv] w fun e w' => e = .returned (I ((fireW arcs nodes s vs).1 : Int)) ∧ Rs w' nodes arcs ao lo bf (fireW arcs nodes s vs).2.fired ∧ Keeps (fun k => k = bf) w w' := by
  unfold refV
  have hbf := (World.ownsRow.lt h.hf bf rfl).2
  have hn := hs.n2
  have HI := Lib.hid (And.intro hf (And.intro he hw))
  clear hf he hw
  go_enter Try.func21, Try.ntmps21
  go_wp2
  go_loopw [5] (fun i wr => ∃ k : Nat, k ≤ vs.length ∧ i = .int .i64 k ∧ ∃ sk, Rs wr nodes arcs ao lo bf sk.fired ∧ Fits nodes arcs sk ∧ EqnW arcs sk ∧ (∀ x ∈ sk.fired, wrap64 x = x) ∧ Keeps (fun k => k = bf) (w.alloc (.cells #[I nodes, .slice ao arcs.length c, .slice (some ⟨bf, 0, none⟩) nodes nodes] 39)) wr ∧
    (fireW arcs nodes s vs).1 = k + (fireW arcs nodes sk (vs.drop k)).1 ∧ (fireW arcs nodes s vs).2 = (fireW arcs nodes sk (vs.drop k)).2) (fun i _ => vs.length - (intOf i).toNat)
  case atStart => exact ⟨0, by omega, rfl, s, h.new (Keeps.alloc _ _), HI.out.1, HI.out.2.1, HI.out.2.2, Keeps.refl _ _, by simp, by simp⟩
  case round =>
    obtain ⟨k, hk, rfl, sk, hrs, hfk, hek, hwk, hkp, e1, e2⟩ := hrel
    have HE := Lib.hid (And.intro e1 e2)
    have HK := Lib.hid (And.intro hfk (And.intro hek hwk))
    clear e1 e2 hfk hek hwk
    have hkw : Keeps (fun k => k = bf) w wr := (Keeps.alloc (S := fun k => k = bf) w _).trans hkp (fun _ _ h => h)
    by_cases hk1 : k < vs.length
    · have hb0 := hkp.cell (p := ⟨w.heap.size, 0, none⟩) (v := I nodes) (by simp) (by simp only; omega)
      have hb1 := hkp.cell (p := ⟨w.heap.size, 1, none⟩) (v := .slice ao arcs.length c) (by simp) (by simp only; omega)
      have hb2 := hkp.cell (p := ⟨w.heap.size, 2, none⟩) (v := .slice (some ⟨bf, 0, none⟩) nodes nodes) (by simp) (by simp only; omega)
      have hsz := hkp.size
      obtain ⟨b0, o0, rfl, q0⟩ := Is_at (hxv.keeps hkw (fun a ha => hsep a ha)) hk1
      have hdrop : vs.drop k = vs[k] :: vs.drop (k + 1) := List.drop_eq_getElem_cons hk1
      generalize hvk : vs[k] = v at q0 hdrop
      have HD := Lib.hid hdrop
      clear hdrop hvk
      have hk0 : (k : Int) < (vs.length : Int) := by omega
      have hcall : ∀ w1, New wr w1 → Calls Try.prog 35 #[.agg #[I nodes, .slice ao arcs.length c, .slice (some ⟨bf, 0, none⟩) nodes nodes], I v] w1 fun e w' => e = .returned (.bool (mayS arcs nodes sk.toks v)) ∧ New w1 w' :=
        fun w1 k => refMay_any w1 nodes arcs ao c lo bf sk v hs (hrs.new k) HK.out.2.1
      go_wp2_with fail
      go_region_held3 (fun w' => w'.cell? ⟨w.heap.size, 0, none⟩ = some (I nodes) ∧ w'.cell? ⟨w.heap.size, 1, none⟩ = some (.slice ao arcs.length c) ∧ w'.cell? ⟨w.heap.size, 2, none⟩ = some (.slice (some ⟨bf, 0, none⟩) nodes nodes) ∧ w'.cell? ⟨b0, o0 + k, none⟩ = some (I v))
        ((first | (refine ⟨New.cell (w := wr) ?_ hb0, New.cell (w := wr) ?_ hb1, New.cell (w := wr) ?_ hb2, New.cell (w := wr) ?_ q0⟩ <;> (repeat (first | exact New.refl wr | refine New.drew ?_ | refine New.trans ?_ hN2)))))
        ((go_at_call 35; refine (hcall _ ((New.refl wr).drew)).mono ?_; rintro e w2 ⟨rfl, hN2⟩))
      have hn2 : New wr w2 := ((New.refl wr).drew).trans hN2
      have hrs2 := hrs.new hn2
      have hkp2 := hkp.trans hn2 (fun _ _ h => h.elim)
      have hkw2 := hkw.trans hn2 (fun _ _ h => h.elim)
      have hb2' := hn2.cell hb2
      have q0' := hn2.cell q0
      clear hrs hkp hkw hcall hb0 hb1 hb2 q0 hN2
      simp only [Exit.then]
      go_wp2
      · have hno : (!mayS arcs nodes sk.toks v) = true := by assumption
        have hno' : mayS arcs nodes sk.toks v = false := by simpa using hno
        have HN := Lib.hid hno'
        clear hno hno'
        go_ret
        obtain ⟨e1, e2⟩ := HE.out
        rw [HD.out] at e1 e2
        simp only [fireW, HN.out, Bool.false_eq_true, if_false] at e1 e2
        exact ⟨ret_i (by omega), by rw [e2]; exact hrs2, hkw2⟩
      · have hno : (!mayS arcs nodes sk.toks v) = false := by assumption
        have hyes : mayS arcs nodes sk.toks v = true := by simpa using hno
        obtain ⟨⟨hv0, hv1⟩, hmay⟩ := (mayS_iff _ _ _ _).1 hyes
        obtain ⟨u, rfl⟩ := Int.eq_ofNat_of_zero_le hv0
        have hu : u < nodes := by omega
        have HY := Lib.hid hyes
        clear hno hyes hmay hv0
        have ht := hrs2.fir hu
        have hfz := hrs2.hf.frozenAt u
        have hnx := hrs2.store u (wrap64 (sk.fired.getD u 0 + 1))
        have hfire : (fireOneW arcs sk u).fired = sk.fired.set u (wrap64 (sk.fired.getD u 0 + 1)) := rfl
        rw [← hfire] at hnx
        have HX := Lib.hid hnx
        clear hfire hnx
        generalize sk.fired.getD u 0 = fu at ht HX
        have hwr : IntKind.i64.wrap (fu + 1) = wrap64 (fu + 1) := IntWalk.i64_left _
        go_region
        go_wp2
        obtain ⟨e1, e2⟩ := HE.out
        rw [HD.out] at e1 e2
        simp only [fireW, HY.out, if_true, Int.toNat_natCast] at e1 e2
        obtain ⟨hX1, hX2⟩ := HX.out
        go_roundw
        case rel => exact ⟨k + 1, by omega, by go_num, fireOneW arcs sk u, hX1.new (Keeps.drew _), fitsW_one HK.out.1 u, eqnW_one hs HK.out.1 HK.out.2.1 hu HK.out.2.2, wf_one HK.out.2.2 u, (hkp2.trans hX2 (fun _ _ h => h)).trans (Keeps.drew (S := fun k => k = bf) _) (fun _ _ h => h), by rw [e1]; omega, e2⟩
        case measure => simp [intOf]; omega
    · have hke : vs.drop k = [] := List.drop_of_length_le (by omega)
      have HQ := Lib.hid hke
      clear hke
      go_wp2
      go_ret
      obtain ⟨e1, e2⟩ := HE.out
      rw [HQ.out] at e1 e2
      simp only [fireW, Nat.add_zero] at e1 e2
      exact ⟨ret_i (by omega), by rw [e2]; exact hrs, hkw⟩

/-- The first k of a list, nought behind them. -/
def upTo (l : List Int) (k : Nat) : List Int := l.take k ++ List.replicate (l.length - k) 0
theorem upTo_set (l : List Int) (k : Nat) (hk : k < l.length) : (upTo l k).set k (l.getD k 0) = upTo l (k + 1) := by
  obtain ⟨m, hm⟩ : ∃ m, l.length - k = m + 1 := ⟨l.length - k - 1, by omega⟩
  have hm2 : l.length - (k + 1) = m := by omega
  have e1 : upTo l (k + 1) = l.take k ++ (l.getD k 0 :: List.replicate m 0) := by
    unfold upTo
    rw [hm2, List.take_succ_eq_append_getElem hk, List.append_assoc, List.getD_eq_getElem?_getD, List.getElem?_eq_getElem hk]; rfl
  rw [e1]
  unfold upTo
  rw [hm, List.replicate_succ, List.set_append_right _ _ (by simp; omega)]
  simp [Nat.min_eq_left (Nat.le_of_lt hk)]
theorem upTo_zero (l : List Int) : upTo l 0 = List.replicate l.length 0 := by simp [upTo]
theorem upTo_all (l : List Int) : upTo l l.length = l := by simp [upTo]

set_option maxRecDepth 100000 in
set_option maxHeartbeats 1000000 in
theorem refCounts_any (w : World) (nodes : Nat) (arcs : List ArcD) (ao : Option Addr) (c lo bf : Nat) (s : Mark) (hs : Sound nodes arcs) (h : Rs w nodes arcs ao lo bf s.fired) (hf : Fits nodes arcs s) (he : EqnW arcs s) :
    Calls Try.prog 33 #[refV nodes arcs ao c bf] w fun e w' => ∃ g, e = .returned (.slice (some ⟨g, 0, none⟩) arcs.length arcs.length) ∧ w'.ownsRow w.heap.size 3 1 (.slice (some ⟨g, 0, none⟩) arcs.length arcs.length) arcs.length (Is s.toks) ∧ New w w' := by
  unfold refV
  have hm := hs.m
  have HF := Lib.hid hf
  have HE := Lib.hid he
  clear hf he
  obtain ⟨i0, hi, hz0, hz1, hz2⟩ := info_parts Try.infoInt
  have hmk := run_make_row' (P := Try.prog) 37 3 (.int .i64 0) 8 Try.underlying37 Try.infoInt rfl .i64 .i64 arcs.length (by omega) (by omega)
  go_enter Try.func33, Try.ntmps33
  go_wp2
  have hlen : s.toks.length = arcs.length := HF.out.t
  have HL := Lib.hid hlen
  have k2 : New w ((w.alloc (.cells #[I nodes, .slice ao arcs.length c, .slice (some ⟨bf, 0, none⟩) nodes nodes] 39)).alloc (.cells (madeCells #[.int .i64 0] arcs.length) 3)) := ((New.refl w).alloc _).alloc _
  have hrow : ((w.alloc (.cells #[I nodes, .slice ao arcs.length c, .slice (some ⟨bf, 0, none⟩) nodes nodes] 39)).alloc (.cells (madeCells #[.int .i64 0] arcs.length) 3)).ownsRow w.heap.size 3 1 (.slice (some ⟨w.heap.size + 1, 0, none⟩) arcs.length arcs.length) arcs.length (Is (upTo s.toks 0)) := by
    rw [upTo_zero, hlen]
    exact ⟨by simp, .inr ⟨w.heap.size + 1, arcs.length, _, rfl, by omega, hl_new' _ _ _ (by simp), Nat.le_refl _, by unfold maxLen; omega, by rw [← Array.length_toList, toList_madeCells_one]; simp, by rw [toList_madeCells_one]; simp⟩⟩
  have b0 : ((w.alloc (.cells #[I nodes, .slice ao arcs.length c, .slice (some ⟨bf, 0, none⟩) nodes nodes] 39)).alloc (.cells (madeCells #[.int .i64 0] arcs.length) 3)).cell? ⟨w.heap.size, 0, none⟩ = some (I nodes) := by rw [World.cell?_alloc_past _ _ _ (by simp)]; simp
  have b1 : ((w.alloc (.cells #[I nodes, .slice ao arcs.length c, .slice (some ⟨bf, 0, none⟩) nodes nodes] 39)).alloc (.cells (madeCells #[.int .i64 0] arcs.length) 3)).cell? ⟨w.heap.size, 1, none⟩ = some (.slice ao arcs.length c) := by rw [World.cell?_alloc_past _ _ _ (by simp)]; simp
  have b2 : ((w.alloc (.cells #[I nodes, .slice ao arcs.length c, .slice (some ⟨bf, 0, none⟩) nodes nodes] 39)).alloc (.cells (madeCells #[.int .i64 0] arcs.length) 3)).cell? ⟨w.heap.size, 2, none⟩ = some (.slice (some ⟨bf, 0, none⟩) nodes nodes) := by rw [World.cell?_alloc_past _ _ _ (by simp)]; simp
  clear hlen hmk
  generalize ((w.alloc (.cells #[I nodes, .slice ao arcs.length c, .slice (some ⟨bf, 0, none⟩) nodes nodes] 39)).alloc (.cells (madeCells #[.int .i64 0] arcs.length) 3)) = W2 at *
  go_loopw [4] (fun i wr => ∃ k : Nat, k ≤ arcs.length ∧ i = .int .i64 k ∧ wr.ownsRow w.heap.size 3 1 (.slice (some ⟨w.heap.size + 1, 0, none⟩) arcs.length arcs.length) arcs.length (Is (upTo s.toks k)) ∧ Keeps (fun x => x = w.heap.size + 1) W2 wr) (fun i _ => arcs.length - (intOf i).toNat)
  case atStart => exact ⟨0, by omega, rfl, hrow, Keeps.refl _ _⟩
  case round =>
    clear hrow
    obtain ⟨k, hk, rfl, hrow, hkp⟩ := hrel
    have hnw : New w wr := k2.keeps hkp (fun i hi e => by omega)
    by_cases hk1 : k < arcs.length
    · have c0 := hkp.cell b0 (by simp)
      have c1 := hkp.cell b1 (by simp)
      have c2 := hkp.cell b2 (by simp)
      have hcall : ∀ w1, New w w1 → Calls Try.prog 44 #[.agg #[I nodes, .slice ao arcs.length c, .slice (some ⟨bf, 0, none⟩) nodes nodes], I k] w1 fun e w' => e = .returned (I (s.toks.getD k 0)) ∧ New w1 w' := by
        intro w1 hn1
        have := refHas_any w1 nodes arcs ao c lo bf s.fired k hs (h.new hn1) hk1
        rw [← HE.out k hk1] at this
        exact this
      have hup := upTo_set s.toks k (by rw [HL.out]; exact hk1)
      have HU := Lib.hid hup
      clear hup
      generalize s.toks.getD k 0 = tk at hcall HU
      have hk0 : (k : Int) < (arcs.length : Int) := by omega
      go_wp2_with fail
      refine (hcall _ hnw).mono ?_
      rintro e w2 ⟨rfl, hN2⟩
      have hrow2 := hN2.owns hrow
      have hkp2 := hkp.trans hN2 (fun _ _ h => h.elim)
      have hst := hrow2.stored k (.int .i64 tk)
      have hfz := hrow2.frozenAt k
      have hcell : ∃ v, w2.cell? ⟨w.heap.size + 1, k, none⟩ = some v := own_get' hrow2 (by omega)
      obtain ⟨v, hv⟩ := hcell
      have hks : Keeps (fun x => x = w.heap.size + 1) W2 (w2.setCell ⟨w.heap.size + 1, k, none⟩ (.int .i64 tk)) := hkp2.trans (Keeps.setCell (S := fun x => x = w.heap.size + 1) w2 ⟨w.heap.size + 1, k, none⟩ _ rfl) (fun _ _ h => h)
      have hrow3 := hst.1
      rw [show (Is (upTo s.toks k)).set k (.int .i64 tk) = Is ((upTo s.toks k).set k tk) by simp [List.map_set], HU.out] at hrow3
      have H3 := Lib.hid (And.intro hrow3 hks)
      clear hrow hkp hrow2 hkp2 hst hrow3 hks hcall c0 c1 c2
      go_wp2
      go_roundw
      case rel => exact ⟨k + 1, by omega, by go_num, H3.out.1, H3.out.2⟩
      case measure => simp [intOf]; omega
    · have hke : k = s.toks.length := by rw [HL.out]; omega
      rw [hke, upTo_all] at hrow
      have HR := Lib.hid hrow
      clear hrow hke
      go_wp2
      go_ret
      exact ⟨_, rfl, HR.out, hnw⟩

theorem refStart_any (w : World) (nodes : Nat) (arcs : List ArcD) (ao : Option Addr) (c : Nat) (hn : nodes ≤ 32) (hx : SlAt w ao (arcsCells arcs)) :
    Calls Try.prog 17 #[.agg #[I nodes, .slice ao arcs.length c]] w fun e w' => ∃ bf, e = .returned (refV nodes arcs ao c bf) ∧ Rs w' nodes arcs ao w.heap.size bf (List.replicate nodes 0) ∧ New w w' := by
  have hmk := run_make_row' (P := Try.prog) 37 3 (.int .i64 0) 8 Try.underlying37 Try.infoInt rfl .i64 .i64 nodes (by omega) (by omega)
  go_enter Try.func17, Try.ntmps17
  go_wp2
  go_region
  simp only [Exit.then]
  go_wp2
  have kw : New w ((((w.alloc (.cells #[I nodes, .slice ao arcs.length c] 24)).alloc (.cells #[.int .i64 nodes, .slice ao arcs.length c, .slice (some ⟨w.heap.size + 1 + 1, 0, none⟩) nodes nodes] 39)).alloc (.cells (madeCells #[.int .i64 0] nodes) 3)).drew) := ((((New.refl w).alloc _).alloc _).alloc _).drew
  have hb : ((((w.alloc (.cells #[I nodes, .slice ao arcs.length c] 24)).alloc (.cells #[.int .i64 nodes, .slice ao arcs.length c, .slice (some ⟨w.heap.size + 1 + 1, 0, none⟩) nodes nodes] 39)).alloc (.cells (madeCells #[.int .i64 0] nodes) 3)).drew).heap[w.heap.size + 1]? = some (.cells #[.int .i64 nodes, .slice ao arcs.length c, .slice (some ⟨w.heap.size + 1 + 1, 0, none⟩) nodes nodes] 39) :=
    hl_old' (hl_new' _ _ _ (by simp))
  have hr : ((((w.alloc (.cells #[I nodes, .slice ao arcs.length c] 24)).alloc (.cells #[.int .i64 nodes, .slice ao arcs.length c, .slice (some ⟨w.heap.size + 1 + 1, 0, none⟩) nodes nodes] 39)).alloc (.cells (madeCells #[.int .i64 0] nodes) 3)).drew).heap[w.heap.size + 1 + 1]? = some (.cells (madeCells #[.int .i64 0] nodes) 3) := hl_new' _ _ _ (by simp)
  generalize ((((w.alloc (.cells #[I nodes, .slice ao arcs.length c] 24)).alloc (.cells #[.int .i64 nodes, .slice ao arcs.length c, .slice (some ⟨w.heap.size + 1 + 1, 0, none⟩) nodes nodes] 39)).alloc (.cells (madeCells #[.int .i64 0] nodes) 3)).drew) = W at kw hb hr ⊢
  have e0 : W.cell? ⟨w.heap.size + 1, 0, none⟩ = some (.int .i64 nodes) := by simp only [World.cell?, hb]; rfl
  have e1 : W.cell? ⟨w.heap.size + 1, 1, none⟩ = some (.slice ao arcs.length c) := by simp only [World.cell?, hb]; rfl
  have e2 : W.cell? ⟨w.heap.size + 1, 2, none⟩ = some (.slice (some ⟨w.heap.size + 1 + 1, 0, none⟩) nodes nodes) := by simp only [World.cell?, hb]; rfl
  have hNN : nodes ≤ maxLen := by unfold maxLen; omega
  refine bodyPost_ret (v := refV nodes arcs ao c (w.heap.size + 1 + 1)) ?_ rfl ⟨_, rfl, ⟨hx.new kw, ⟨by simp, .inr ⟨w.heap.size + 1 + 1, nodes, _, rfl, by omega, hr, Nat.le_refl _, hNN, by rw [← Array.length_toList, toList_madeCells_one]; simp, by rw [toList_madeCells_one]; simp⟩⟩, ?_⟩, kw⟩
  · simp [results, Try.results17, go_sem, e0, e1, e2]
  · intro a ha hne e
    obtain ⟨b, off, hb, q, _⟩ := arcs_at hx (i := 0) (List.length_pos_iff.2 hne)
    rw [ha] at hb; cases hb
    have := World.block_lt_of_cell? w _ q
    simp only at this e; omega
end Go.Proofs.Ytijlgcbnoekmeaa
