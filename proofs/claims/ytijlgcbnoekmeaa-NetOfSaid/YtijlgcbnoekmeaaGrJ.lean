/-
  Layer 8: a map of numbers by names; the checker; name.
-/
import Derived.Test.YtijlgcbnoekmeaaGrI
namespace Go.Proofs.Ytijlgcbnoekmeaa
open Go Go.RowKit Go.Joins
open Go.WideMaps (keyOf_string_mk)
set_option linter.all false

theorem nameKeys : Maps.Keyed Try.prog 9 := Maps.string_keyed Try.underlying9
theorem zeroInt (w : World) : (zeroValue 3).run Try.prog w = .ok (.int .i64 0) w := by kernel_rfl
/-- The map at block M: the number of each name; it has at most n names. -/
def MapAt (w : World) (M n : Nat) (V : ByteArray → Int) : Prop :=
  ∃ D : DataW Unit, w.ownsMap Try.prog 9 (plainElem Try.prog 3) M n D ∧ ∀ s : ByteArray, D.atKey (.string s.data.toList) (.lit (.int .i64 0)) = .lit (.int .i64 (V s))
theorem MapAt.made (w : World) : MapAt (w.alloc (.map #[] 0)) w.heap.size 0 (fun _ => 0) :=
  ⟨_, World.ownsMap_made w _ _ _, fun s => rfl⟩
theorem MapAt.keeps {S : Nat → Prop} {w w' : World} {M n : Nat} {V : ByteArray → Int} (h : MapAt w M n V) (k : Keeps S w w') (hM : ¬ S M) : MapAt w' M n V := by
  obtain ⟨D, ⟨es, clock, hb, F, hs, hD⟩, hV⟩ := h
  exact ⟨D, ⟨es, clock, k.heap hb hM, F, hs, hD⟩, hV⟩
theorem MapAt.new {w w' : World} {M n : Nat} {V : ByteArray → Int} (h : MapAt w M n V) (k : New w w') : MapAt w' M n V := h.keeps k (fun h => h)
theorem MapAt.block {w : World} {M n : Nat} {V : ByteArray → Int} (h : MapAt w M n V) : ∃ es clock, w.heap[M]? = some (.map es clock) := by
  obtain ⟨D, ⟨es, clock, hb, F, hs, hD⟩, hV⟩ := h
  exact ⟨es, clock, hb⟩
theorem MapAt.as {w : World} {M n : Nat} {V V' : ByteArray → Int} (h : MapAt w M n V) (hV : ∀ s, V s = V' s) : MapAt w M n V' := by
  obtain ⟨D, h1, h2⟩ := h
  exact ⟨D, h1, fun s => by rw [h2, hV]⟩
theorem str_list {s t : ByteArray} (h : s.data.toList = t.data.toList) : s = t := by
  cases s; cases t; simp only at h; rw [Array.toList_inj.1 h]

theorem wpList_look {w : World} {ops : Array Oper} {rest : List Oper} {o : Oper} {a : Act} {Q : Exit → Act → World → Prop} {M n : Nat} {V : ByteArray → Int} {s : ByteArray}
    (hgd : o.guard = none) (m x : Operand) (hop : o.op = Op.lookup 107 m x false) (hm : a.eval m = .map (some M)) (hx : a.eval x = .string s) (h : MapAt w M n V) (hs : s.size ≤ 9223372036854775807)
    (hK : wpList Try.prog ops Q rest (a.put o.dst (.int .i64 (V s))) w) : wpList Try.prog ops Q (o :: rest) a w := by
  obtain ⟨D, h1, h2⟩ := h
  refine wpList_lookup_own_int w hgd m x 107 hop 9 3 .i64 nameKeys Try.underlying107 Try.underlying3 (zeroInt _) M n D hm h1 (.string s) (.string s.data.toList) hx (keyOf_string_mk Try.underlying9 (by unfold maxLen; omega)) ?_
  intro c hat _
  rw [h2] at hat
  simp only [DataW.lit.injEq, Lit.int.injEq, true_and] at hat
  rw [← hat]; exact hK
theorem run_look {w : World} {M n : Nat} {V : ByteArray → Int} (s : ByteArray) (h : MapAt w M n V) (hs : s.size ≤ 9223372036854775807) : (Instr.lookup 107 (.map (some M)) (.string s) false).run Try.prog w = .ok (.int .i64 (V s)) w := by
  obtain ⟨D, h1, h2⟩ := h
  obtain ⟨c, hr, hat, _⟩ := h1.lookup_int nameKeys (t := 107) Try.underlying107 Try.underlying3 (zeroInt _) (keyOf_string_mk (s := s) Try.underlying9 (by unfold maxLen; omega))
  rw [h2] at hat
  simp only [DataW.lit.injEq, Lit.int.injEq, true_and] at hat
  rw [hr, hat]
theorem wpList_note {w : World} {ops : Array Oper} {rest : List Oper} {o : Oper} {a : Act} {Q : Exit → Act → World → Prop} {M n : Nat} {V : ByteArray → Int} {s : ByteArray} {v : Int}
    (hgd : o.guard = none) (m x y : Operand) (hop : o.op = Op.mapUpdate 107 m x y) (hm : a.eval m = .map (some M)) (hx : a.eval x = .string s) (hy : a.eval y = .int .i64 v) (h : MapAt w M n V) (hs : s.size ≤ 9223372036854775807) (hn : n < 9223372036854775807)
    (hv : (Lit.int .i64 v).wf = true)
    (hK : ∀ w', MapAt w' M (n + 1) (fun t => if t = s then v else V t) → Keeps (fun k => k = M) w w' → wpList Try.prog ops Q rest (a.put o.dst undef) w') : wpList Try.prog ops Q (o :: rest) a w := by
  obtain ⟨D, h1, h2⟩ := h
  have hkey : keyOf Try.prog 9 (.string s) = some (.string s.data.toList) := keyOf_string_mk Try.underlying9 (by unfold maxLen; omega)
  refine wpList_mapUpdate_own w hgd m x y 107 hop 9 3 nameKeys Try.underlying107 (plainElem Try.prog 3) M n D hm h1 (by unfold maxLen; omega) (.string s) (.int .i64 v) (.string s.data.toList) hx hy hkey (.lit (.int .i64 v)) [] (plainElem_int Try.underlying3 hv) ?_
  intro w' h1' hg
  refine hK w' ⟨_, h1', fun t => ?_⟩ (Keeps.grown hg (fun k e => by cases e; rfl))
  simp only
  by_cases e : t = s
  · subst e
    rw [if_pos rfl]
    exact Maps.atKey_put_same h1.isMap (nameKeys.key hkey) _ _
  · rw [if_neg e, Maps.atKey_put_other (by intro h; simp only [Lit.string.injEq] at h; exact e (str_list h)), h2]

abbrev chkC (g : Gr) (M : Nat) (ia : Option Addr) (ni ic : Nat) (oa : Option Addr) (no oc : Nat) : Array Value :=
  #[.string g.name, .slice g.aa g.acts.length g.ac, .slice g.ea g.edges.length g.ec, .slice g.ia g.ins.length g.ic, .slice g.oa g.outs.length g.oc, .map (some M), .slice ia ni ic, .slice oa no oc]
def hasN (ns : List ByteArray) (s : ByteArray) : Int := if ns.any (fun t => decide (bytesN t = bytesN s)) then 1 else 0
structure Chk (w : World) (B C M : Nat) (g : Gr) (ns : List ByteArray) (ia : Option Addr) (ic : Nat) (IL : List (Nat × List Bool)) (oa : Option Addr) (oc : Nat) (OL : List (Nat × List Bool)) : Prop where
  blk : w.heap[C]? = some (.cells (chkC g M ia IL.length ic oa OL.length oc) 110 (0, 0))
  loC : B ≤ C
  loM : B ≤ M
  nm : MapAt w M ns.length (hasN ns)
  gi : Grid w B ia ic IL
  go : Grid w B oa oc OL
  ta : ∀ k, Go.Proofs.Ytijlgcbnoekmeaa.blk ia k → ¬ Go.Proofs.Ytijlgcbnoekmeaa.blk oa k
  ro : ∀ r ∈ IL, ∀ r' ∈ OL, r.1 ≠ r'.1
theorem Chk.new {w w' : World} {B C M : Nat} {g : Gr} {ns : List ByteArray} {ia : Option Addr} {ic : Nat} {IL : List (Nat × List Bool)} {oa : Option Addr} {oc : Nat} {OL : List (Nat × List Bool)} (h : Chk w B C M g ns ia ic IL oa oc OL) (k : New w w') : Chk w' B C M g ns ia ic IL oa oc OL :=
  ⟨Keeps.heap k h.blk (fun h => h), h.loC, h.loM, h.nm.new k, h.gi.new k, h.go.new k, h.ta, h.ro⟩
theorem chk_cells {w : World} {C : Nat} {a0 a1 a2 a3 a4 a5 a6 a7 : Value} (h : w.heap[C]? = some (.cells #[a0, a1, a2, a3, a4, a5, a6, a7] 110 (0, 0))) :
    (w.cell? ⟨C, 0, none⟩ = some a0 ∧ w.cell? ⟨C, 1, none⟩ = some a1 ∧ w.cell? ⟨C, 2, none⟩ = some a2 ∧ w.cell? ⟨C, 3, none⟩ = some a3 ∧ w.cell? ⟨C, 4, none⟩ = some a4 ∧ w.cell? ⟨C, 5, none⟩ = some a5 ∧ w.cell? ⟨C, 6, none⟩ = some a6 ∧ w.cell? ⟨C, 7, none⟩ = some a7) ∧
    (∀ i, w.frozen? ⟨C, i, none⟩ = false) ∧ C < w.heap.size := by
  refine ⟨⟨?_, ?_, ?_, ?_, ?_, ?_, ?_, ?_⟩, fun i => unfrozen_of_block h i, (Array.getElem?_eq_some_iff.1 h).1⟩
  all_goals rw [cell_of_block h]; rfl
theorem hasN_snoc (ns : List ByteArray) (s t : ByteArray) : hasN (ns ++ [s]) t = if t = s then 1 else hasN ns t := by
  unfold hasN
  rw [List.any_append]
  by_cases e : t = s
  · subst e; simp
  · have : ¬ bytesN s = bytesN t := fun h => e (bytesN_inj.1 h).symm
    simp [e, this]

set_option maxRecDepth 100000 in
set_option maxHeartbeats 4000000 in
theorem cnm_any (w : World) (B C M : Nat) (g : Gr) (ns : List ByteArray) (ia : Option Addr) (ic : Nat) (IL : List (Nat × List Bool)) (oa : Option Addr) (oc : Nat) (OL : List (Nat × List Bool)) (s : ByteArray)
    (h : Chk w B C M g ns ia ic IL oa oc OL) (hs : s.size ≤ 9223372036854775807) (hn : ns.length ≤ 1000) :
    Calls Try.prog 74 #[.pointer (some ⟨C, 0, none⟩), .string s] w fun e w' => e = .returned (I (nameE ns s)) ∧ Chk w' B C M g (if nameE ns s = 0 then ns ++ [s] else ns) ia ic IL oa oc OL ∧ KP B w w' := by
  obtain ⟨⟨_, _, _, _, _, c5, _, _⟩, _, hCl⟩ := chk_cells h.blk
  have HN := cname_any w s hs
  cases e1 : nameB s with
  | false =>
    have hE : nameE ns s = 82 := by unfold nameE; simp [e1]
    rw [hE, if_neg (by decide)]
    rw [e1] at HN
    have HF : ∀ w', New w w' → Chk w' B C M g ns ia ic IL oa oc OL ∧ KP B w w' := fun w' k => ⟨h.new k, KX.of_new k⟩
    clear h e1 hE
    go_enter Try.func74, Try.ntmps74
    go_wp2_with fail
    refine HN.mono ?_
    rintro e w2 ⟨rfl, k2⟩
    go_wp2_with fail
    go_ret
    exact ⟨rfl, HF _ k2⟩
  | true =>
    rw [e1] at HN
    cases e2 : ns.any (fun t => decide (bytesN t = bytesN s)) with
    | true =>
      have hE : nameE ns s = 83 := by unfold nameE; simp [e1, e2]
      have hV : hasN ns s = 1 := by unfold hasN; simp [e2]
      rw [hE, if_neg (by decide)]
      have HF : ∀ w', New w w' → (Chk w' B C M g ns ia ic IL oa oc OL ∧ KP B w w') ∧ MapAt w' M ns.length (hasN ns) := fun w' k => ⟨⟨h.new k, KX.of_new k⟩, h.nm.new k⟩
      clear h e1 e2 hE
      go_enter Try.func74, Try.ntmps74
      go_wp2_with fail
      refine HN.mono ?_
      rintro e w2 ⟨rfl, k2⟩
      obtain ⟨HF1, hm⟩ := HF _ k2
      replace c5 := k2.cell c5
      have hr := run_look s hm hs
      rw [hV] at hr
      clear hV HF hm
      have hCl2 : C < w2.heap.size := Nat.lt_of_lt_of_le hCl k2.size
      go_wp2_with fail
      go_ret
      exact ⟨rfl, HF1⟩
    | false =>
      have hE : nameE ns s = 0 := by unfold nameE; simp [e1, e2]
      have hV : hasN ns s = 0 := by unfold hasN; simp [e2]
      rw [hE, if_pos rfl]
      have HF : ∀ w', New w w' → MapAt w' M ns.length (hasN ns) ∧ (∀ w2, MapAt w2 M (ns.length + 1) (fun t => if t = s then 1 else hasN ns t) → Keeps (fun k => k = M) w' w2 → Chk w2 B C M g (ns ++ [s]) ia ic IL oa oc OL ∧ KP B w w2) := by
        intro w' k
        have h' := h.new k
        obtain ⟨es, clock, hM⟩ := h'.nm.block
        have hne : ∀ {b : Nat} {cs : Array Value} {t : TypeId} {fr : Nat × Nat}, w'.heap[b]? = some (.cells cs t fr) → ¬ b = M := by
          rintro b cs t fr hb rfl
          rw [hM] at hb; cases hb
        refine ⟨h'.nm, fun w2 hm2 k2 => ⟨⟨k2.heap h'.blk (hne h'.blk), h.loC, h.loM, ?_, ?_, ?_, h.ta, h.ro⟩, ?_⟩⟩
        · rw [List.length_append]
          exact hm2.as (fun t => (hasN_snoc ns s t).symm)
        · refine h'.gi.other k2 (fun i hi => ?_) (fun r hr => hne (h'.gi.row r hr))
          obtain ⟨cur, hc⟩ := tab_tag h'.gi.tab (own_blk hi)
          exact hne hc
        · refine h'.go.other k2 (fun i hi => ?_) (fun r hr => hne (h'.go.row r hr))
          obtain ⟨cur, hc⟩ := tab_tag h'.go.tab (own_blk hi)
          exact hne hc
        · refine (KX.of_new k).trans (Keeps.mono k2 ?_)
          rintro i _ rfl
          exact ⟨h.loM, _, hM, rfl⟩
      clear h e1 e2 hE
      go_enter Try.func74, Try.ntmps74
      go_wp2_with fail
      refine HN.mono ?_
      rintro e w2 ⟨rfl, k2⟩
      obtain ⟨hm, HF1⟩ := HF _ k2
      replace c5 := k2.cell c5
      have hr := run_look s hm hs
      rw [hV] at hr
      clear hV HF
      have hCl2 : C < w2.heap.size := Nat.lt_of_lt_of_le hCl k2.size
      go_wp2_with (at_mapUpdate; refine wpList_note rfl _ _ _ rfl rfl rfl rfl hm hs (by omega) (by decide) ?_)
      intro w3 hm3 k3
      have HF2 := HF1 w3 hm3 k3
      clear HF1 hm hm3 hr
      go_wp2_with fail
      go_ret
      exact ⟨rfl, HF2⟩
end Go.Proofs.Ytijlgcbnoekmeaa
