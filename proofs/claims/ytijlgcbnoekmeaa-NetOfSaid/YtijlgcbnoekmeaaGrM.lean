/-
  Layer 8: the checker's actors.
-/
import Derived.Test.YtijlgcbnoekmeaaGrL
namespace Go.Proofs.Ytijlgcbnoekmeaa
open Go Go.RowKit Go.Joins
set_option linter.all false

/-- append, in a region. -/
theorem step_app {P : Program} {w : World} {ops : Array Oper} {o : Oper} {a : Act} {K : Act → World → Prop} {Q : Exit → Act → World → Prop} {E : Prop} {dec : Decidable (Region.wanted o (yielded ops a.tmps) = true)} (hgd : o.guard = none) (s x : Operand) (t : TypeId)
    (ho : o.op = .call { callee := .builtin .append, args := #[s, x], argTypes := #[t, t] })
    (base : Nat) (e : TypeId) (i : TypeInfo) (z : Value) (size bytes : Nat) (ht : P.underlying t = some (.slice e)) (hi : P.info? e = some i) (hz : i.zero = some z)
    (hsize : i.size = size) (hby : i.bytes = bytes) (hzs : z.cells.size = size) (hsz : 0 < size)
    (ao : Option Addr) (n c : Nat) (xs : List Value) (hs : a.eval s = .slice ao n c) (hown : w.ownsRow base e size (.slice ao n c) n xs)
    (ad : Option Addr) (m cc : Nat) (news : List Value) (hx : a.eval x = .slice ad m cc) (hl : news.length = m * size) (hat : SlAt w ad news) (h1 : ∀ u ∈ news, u.oneCell' = true)
    (h63 : n + m ≤ maxLen) (hbytes : (n + m) * bytes ≤ 140737488355328) (hbase : base ≤ w.heap.size)
    (h : ∀ ao' c' w', w'.ownsRow base e size (.slice ao' (n + m) c') (n + m) (xs ++ news) → Keeps (blk ao) w w' → Moved w ao ao' → K (a.put o.dst (.slice ao' (n + m) c')) w') :
    @ite Prop (Region.wanted o (yielded ops a.tmps) = true) dec (Oper.wp P o a w K Q) E := by
  have hw : Region.wanted o (yielded ops a.tmps) = true := by simp [Region.wanted, hgd]
  rw [if_pos hw]
  obtain ⟨ao', c', w', hr, h2, h3, h4, _⟩ := run_app (P := P) w base t o.type e i z size bytes ht hi hz hsize hby hzs hsz ao n c xs hown ad m cc news hl hat h1 h63 hbytes hbase
  unfold Oper.wp execOp
  simp only [ho, resolve, invoke, builtin, Sem.run_bind, Sem.run_pure, Result.andThen_ok, List.map_toArray, List.map_cons, List.map_nil, hs, hx, hr]
  exact h ao' c' w' h2 h3 h4

theorem made_false (n : Nat) : madeCells (Value.bool false).cells (n * 1) = (List.replicate n (Value.bool false)).toArray := by
  apply Array.ext
  · simp [size_madeCells]
  · intro i h1 h2
    simp [madeCells, Value.cells, Nat.mod_one]
/-- make([]bool, n), in a region. -/
theorem step_bools {w : World} {ops : Array Oper} {o : Oper} {a : Act} {K : Act → World → Prop} {Q : Exit → Act → World → Prop} {E : Prop} {dec : Decidable (Region.wanted o (yielded ops a.tmps) = true)} (hgd : o.guard = none) (l c : Operand) (ho : o.op = Op.makeSlice 122 l c)
    (n : Nat) (hl : a.eval l = I n) (hc : a.eval c = I n) (hn : n ≤ 1000)
    (h : K (a.put o.dst (.slice (some ⟨w.heap.size, 0, none⟩) n n)) (w.alloc (.cells (List.replicate n (Value.bool false)).toArray 4))) :
    @ite Prop (Region.wanted o (yielded ops a.tmps) = true) dec (Oper.wp Try.prog o a w K Q) E := by
  have hw : Region.wanted o (yielded ops a.tmps) = true := by simp [Region.wanted, hgd]
  rw [if_pos hw]
  obtain ⟨i, hi, hz0, hz1, hz2⟩ := info_parts (show (Try.prog.info? 4).map (fun i => (i.zero, i.size, i.bytes)) = some (some (.bool false), 1, 1) by kernel_rfl)
  have hr := run_make (P := Try.prog) (w := w) 122 4 i (.bool false) Try.underlying122 hi hz0 .i64 .i64 (n : Int) (n : Int) (by omega) (Int.le_refl _) (by rw [hz2]; omega) (by omega)
  simp only [Int.toNat_natCast, hz1, made_false] at hr
  unfold Oper.wp execOp
  simp only [ho, Sem.run_bind, Sem.run_pure, Result.andThen_ok, hl, hc, hr]
  exact h
theorem act_cells {w : World} {C : Nat} {a0 a1 a2 : Value} (h : w.heap[C]? = some (.cells #[a0, a1, a2] 85 (0, 0))) :
    w.cell? ⟨C, 0, none⟩ = some a0 ∧ w.cell? ⟨C, 1, none⟩ = some a1 ∧ w.cell? ⟨C, 2, none⟩ = some a2 ∧ C < w.heap.size := by
  refine ⟨?_, ?_, ?_, (Array.getElem?_eq_some_iff.1 h).1⟩
  all_goals rw [cell_of_block h]; rfl
theorem infoRow : (Try.prog.info? 122).map (fun i => (i.zero, i.size, i.bytes)) = some (some (.slice none 0 0), 1, 24) := by kernel_rfl
theorem moved_blk {w : World} {a a' : Option Addr} (h : Moved w a a') {k : Nat} (hk : blk a' k) : blk a k ∨ w.heap.size ≤ k := by
  rcases h with rfl | ⟨g, rfl, hg⟩
  · exact .inl hk
  · obtain ⟨y, hy, rfl⟩ := hk; cases hy; exact .inr hg
theorem Chk.addI {w w1 w2 : World} {B C M : Nat} {g : Gr} {ns : List ByteArray} {ia : Option Addr} {ic : Nat} {IL : List (Nat × List Bool)} {oa : Option Addr} {oc : Nat} {OL : List (Nat × List Bool)} (h : Chk w B C M g ns ia ic IL oa oc OL) (hB : B ≤ w.heap.size) {n R c' : Nat} {a' : Option Addr} (k1 : New w w1) (hR : w1.heap[R]? = some (.cells (List.replicate n (Value.bool false)).toArray 4 (0, 0))) (hRn : w.heap.size ≤ R)
    (hown : w2.ownsRow B 122 1 (.slice a' (IL.length + 1) c') (IL.length + 1) (IL.map rowV ++ [.slice (some ⟨R, 0, none⟩) n n])) (hk : Keeps (Go.Proofs.Ytijlgcbnoekmeaa.blk ia) w1 w2) (hm : Moved w1 ia a') :
    (w2.cell? ⟨C, 6, none⟩ = some (.slice ia IL.length ic) ∧ w2.frozen? ⟨C, 6, none⟩ = false ∧ C < w2.heap.size) ∧ Chk (w2.setCell ⟨C, 6, none⟩ (.slice a' (IL.length + 1) c')) B C M g ns a' c' (IL ++ [(R, List.replicate n false)]) oa oc OL ∧ KB B w (w2.setCell ⟨C, 6, none⟩ (.slice a' (IL.length + 1) c')) := by
  have h1 := h.new k1
  have htag : ∀ i, Go.Proofs.Ytijlgcbnoekmeaa.blk ia i → B ≤ i ∧ ∃ cur, w1.heap[i]? = some (.cells cur 122 (0, 0)) := fun i hi => ⟨(own_of_blk h1.gi.tab hi).1, tab_tag h1.gi.tab (own_blk hi)⟩
  have hnb : ∀ {b : Nat} {cs : Array Value} {t : TypeId} {fr : Nat × Nat}, w1.heap[b]? = some (.cells cs t fr) → t ≠ 122 → ¬ Go.Proofs.Ytijlgcbnoekmeaa.blk ia b := fun hb hne hx => by
    obtain ⟨_, cur, hc⟩ := htag _ hx
    rw [hb] at hc; cases hc; exact hne rfl
  have hC2 := hk.heap h1.blk (hnb h1.blk (by decide))
  have hC3 := block_setCell (i := 6) hC2 (.slice a' (IL.length + 1) c')
  have hks : Keeps (fun k => k = C) w2 (w2.setCell ⟨C, 6, none⟩ (.slice a' (IL.length + 1) c')) := Keeps.setCell w2 _ _ rfl
  have hnC : ∀ {b : Nat} {cs : Array Value} {t : TypeId} {fr : Nat × Nat}, w2.heap[b]? = some (.cells cs t fr) → t ≠ 110 → ¬ b = C := by
    rintro b cs t fr hb hne rfl
    rw [hC2] at hb; cases hb; exact hne rfl
  obtain ⟨es, clock, hM⟩ := h1.nm.block
  have hM2 := hk.heap hM (fun hx => by
    obtain ⟨_, cur, hc⟩ := htag _ hx
    rw [hM] at hc; cases hc)
  have hmv : ∀ k, Go.Proofs.Ytijlgcbnoekmeaa.blk a' k → Go.Proofs.Ytijlgcbnoekmeaa.blk ia k ∨ w1.heap.size ≤ k := fun k hb => moved_blk hm hb
  refine ⟨⟨?_, unfrozen_of_block hC2 6, (Array.getElem?_eq_some_iff.1 hC2).1⟩, ⟨?_, h.loC, h.loM, ?_, ?_, ?_, ?_, ?_⟩, ?_⟩
  · rw [cell_of_block hC2 6]; rfl
  · rw [hC3]; simp
  · refine (h1.nm.keeps hk (fun hx => ?_)).keeps hks (fun hx => ?_)
    · obtain ⟨_, cur, hc⟩ := htag _ hx
      rw [hM] at hc; cases hc
    · subst hx; rw [hM2] at hC2; cases hC2
  · refine ⟨?_, fun r hr => ?_, fun r hr => ?_, ?_⟩
    · have h0 := hks.owns hown (fun i hi e => by
        obtain ⟨cur, hc⟩ := tab_tag hown hi
        exact hnC hc (by decide) e)
      simpa [rowV] using h0
    · rcases List.mem_append.1 hr with hr | hr
      · have h3 := hk.heap (h1.gi.row r hr) (hnb (h1.gi.row r hr) (by decide))
        exact hks.heap h3 (hnC h3 (by decide))
      · rw [List.mem_singleton.1 hr]
        have h3 := hk.heap hR (hnb hR (by decide))
        have h4 := hks.heap h3 (hnC h3 (by decide))
        simpa using h4
    · rcases List.mem_append.1 hr with hr | hr
      · exact h.gi.lo r hr
      · rw [List.mem_singleton.1 hr]; exact Nat.le_trans hB hRn
    · rw [List.map_append, List.nodup_append]
      refine ⟨h.gi.nd, by simp, fun x hx y hy => ?_⟩
      obtain ⟨r, hr, rfl⟩ := List.mem_map.1 hx
      obtain rfl : y = R := by simpa using hy
      have := (Array.getElem?_eq_some_iff.1 (h.gi.row r hr)).1
      omega
  · refine (h1.go.other hk (fun i hi => ?_) (fun r hr => hnb (h1.go.row r hr) (by decide))).other hks (fun i hi => ?_) (fun r hr => ?_)
    · intro hx
      exact h.ta i hx hi
    · obtain ⟨cur, hc⟩ := tab_tag h1.go.tab (own_blk hi)
      have h3 := hk.heap hc (fun hx => h.ta i hx hi)
      exact hnC h3 (by decide)
    · have h3 := hk.heap (h1.go.row r hr) (hnb (h1.go.row r hr) (by decide))
      exact hnC h3 (by decide)
  · intro k hk1 hk2
    rcases hmv k hk1 with hx | hx
    · exact h.ta k hx hk2
    · have := (own_of_blk h.go.tab hk2).2
      have := k1.size
      omega
  · intro r hr r' hr'
    rcases List.mem_append.1 hr with hr | hr
    · exact h.ro r hr r' hr'
    · rw [List.mem_singleton.1 hr]
      have := (Array.getElem?_eq_some_iff.1 (h.go.row r' hr')).1
      simp only
      omega
  · refine ((KX.of_new k1).trans (Keeps.mono hk (fun i _ hi => ?_))).trans (KX.set hC2 h.loC rfl _)
    obtain ⟨h5, cur, h6⟩ := htag i hi
    exact ⟨h5, _, h6, rfl⟩
theorem Chk.addO {w w1 w2 : World} {B C M : Nat} {g : Gr} {ns : List ByteArray} {ia : Option Addr} {ic : Nat} {IL : List (Nat × List Bool)} {oa : Option Addr} {oc : Nat} {OL : List (Nat × List Bool)} (h : Chk w B C M g ns ia ic IL oa oc OL) (hB : B ≤ w.heap.size) {n R c' : Nat} {a' : Option Addr} (k1 : New w w1) (hR : w1.heap[R]? = some (.cells (List.replicate n (Value.bool false)).toArray 4 (0, 0))) (hRn : w.heap.size ≤ R)
    (hown : w2.ownsRow B 122 1 (.slice a' (OL.length + 1) c') (OL.length + 1) (OL.map rowV ++ [.slice (some ⟨R, 0, none⟩) n n])) (hk : Keeps (Go.Proofs.Ytijlgcbnoekmeaa.blk oa) w1 w2) (hm : Moved w1 oa a') :
    (w2.cell? ⟨C, 7, none⟩ = some (.slice oa OL.length oc) ∧ w2.frozen? ⟨C, 7, none⟩ = false ∧ C < w2.heap.size) ∧ Chk (w2.setCell ⟨C, 7, none⟩ (.slice a' (OL.length + 1) c')) B C M g ns ia ic IL a' c' (OL ++ [(R, List.replicate n false)]) ∧ KB B w (w2.setCell ⟨C, 7, none⟩ (.slice a' (OL.length + 1) c')) := by
  have h1 := h.new k1
  have htag : ∀ i, Go.Proofs.Ytijlgcbnoekmeaa.blk oa i → B ≤ i ∧ ∃ cur, w1.heap[i]? = some (.cells cur 122 (0, 0)) := fun i hi => ⟨(own_of_blk h1.go.tab hi).1, tab_tag h1.go.tab (own_blk hi)⟩
  have hnb : ∀ {b : Nat} {cs : Array Value} {t : TypeId} {fr : Nat × Nat}, w1.heap[b]? = some (.cells cs t fr) → t ≠ 122 → ¬ Go.Proofs.Ytijlgcbnoekmeaa.blk oa b := fun hb hne hx => by
    obtain ⟨_, cur, hc⟩ := htag _ hx
    rw [hb] at hc; cases hc; exact hne rfl
  have hC2 := hk.heap h1.blk (hnb h1.blk (by decide))
  have hC3 := block_setCell (i := 7) hC2 (.slice a' (OL.length + 1) c')
  have hks : Keeps (fun k => k = C) w2 (w2.setCell ⟨C, 7, none⟩ (.slice a' (OL.length + 1) c')) := Keeps.setCell w2 _ _ rfl
  have hnC : ∀ {b : Nat} {cs : Array Value} {t : TypeId} {fr : Nat × Nat}, w2.heap[b]? = some (.cells cs t fr) → t ≠ 110 → ¬ b = C := by
    rintro b cs t fr hb hne rfl
    rw [hC2] at hb; cases hb; exact hne rfl
  obtain ⟨es, clock, hM⟩ := h1.nm.block
  have hM2 := hk.heap hM (fun hx => by
    obtain ⟨_, cur, hc⟩ := htag _ hx
    rw [hM] at hc; cases hc)
  have hmv : ∀ k, Go.Proofs.Ytijlgcbnoekmeaa.blk a' k → Go.Proofs.Ytijlgcbnoekmeaa.blk oa k ∨ w1.heap.size ≤ k := fun k hb => moved_blk hm hb
  refine ⟨⟨?_, unfrozen_of_block hC2 7, (Array.getElem?_eq_some_iff.1 hC2).1⟩, ⟨?_, h.loC, h.loM, ?_, ?_, ?_, ?_, ?_⟩, ?_⟩
  · rw [cell_of_block hC2 7]; rfl
  · rw [hC3]; simp
  · refine (h1.nm.keeps hk (fun hx => ?_)).keeps hks (fun hx => ?_)
    · obtain ⟨_, cur, hc⟩ := htag _ hx
      rw [hM] at hc; cases hc
    · subst hx; rw [hM2] at hC2; cases hC2
  · refine (h1.gi.other hk (fun i hi => ?_) (fun r hr => hnb (h1.gi.row r hr) (by decide))).other hks (fun i hi => ?_) (fun r hr => ?_)
    · intro hx
      exact h.ta i hi hx
    · obtain ⟨cur, hc⟩ := tab_tag h1.gi.tab (own_blk hi)
      have h3 := hk.heap hc (fun hx => h.ta i hi hx)
      exact hnC h3 (by decide)
    · have h3 := hk.heap (h1.gi.row r hr) (hnb (h1.gi.row r hr) (by decide))
      exact hnC h3 (by decide)
  · refine ⟨?_, fun r hr => ?_, fun r hr => ?_, ?_⟩
    · have h0 := hks.owns hown (fun i hi e => by
        obtain ⟨cur, hc⟩ := tab_tag hown hi
        exact hnC hc (by decide) e)
      simpa [rowV] using h0
    · rcases List.mem_append.1 hr with hr | hr
      · have h3 := hk.heap (h1.go.row r hr) (hnb (h1.go.row r hr) (by decide))
        exact hks.heap h3 (hnC h3 (by decide))
      · rw [List.mem_singleton.1 hr]
        have h3 := hk.heap hR (hnb hR (by decide))
        have h4 := hks.heap h3 (hnC h3 (by decide))
        simpa using h4
    · rcases List.mem_append.1 hr with hr | hr
      · exact h.go.lo r hr
      · rw [List.mem_singleton.1 hr]; exact Nat.le_trans hB hRn
    · rw [List.map_append, List.nodup_append]
      refine ⟨h.go.nd, by simp, fun x hx y hy => ?_⟩
      obtain ⟨r, hr, rfl⟩ := List.mem_map.1 hx
      obtain rfl : y = R := by simpa using hy
      have := (Array.getElem?_eq_some_iff.1 (h.go.row r hr)).1
      omega
  · intro k hk1 hk2
    rcases hmv k hk2 with hx | hx
    · exact h.ta k hk1 hx
    · have := (own_of_blk h.gi.tab hk1).2
      have := k1.size
      omega
  · intro r hr r' hr'
    rcases List.mem_append.1 hr' with hr' | hr'
    · exact h.ro r hr r' hr'
    · rw [List.mem_singleton.1 hr']
      have := (Array.getElem?_eq_some_iff.1 (h.gi.row r hr)).1
      simp only
      omega
  · refine ((KX.of_new k1).trans (Keeps.mono hk (fun i _ hi => ?_))).trans (KX.set hC2 h.loC rfl _)
    obtain ⟨h5, cur, h6⟩ := htag i hi
    exact ⟨h5, _, h6, rfl⟩
theorem Chk.other {S : Nat → Prop} {w w' : World} {B C M : Nat} {g : Gr} {ns : List ByteArray} {ia : Option Addr} {ic : Nat} {IL : List (Nat × List Bool)} {oa : Option Addr} {oc : Nat} {OL : List (Nat × List Bool)} (h : Chk w B C M g ns ia ic IL oa oc OL)
    (k : Keeps S w w') (hS : ∀ i, S i → ∃ o, w.heap[i]? = some o ∧ chkO o = false) : Chk w' B C M g ns ia ic IL oa oc OL := by
  have hn : ∀ {i : Nat} {o : Obj}, w.heap[i]? = some o → chkO o = true → ¬ S i := fun hi ho hs => by
    obtain ⟨o', h1, h2⟩ := hS _ hs
    rw [hi] at h1; cases h1; rw [ho] at h2; cases h2
  obtain ⟨es, clock, hM⟩ := h.nm.block
  refine ⟨k.heap h.blk (hn h.blk rfl), h.loC, h.loM, h.nm.keeps k (hn hM rfl), h.gi.other k (fun i hi => ?_) (fun r hr => hn (h.gi.row r hr) rfl), h.go.other k (fun i hi => ?_) (fun r hr => hn (h.go.row r hr) rfl), h.ta, h.ro⟩
  · obtain ⟨cur, hc⟩ := tab_tag h.gi.tab (own_blk hi)
    exact hn hc rfl
  · obtain ⟨cur, hc⟩ := tab_tag h.go.tab (own_blk hi)
    exact hn hc rfl
theorem KX.setCell {pk : Obj → Bool} {B : Nat} {w w' : World} (h : KX pk B w w') {p : Addr} (hp : w.heap.size ≤ p.block) (v : Value) : KX pk B w (w'.setCell p v) :=
  Keeps.trans h (Keeps.setCell (S := fun k => k = p.block) w' p v rfl) (fun i hi e => by omega)
/-- The result's block stored. -/
theorem Chk.spot {w : World} {B C M : Nat} {g : Gr} {ns : List ByteArray} {ia : Option Addr} {ic : Nat} {IL : List (Nat × List Bool)} {oa : Option Addr} {oc : Nat} {OL : List (Nat × List Bool)} {P : Nat} {cs : Array Value} (h : Chk w B C M g ns ia ic IL oa oc OL)
    (hb : w.heap[P]? = some (.cells cs 95 (0, 0))) (u v x : Value) : Chk (((w.setCell ⟨P, 0, none⟩ u).setCell ⟨P, 1, none⟩ v).setCell ⟨P, 2, none⟩ x) B C M g ns ia ic IL oa oc OL :=
  h.other (S := fun k => k = P) (((Keeps.setCell (S := fun k => k = P) w _ _ rfl).trans (Keeps.setCell (S := fun k => k = P) _ _ _ rfl) (fun _ _ h => h)).trans (Keeps.setCell (S := fun k => k = P) _ _ _ rfl) (fun _ _ h => h)) (fun i hi => ⟨_, hi ▸ hb, rfl⟩)
theorem actE_eq (g : Gr) (k : Nat) (x : GAct) : actE g k x = (if nameE (namesOf g k 0 0) x.name ≠ 0 then nameE (namesOf g k 0 0) x.name else (shapeS x.tag x.xs).1, 0) := by
  unfold actE; split <;> rfl
theorem bool_next {L : List (Nat × List Bool)} {l : List GAct} {n : GAct → Nat} {k R m : Nat} (h : L.map (·.2) = (l.take k).map (fun x => List.replicate (n x) false)) (hk : k < l.length) (hm : m = n l[k]) :
    (L ++ [(R, List.replicate m false)]).map (·.2) = (l.take (k + 1)).map (fun x => List.replicate (n x) false) := by
  subst hm
  rw [List.take_succ_eq_append_getElem hk, List.map_append, List.map_append, h]; rfl
theorem bool_len {L : List (Nat × List Bool)} {l : List GAct} {n : GAct → Nat} {k : Nat} (h : L.map (·.2) = (l.take k).map (fun x => List.replicate (n x) false)) : L.length ≤ k := by
  have := congrArg List.length h
  rw [List.length_map, List.length_map, List.length_take] at this
  omega

set_option maxRecDepth 100000 in
set_option maxHeartbeats 16000000 in
theorem cactors_any (w0 w : World) (B C M : Nat) (g : Gr) (hg : GrAt w0 g) (hN : New w0 w) (hB : B = w0.heap.size) (hl : GLen g) (hal : g.acts.length ≤ 32) (h : Chk w B C M g [] none 0 [] none 0 []) :
    Calls Try.prog 62 #[.pointer (some ⟨C, 0, none⟩)] w fun e w' => Stage (firstE (actE g) 0 g.acts) 1 (fun w' => ∃ ia ic IL oa oc OL, Chk w' B C M g (namesOf g g.acts.length 0 0) ia ic IL oa oc OL ∧ IL.map (·.2) = side g nIn (fun _ _ => false) ∧ OL.map (·.2) = side g nOut (fun _ _ => false)) e w' ∧ KB B w w' := by
  obtain ⟨⟨c0, c1, c2, c3, c4, -, -, -⟩, -, hCl⟩ := chk_cells h.blk
  obtain ⟨it, hit, hz0, hz1, hz2⟩ := info_parts infoRow
  have HAX := Lib.hid hl.ax
  have hla := hl.a
  clear hl
  obtain ⟨ok, hok⟩ : ∃ ok : World → Prop, (fun w' => ∃ ia ic IL oa oc OL, Chk w' B C M g (namesOf g g.acts.length 0 0) ia ic IL oa oc OL ∧ IL.map (·.2) = side g nIn (fun _ _ => false) ∧ OL.map (·.2) = side g nOut (fun _ _ => false)) = ok := ⟨_, rfl⟩
  rw [hok]
  have HOK := Lib.hid hok
  clear hok
  obtain ⟨ga, hga⟩ : ∃ ga, g.aa = ga := ⟨_, rfl⟩
  rw [hga] at c1
  have HGA := Lib.hid hga
  have HG := Lib.hid hg
  have HNw := Lib.hid hN
  have HBB := Lib.hid hB
  have hBw : B ≤ w.heap.size := by rw [hB]; exact hN.size
  clear hga hg hN hB
  go_enter Try.func62, Try.ntmps62
  go_wp2_with fail
  have k0 : New w (w.alloc (.cells #[.int .u8 0, I 0, I 0] 95)) := (New.refl w).alloc _
  have hbx : (w.alloc (.cells #[.int .u8 0, I 0, I 0] 95)).heap[w.heap.size]? = some (.cells #[.int .u8 0, I 0, I 0] 95 (0, 0)) := heap_alloc_new w _
  generalize (w.alloc (.cells #[.int .u8 0, I 0, I 0] 95)) = v0 at k0 hbx ⊢
  clear c0 c1 c2 c3 c4
  have hCh := h.new k0
  clear h hCl
  go_loopw [15] (fun i wr => ∃ (k : Nat) (ia : Option Addr) (ic : Nat) (IL : List (Nat × List Bool)) (oa : Option Addr) (oc : Nat) (OL : List (Nat × List Bool)), k ≤ g.acts.length ∧ i = .int .i64 k ∧
      Hid (Chk wr B C M g (namesOf g k 0 0) ia ic IL oa oc OL ∧ IL.map (·.2) = (g.acts.take k).map (fun x => List.replicate (nIn x) false) ∧ OL.map (·.2) = (g.acts.take k).map (fun x => List.replicate (nOut x) false) ∧
        (∀ j (hj : j < g.acts.length), j < k → (actE g j g.acts[j]).1 = 0) ∧ wr.heap[w.heap.size]? = some (.cells #[.int .u8 0, I 0, I 0] 95 (0, 0)) ∧ KB B w wr)) (fun i _ => g.acts.length - (intOf i).toNat)
  case atStart => exact ⟨0, none, 0, [], none, 0, [], by omega, rfl, Lib.hid ⟨hCh, by simp, by simp, fun j hj hjk => by omega, hbx, KX.of_new k0⟩⟩
  case round =>
    clear hCh hbx k0
    obtain ⟨k, ia, ic, IL, oa, oc, OL, hk, rfl, HR⟩ := hrel
    obtain ⟨hC, hI, hO, hE, hb, hKB⟩ := HR.out
    have HI := Lib.hid hI
    have HO := Lib.hid hO
    have HE := Lib.hid hE
    have HB := Lib.hid hb
    clear hI hO hE hb HR
    by_cases hk1 : k < g.acts.length
    · have hkI : (k : Int) < (g.acts.length : Int) := by omega
      have hkd : decide (k < g.acts.length) = true := decide_eq_true hk1
      have hGr := HG.out.new (hKB.new HBB.out HNw.out)
      obtain ⟨b, off, hab, q0, q1, q2⟩ := acts_at hGr.sa hk1
      have hxs := (HAX.out _ (List.getElem_mem hk1)).2
      have hxn := (HAX.out _ (List.getElem_mem hk1)).1
      have hAE : Hid (actE g k g.acts[k] = _) := Lib.hid (actE_eq g k g.acts[k])
      have hfew := shape_few g.acts[k].tag g.acts[k].xs
      have hni : Hid (nIn g.acts[k] = (shapeS g.acts[k].tag g.acts[k].xs).2.1.length) := Lib.hid rfl
      have hno : Hid (nOut g.acts[k] = (shapeS g.acts[k].tag g.acts[k].xs).2.2.length) := Lib.hid rfl
      have HOf : ∀ W, New w0 W → Calls Try.prog 43 #[.int .u8 g.acts[k].tag, .slice g.acts[k].a g.acts[k].xs.length g.acts[k].c] W (Rates W (shapeS g.acts[k].tag g.acts[k].xs)) := fun W n => shOf_any _ _ _ _ W ((HG.out.ax _ (List.getElem_mem hk1)).new n) hxn
      have hnl : (namesOf g k 0 0).length ≤ 1000 := by have := names_len g k 0 0; omega
      have hns : Hid (namesOf g (k + 1) 0 0 = namesOf g k 0 0 ++ [g.acts[k].name]) := Lib.hid (names_act g hk1)
      have hIl := bool_len HI.out
      have hOl := bool_len HO.out
      have HIn : ∀ R : Nat, Hid (((IL ++ [(R, List.replicate (shapeS g.acts[k].tag g.acts[k].xs).2.1.length false)] : List (Nat × List Bool))).map (·.2) = (g.acts.take (k + 1)).map (fun x => List.replicate (nIn x) false)) := fun R => Lib.hid (bool_next HI.out hk1 rfl)
      have HOn : ∀ R : Nat, Hid (((OL ++ [(R, List.replicate (shapeS g.acts[k].tag g.acts[k].xs).2.2.length false)] : List (Nat × List Bool))).map (·.2) = (g.acts.take (k + 1)).map (fun x => List.replicate (nOut x) false)) := fun R => Lib.hid (bool_next HO.out hk1 rfl)
      have HF : Hid ((actE g k g.acts[k]).1 ≠ 0 → firstE (actE g) 0 g.acts = some (k, actE g k g.acts[k])) := Lib.hid (fun h => firstE_skip hk1 HE.out h)
      have HE2 : Hid ((actE g k g.acts[k]).1 = 0 → ∀ j (hj : j < g.acts.length), j < k + 1 → (actE g j g.acts[j]).1 = 0) := Lib.hid (fun h j hj hjk => by
        by_cases e : j = k
        · subst e; exact h
        · exact HE.out j hj (by omega))
      have e : ga = some ⟨b, off, none⟩ := HGA.out.symm.trans hab
      subst e
      clear hab hGr HE HI HO HAX
      generalize g.acts[k] = x at q0 q1 q2 hxs hxn hAE hfew hni hno HOf hns HIn HOn HF HE2
      generalize shapeS x.tag x.xs = sh at hAE hfew hni hno HOf HIn HOn
      generalize namesOf g k 0 0 = ns at hC hAE hnl hns
      have hNmC := fun W (n : New wr W) => cnm_any W B C M g ns ia ic IL oa oc OL x.name (hC.new n) hxs hnl
      generalize nameE ns x.name = nm at hAE hNmC
      clear hC
      go_wp2_with fail
      have kb : New wr (wr.alloc (.cells #[.string x.name, .int .u8 x.tag, .slice x.a x.xs.length x.c] 85)) := (New.refl wr).alloc _
      have hby : (wr.alloc (.cells #[.string x.name, .int .u8 x.tag, .slice x.a x.xs.length x.c] 85)).heap[wr.heap.size]? = some (.cells #[.string x.name, .int .u8 x.tag, .slice x.a x.xs.length x.c] 85 (0, 0)) := heap_alloc_new wr _
      generalize (wr.alloc (.cells #[.string x.name, .int .u8 x.tag, .slice x.a x.xs.length x.c] 85)) = w1 at kb hby ⊢
      generalize wr.heap.size = Y at hby ⊢
      replace HB := Lib.hid (Keeps.heap kb HB.out (fun h => h))
      replace hKB := hKB.trans (KX.of_new kb)
      refine (hNmC w1 kb).mono ?_
      rintro e w2 ⟨rfl, hC2, k2⟩
      have HY := Lib.hid (k2.heap hby rfl)
      replace HB := Lib.hid (k2.heap HB.out rfl)
      replace hKB := hKB.trans k2.wide
      clear hby k2 kb q0 q1 q2 hNmC
      by_cases hnm : nm = 0
      · have e1 : (nm == 0) = true := by simp [hnm]
        have e2 : (nm != 0) = false := by simp [hnm]
        have e3 : decide (nm = 0) = true := decide_eq_true hnm
        rw [if_pos hnm] at hC2
        rw [hnm] at hAE
        replace hAE : Hid (actE g k x = (sh.1, 0)) := Lib.hid (by rw [hAE.out]; simp)
        subst hnm
        clear e1 e2 e3
        obtain ⟨y0, y1, y2, -⟩ := act_cells HY.out
        have hOf := HOf w2 (hKB.new HBB.out HNw.out)
        go_wp2_with fail
        refine hOf.mono ?_
        rintro e w3 ⟨ra, rac, rb, rbc, rfl, hra, hrb, _, k3⟩
        replace HY := Lib.hid (Keeps.heap k3 HY.out (fun h => h))
        replace HB := Lib.hid (Keeps.heap k3 HB.out (fun h => h))
        replace hKB := hKB.trans (KX.of_new k3)
        have hC3 := hC2.new k3
        clear hra hrb k3 hC2 y0 y1 y2 hOf HOf
        obtain ⟨n1, hn1⟩ : ∃ n, sh.2.1.length = n := ⟨_, rfl⟩
        obtain ⟨n2, hn2⟩ : ∃ n, sh.2.2.length = n := ⟨_, rfl⟩
        rw [hn1] at HIn hfew
        rw [hn2] at HOn hfew
        rw [hn1, hn2]
        have hIl2 : IL.length ≤ 32 := by omega
        have hOl2 : OL.length ≤ 32 := by omega
        have hC := hC3
        clear hC3 hn1 hn2 hni hno
        go_wp2_with fail
        obtain ⟨⟨-, -, -, -, -, -, c6, c7⟩, -, hCl⟩ := chk_cells hC.blk
        have hdr : New w3 w3.drew := (New.refl w3).drew
        have hS0 : (fun w' : World => w'.cell? ⟨C, 6, none⟩ = some (.slice ia IL.length ic) ∧ C < w'.heap.size) w3.drew := ⟨hdr.cell c6, hCl⟩
        clear c6 c7
        refine wp_region_X (fun w' : World => w'.cell? ⟨C, 6, none⟩ = some (.slice ia IL.length ic) ∧ C < w'.heap.size) [12] (by kernel_rfl) hS0 ?_
        refine anyX_take 0 (by kernel_rfl) (by kernel_rfl) (by kernel_rfl) (by kernel_rfl) (by kernel_rfl) hS0 ?_
        intro oi ho; simp only [List.getElem?_toArray, List.getElem?_cons_succ, List.getElem?_cons_zero, Option.some.injEq] at ho; subst ho
        refine ⟨?_, fun _ _ _ h => h, Or.inl ⟨by rfl, ?_⟩, ?_⟩; rotate_left 1
        · (intro wS hSw; (try dsimp only at hSw); go_simp; try with_reducible rfl)
        simp only [Act.put, List.setIfInBounds_toArray, List.set_cons_zero, List.set_cons_succ]
        refine anyX_take 1 (by kernel_rfl) (by kernel_rfl) (by kernel_rfl) (by kernel_rfl) (by kernel_rfl) hS0 ?_
        intro oi ho; simp only [List.getElem?_toArray, List.getElem?_cons_succ, List.getElem?_cons_zero, Option.some.injEq] at ho; subst ho
        refine ⟨?_, fun _ _ _ h => h, Or.inl ⟨by rfl, ?_⟩, ?_⟩; rotate_left 1
        · (intro wS hSw; (try dsimp only at hSw); go_simp; try with_reducible rfl)
        simp only [Act.put, List.setIfInBounds_toArray, List.set_cons_zero, List.set_cons_succ]
        refine anyX_take 2 (by kernel_rfl) (by kernel_rfl) (by kernel_rfl) (by kernel_rfl) (by kernel_rfl) hS0 ?_
        intro oi ho; simp only [List.getElem?_toArray, List.getElem?_cons_succ, List.getElem?_cons_zero, Option.some.injEq] at ho; subst ho
        refine ⟨?_, fun _ _ _ h => h, Or.inl ⟨by rfl, ?_⟩, ?_⟩; rotate_left 1
        · (intro wS hSw; (try dsimp only at hSw); go_simp; try with_reducible rfl)
        simp only [Act.put, List.setIfInBounds_toArray, List.set_cons_zero, List.set_cons_succ]
        refine anyX_take 3 (by kernel_rfl) (by kernel_rfl) (by kernel_rfl) (by kernel_rfl) (by kernel_rfl) hS0 ?_
        intro oi ho; simp only [List.getElem?_toArray, List.getElem?_cons_succ, List.getElem?_cons_zero, Option.some.injEq] at ho; subst ho
        refine ⟨?_, fun _ _ _ h => h, Or.inl ⟨by rfl, ?_⟩, ?_⟩; rotate_left 1
        · (intro wS hSw; (try dsimp only at hSw); go_simp; try with_reducible rfl)
        simp only [Act.put, List.setIfInBounds_toArray, List.set_cons_zero, List.set_cons_succ]
        refine anyX_take 4 (by kernel_rfl) (by kernel_rfl) (by kernel_rfl) (by kernel_rfl) (by kernel_rfl) hS0 ?_
        intro oi ho; simp only [List.getElem?_toArray, List.getElem?_cons_succ, List.getElem?_cons_zero, Option.some.injEq] at ho; subst ho
        refine ⟨?_, fun _ _ _ h => h, Or.inl ⟨by rfl, ?_⟩, ?_⟩; rotate_left 1
        · (intro wS hSw; (try dsimp only at hSw); go_simp; try with_reducible rfl)
        simp only [Act.put, List.setIfInBounds_toArray, List.set_cons_zero, List.set_cons_succ]
        refine anyX_take 5 (by kernel_rfl) (by kernel_rfl) (by kernel_rfl) (by kernel_rfl) (by kernel_rfl) hS0 ?_
        intro oi ho; simp only [List.getElem?_toArray, List.getElem?_cons_succ, List.getElem?_cons_zero, Option.some.injEq] at ho; subst ho
        refine ⟨?_, fun _ _ _ h => h, Or.inl ⟨by rfl, ?_⟩, ?_⟩; rotate_left 1
        · (intro wS hSw; (try dsimp only at hSw); go_simp; try with_reducible rfl)
        simp only [Act.put, List.setIfInBounds_toArray, List.set_cons_zero, List.set_cons_succ]
        refine anyX_take 6 (by kernel_rfl) (by kernel_rfl) (by kernel_rfl) (by kernel_rfl) (by kernel_rfl) hS0 ?_
        intro oi ho; simp only [List.getElem?_toArray, List.getElem?_cons_succ, List.getElem?_cons_zero, Option.some.injEq] at ho; subst ho
        refine ⟨?_, fun _ _ _ h => h, Or.inl ⟨by rfl, ?_⟩, ?_⟩; rotate_left 1
        · (intro wS hSw; (try dsimp only at hSw); go_simp; try with_reducible rfl)
        simp only [Act.put, List.setIfInBounds_toArray, List.set_cons_zero, List.set_cons_succ]
        refine anyX_one 7 (by kernel_rfl) ?_
        intro oi ho; simp only [List.getElem?_toArray, List.getElem?_cons_succ, List.getElem?_cons_zero, Option.some.injEq] at ho; subst ho; intro K hK
        refine step_bools ?_ (.tmp 41) (.tmp 41) ?_ n1 ?_ ?_ (by omega) ?_
        · rfl
        · rfl
        · rfl
        · rfl
        have kA : New w3.drew (w3.drew.alloc (.cells (List.replicate n1 (Value.bool false)).toArray 4)) := (New.refl _).alloc _
        have hRA : (w3.drew.alloc (.cells (List.replicate n1 (Value.bool false)).toArray 4)).heap[w3.drew.heap.size]? = some (.cells (List.replicate n1 (Value.bool false)).toArray 4 (0, 0)) := heap_alloc_new _ _
        have hRn : w3.heap.size ≤ w3.drew.heap.size := hdr.size
        generalize (w3.drew.alloc (.cells (List.replicate n1 (Value.bool false)).toArray 4)) = wA at kA hRA hK ⊢
        generalize w3.drew.heap.size = R at hRA hRn ⊢
        have hSA : (fun w' : World => w'.cell? ⟨C, 6, none⟩ = some (.slice ia IL.length ic) ∧ C < w'.heap.size) wA := ⟨kA.cell hS0.1, Nat.lt_of_lt_of_le hS0.2 kA.size⟩
        replace kA := hdr.trans kA
        refine hK _ _ (fun _ => hSA) ?_
        clear hK K
        refine anyX_one 8 (by kernel_rfl) ?_
        intro oi ho; simp only [List.getElem?_toArray, List.getElem?_cons_succ, List.getElem?_cons_zero, Option.some.injEq] at ho; subst ho; intro K hK
        (try simp only [Act.put, List.setIfInBounds_toArray, List.set_cons_zero, List.set_cons_succ])
        go_simp
        have kB : New wA (wA.alloc (.cells #[.slice (some ⟨R, 0, none⟩) n1 n1] 122)) := (New.refl wA).alloc _
        have hSB : (fun w' : World => w'.cell? ⟨C, 6, none⟩ = some (.slice ia IL.length ic) ∧ C < w'.heap.size) (wA.alloc (.cells #[.slice (some ⟨R, 0, none⟩) n1 n1] 122)) := ⟨kB.cell hSA.1, Nat.lt_of_lt_of_le hSA.2 kB.size⟩
        have hlit : SlAt (wA.alloc (.cells #[.slice (some ⟨R, 0, none⟩) n1 n1] 122)) (some ⟨wA.heap.size, 0, none⟩) [.slice (some ⟨R, 0, none⟩) n1 n1] := SlAt.lit wA _ _
        refine hK _ _ (fun _ => hSB) ?_
        clear hK K
        replace hRA := Keeps.heap kB hRA (fun h => h)
        replace kA := kA.trans kB
        generalize (wA.alloc (.cells #[.slice (some ⟨R, 0, none⟩) n1 n1] 122)) = wB at kA hRA hSB hlit ⊢
        generalize wA.heap.size = Z at hlit ⊢
        clear kB hSA hS0
        refine anyX_one 9 (by kernel_rfl) ?_
        intro oi ho; simp only [List.getElem?_toArray, List.getElem?_cons_succ, List.getElem?_cons_zero, Option.some.injEq] at ho; subst ho; intro K hK
        refine step_app rfl _ _ 108 rfl B 122 it (.slice none 0 0) 1 24 Try.underlying108 hit hz0 hz1 hz2 rfl (by decide) ia IL.length ic (IL.map rowV) rfl ((hC.new kA).gi.tab) (some ⟨Z, 0, none⟩) 1 1 [.slice (some ⟨R, 0, none⟩) n1 n1] rfl rfl hlit (by intro u hu; rw [List.mem_singleton.1 hu]; rfl) (by unfold maxLen; omega) (by omega) (Nat.le_trans (Nat.le_trans hBw hKB.size) kA.size) ?_
        intro ao' c' wc hown' hk' hmv
        obtain ⟨⟨hv0, hfz, hCl2⟩, hCn, hKn⟩ := hC.addI (Nat.le_trans hBw hKB.size) kA hRA hRn hown' hk' hmv
        have HCn := Lib.hid hCn
        have hSd : (fun w' : World => w'.cell? ⟨C, 6, none⟩ = some (.slice ia IL.length ic) ∧ C < w'.heap.size) wc := ⟨hv0, hCl2⟩
        refine hK _ _ (fun _ => hSd) ?_
        clear hK K hC hCn hown' hk' hmv kA hRA hRn hlit hSB
        refine anyX_take 10 (by kernel_rfl) (by kernel_rfl) (by kernel_rfl) (by kernel_rfl) (by kernel_rfl) hSd ?_
        intro oi ho; simp only [List.getElem?_toArray, List.getElem?_cons_succ, List.getElem?_cons_zero, Option.some.injEq] at ho; subst ho
        refine ⟨?_, fun _ _ _ h => h, Or.inl ⟨by rfl, ?_⟩, ?_⟩; rotate_left 1
        · (intro wS hSw; (try dsimp only at hSw); go_simp; try with_reducible rfl)
        simp only [Act.put, List.setIfInBounds_toArray, List.set_cons_zero, List.set_cons_succ]
        refine anyX_take 11 (by kernel_rfl) (by kernel_rfl) (by kernel_rfl) (by kernel_rfl) (by kernel_rfl) hSd ?_
        intro oi ho; simp only [List.getElem?_toArray, List.getElem?_cons_succ, List.getElem?_cons_zero, Option.some.injEq] at ho; subst ho
        refine ⟨?_, fun _ _ _ h => h, Or.inl ⟨by rfl, ?_⟩, ?_⟩; rotate_left 1
        · (intro wS hSw; (try dsimp only at hSw); go_simp; try with_reducible rfl)
        simp only [Act.put, List.setIfInBounds_toArray, List.set_cons_zero, List.set_cons_succ]
        refine anyX_one 12 (by kernel_rfl) ?_
        intro oi ho; simp only [List.getElem?_toArray, List.getElem?_cons_succ, List.getElem?_cons_zero, Option.some.injEq] at ho; subst ho; intro K hK
        (try simp only [Act.put, List.setIfInBounds_toArray, List.set_cons_zero, List.set_cons_succ])
        go_simp
        refine hK _ _ (fun hx => by cases hx) ?_
        clear hK K
        refine anyX_done (by kernel_rfl) ?_
        (try simp only [Act.put, List.setIfInBounds_toArray, List.set_cons_zero, List.set_cons_succ])
        replace HY := Lib.hid (hKn.heap HY.out rfl)
        replace HB := Lib.hid (hKn.heap HB.out rfl)
        replace hKB := hKB.trans hKn
        have hC := HCn.out
        generalize (wc.setCell ⟨C, 6, none⟩ (.slice ao' (IL.length + 1) c')) = w5 at HY HB hKB hC ⊢
        clear HCn hKn hv0 hfz hSd hCl2 hdr hCl
        (try simp only [Exit.then])
        replace HIn := HIn R
        generalize (IL ++ [(R, List.replicate n1 false)] : List (Nat × List Bool)) = IL1 at HIn hC
        generalize ao' = ia1 at hC
        generalize c' = ic1 at hC
        go_wp2_with fail
        obtain ⟨⟨-, -, -, -, -, -, c6, c7⟩, -, hCl⟩ := chk_cells hC.blk
        have hdr : New w5 w5.drew := (New.refl w5).drew
        have hS0 : (fun w' : World => w'.cell? ⟨C, 7, none⟩ = some (.slice oa OL.length oc) ∧ C < w'.heap.size) w5.drew := ⟨hdr.cell c7, hCl⟩
        clear c6 c7
        refine wp_region_X (fun w' : World => w'.cell? ⟨C, 7, none⟩ = some (.slice oa OL.length oc) ∧ C < w'.heap.size) [12] (by kernel_rfl) hS0 ?_
        refine anyX_take 0 (by kernel_rfl) (by kernel_rfl) (by kernel_rfl) (by kernel_rfl) (by kernel_rfl) hS0 ?_
        intro oi ho; simp only [List.getElem?_toArray, List.getElem?_cons_succ, List.getElem?_cons_zero, Option.some.injEq] at ho; subst ho
        refine ⟨?_, fun _ _ _ h => h, Or.inl ⟨by rfl, ?_⟩, ?_⟩; rotate_left 1
        · (intro wS hSw; (try dsimp only at hSw); go_simp; try with_reducible rfl)
        simp only [Act.put, List.setIfInBounds_toArray, List.set_cons_zero, List.set_cons_succ]
        refine anyX_take 1 (by kernel_rfl) (by kernel_rfl) (by kernel_rfl) (by kernel_rfl) (by kernel_rfl) hS0 ?_
        intro oi ho; simp only [List.getElem?_toArray, List.getElem?_cons_succ, List.getElem?_cons_zero, Option.some.injEq] at ho; subst ho
        refine ⟨?_, fun _ _ _ h => h, Or.inl ⟨by rfl, ?_⟩, ?_⟩; rotate_left 1
        · (intro wS hSw; (try dsimp only at hSw); go_simp; try with_reducible rfl)
        simp only [Act.put, List.setIfInBounds_toArray, List.set_cons_zero, List.set_cons_succ]
        refine anyX_take 2 (by kernel_rfl) (by kernel_rfl) (by kernel_rfl) (by kernel_rfl) (by kernel_rfl) hS0 ?_
        intro oi ho; simp only [List.getElem?_toArray, List.getElem?_cons_succ, List.getElem?_cons_zero, Option.some.injEq] at ho; subst ho
        refine ⟨?_, fun _ _ _ h => h, Or.inl ⟨by rfl, ?_⟩, ?_⟩; rotate_left 1
        · (intro wS hSw; (try dsimp only at hSw); go_simp; try with_reducible rfl)
        simp only [Act.put, List.setIfInBounds_toArray, List.set_cons_zero, List.set_cons_succ]
        refine anyX_take 3 (by kernel_rfl) (by kernel_rfl) (by kernel_rfl) (by kernel_rfl) (by kernel_rfl) hS0 ?_
        intro oi ho; simp only [List.getElem?_toArray, List.getElem?_cons_succ, List.getElem?_cons_zero, Option.some.injEq] at ho; subst ho
        refine ⟨?_, fun _ _ _ h => h, Or.inl ⟨by rfl, ?_⟩, ?_⟩; rotate_left 1
        · (intro wS hSw; (try dsimp only at hSw); go_simp; try with_reducible rfl)
        simp only [Act.put, List.setIfInBounds_toArray, List.set_cons_zero, List.set_cons_succ]
        refine anyX_take 4 (by kernel_rfl) (by kernel_rfl) (by kernel_rfl) (by kernel_rfl) (by kernel_rfl) hS0 ?_
        intro oi ho; simp only [List.getElem?_toArray, List.getElem?_cons_succ, List.getElem?_cons_zero, Option.some.injEq] at ho; subst ho
        refine ⟨?_, fun _ _ _ h => h, Or.inl ⟨by rfl, ?_⟩, ?_⟩; rotate_left 1
        · (intro wS hSw; (try dsimp only at hSw); go_simp; try with_reducible rfl)
        simp only [Act.put, List.setIfInBounds_toArray, List.set_cons_zero, List.set_cons_succ]
        refine anyX_take 5 (by kernel_rfl) (by kernel_rfl) (by kernel_rfl) (by kernel_rfl) (by kernel_rfl) hS0 ?_
        intro oi ho; simp only [List.getElem?_toArray, List.getElem?_cons_succ, List.getElem?_cons_zero, Option.some.injEq] at ho; subst ho
        refine ⟨?_, fun _ _ _ h => h, Or.inl ⟨by rfl, ?_⟩, ?_⟩; rotate_left 1
        · (intro wS hSw; (try dsimp only at hSw); go_simp; try with_reducible rfl)
        simp only [Act.put, List.setIfInBounds_toArray, List.set_cons_zero, List.set_cons_succ]
        refine anyX_take 6 (by kernel_rfl) (by kernel_rfl) (by kernel_rfl) (by kernel_rfl) (by kernel_rfl) hS0 ?_
        intro oi ho; simp only [List.getElem?_toArray, List.getElem?_cons_succ, List.getElem?_cons_zero, Option.some.injEq] at ho; subst ho
        refine ⟨?_, fun _ _ _ h => h, Or.inl ⟨by rfl, ?_⟩, ?_⟩; rotate_left 1
        · (intro wS hSw; (try dsimp only at hSw); go_simp; try with_reducible rfl)
        simp only [Act.put, List.setIfInBounds_toArray, List.set_cons_zero, List.set_cons_succ]
        refine anyX_one 7 (by kernel_rfl) ?_
        intro oi ho; simp only [List.getElem?_toArray, List.getElem?_cons_succ, List.getElem?_cons_zero, Option.some.injEq] at ho; subst ho; intro K hK
        refine step_bools ?_ (.tmp 53) (.tmp 53) ?_ n2 ?_ ?_ (by omega) ?_
        · rfl
        · rfl
        · rfl
        · rfl
        have kA : New w5.drew (w5.drew.alloc (.cells (List.replicate n2 (Value.bool false)).toArray 4)) := (New.refl _).alloc _
        have hRA : (w5.drew.alloc (.cells (List.replicate n2 (Value.bool false)).toArray 4)).heap[w5.drew.heap.size]? = some (.cells (List.replicate n2 (Value.bool false)).toArray 4 (0, 0)) := heap_alloc_new _ _
        have hRn : w5.heap.size ≤ w5.drew.heap.size := hdr.size
        generalize (w5.drew.alloc (.cells (List.replicate n2 (Value.bool false)).toArray 4)) = wA at kA hRA hK ⊢
        generalize w5.drew.heap.size = R at hRA hRn ⊢
        have hSA : (fun w' : World => w'.cell? ⟨C, 7, none⟩ = some (.slice oa OL.length oc) ∧ C < w'.heap.size) wA := ⟨kA.cell hS0.1, Nat.lt_of_lt_of_le hS0.2 kA.size⟩
        replace kA := hdr.trans kA
        refine hK _ _ (fun _ => hSA) ?_
        clear hK K
        refine anyX_one 8 (by kernel_rfl) ?_
        intro oi ho; simp only [List.getElem?_toArray, List.getElem?_cons_succ, List.getElem?_cons_zero, Option.some.injEq] at ho; subst ho; intro K hK
        (try simp only [Act.put, List.setIfInBounds_toArray, List.set_cons_zero, List.set_cons_succ])
        go_simp
        have kB : New wA (wA.alloc (.cells #[.slice (some ⟨R, 0, none⟩) n2 n2] 122)) := (New.refl wA).alloc _
        have hSB : (fun w' : World => w'.cell? ⟨C, 7, none⟩ = some (.slice oa OL.length oc) ∧ C < w'.heap.size) (wA.alloc (.cells #[.slice (some ⟨R, 0, none⟩) n2 n2] 122)) := ⟨kB.cell hSA.1, Nat.lt_of_lt_of_le hSA.2 kB.size⟩
        have hlit : SlAt (wA.alloc (.cells #[.slice (some ⟨R, 0, none⟩) n2 n2] 122)) (some ⟨wA.heap.size, 0, none⟩) [.slice (some ⟨R, 0, none⟩) n2 n2] := SlAt.lit wA _ _
        refine hK _ _ (fun _ => hSB) ?_
        clear hK K
        replace hRA := Keeps.heap kB hRA (fun h => h)
        replace kA := kA.trans kB
        generalize (wA.alloc (.cells #[.slice (some ⟨R, 0, none⟩) n2 n2] 122)) = wB at kA hRA hSB hlit ⊢
        generalize wA.heap.size = Z at hlit ⊢
        clear kB hSA hS0
        refine anyX_one 9 (by kernel_rfl) ?_
        intro oi ho; simp only [List.getElem?_toArray, List.getElem?_cons_succ, List.getElem?_cons_zero, Option.some.injEq] at ho; subst ho; intro K hK
        refine step_app rfl _ _ 108 rfl B 122 it (.slice none 0 0) 1 24 Try.underlying108 hit hz0 hz1 hz2 rfl (by decide) oa OL.length oc (OL.map rowV) rfl ((hC.new kA).go.tab) (some ⟨Z, 0, none⟩) 1 1 [.slice (some ⟨R, 0, none⟩) n2 n2] rfl rfl hlit (by intro u hu; rw [List.mem_singleton.1 hu]; rfl) (by unfold maxLen; omega) (by omega) (Nat.le_trans (Nat.le_trans hBw hKB.size) kA.size) ?_
        intro ao' c' wc hown' hk' hmv
        obtain ⟨⟨hv0, hfz, hCl2⟩, hCn, hKn⟩ := hC.addO (Nat.le_trans hBw hKB.size) kA hRA hRn hown' hk' hmv
        have HCn := Lib.hid hCn
        have hSd : (fun w' : World => w'.cell? ⟨C, 7, none⟩ = some (.slice oa OL.length oc) ∧ C < w'.heap.size) wc := ⟨hv0, hCl2⟩
        refine hK _ _ (fun _ => hSd) ?_
        clear hK K hC hCn hown' hk' hmv kA hRA hRn hlit hSB
        refine anyX_take 10 (by kernel_rfl) (by kernel_rfl) (by kernel_rfl) (by kernel_rfl) (by kernel_rfl) hSd ?_
        intro oi ho; simp only [List.getElem?_toArray, List.getElem?_cons_succ, List.getElem?_cons_zero, Option.some.injEq] at ho; subst ho
        refine ⟨?_, fun _ _ _ h => h, Or.inl ⟨by rfl, ?_⟩, ?_⟩; rotate_left 1
        · (intro wS hSw; (try dsimp only at hSw); go_simp; try with_reducible rfl)
        simp only [Act.put, List.setIfInBounds_toArray, List.set_cons_zero, List.set_cons_succ]
        refine anyX_take 11 (by kernel_rfl) (by kernel_rfl) (by kernel_rfl) (by kernel_rfl) (by kernel_rfl) hSd ?_
        intro oi ho; simp only [List.getElem?_toArray, List.getElem?_cons_succ, List.getElem?_cons_zero, Option.some.injEq] at ho; subst ho
        refine ⟨?_, fun _ _ _ h => h, Or.inl ⟨by rfl, ?_⟩, ?_⟩; rotate_left 1
        · (intro wS hSw; (try dsimp only at hSw); go_simp; try with_reducible rfl)
        simp only [Act.put, List.setIfInBounds_toArray, List.set_cons_zero, List.set_cons_succ]
        refine anyX_one 12 (by kernel_rfl) ?_
        intro oi ho; simp only [List.getElem?_toArray, List.getElem?_cons_succ, List.getElem?_cons_zero, Option.some.injEq] at ho; subst ho; intro K hK
        (try simp only [Act.put, List.setIfInBounds_toArray, List.set_cons_zero, List.set_cons_succ])
        go_simp
        refine hK _ _ (fun hx => by cases hx) ?_
        clear hK K
        refine anyX_done (by kernel_rfl) ?_
        (try simp only [Act.put, List.setIfInBounds_toArray, List.set_cons_zero, List.set_cons_succ])
        replace HY := Lib.hid (hKn.heap HY.out rfl)
        replace HB := Lib.hid (hKn.heap HB.out rfl)
        replace hKB := hKB.trans hKn
        have hC := HCn.out
        generalize (wc.setCell ⟨C, 7, none⟩ (.slice ao' (OL.length + 1) c')) = w7 at HY HB hKB hC ⊢
        clear HCn hKn hv0 hfz hSd hCl2 hdr hCl
        (try simp only [Exit.then])
        replace HOn := HOn R
        generalize (OL ++ [(R, List.replicate n2 false)] : List (Nat × List Bool)) = OL1 at HOn hC
        rw [← hns.out] at hC
        by_cases hs : sh.1 = 0
        · have e2 : (sh.1 != 0) = false := by simp [hs]
          have HG2 := Lib.hid (HE2.out (by rw [hAE.out]; exact hs))
          clear hs hAE HE2 HF
          go_wp2_with fail
          go_roundw
          case rel => exact ⟨k + 1, _, _, _, _, _, _, by omega, by go_num, Lib.hid ⟨hC, HIn.out, HOn.out, HG2.out, HB.out, hKB⟩⟩
          case measure => simp [intOf]; omega
        · have e2 : (sh.1 != 0) = true := by simp [hs]
          have HF2 := Lib.hid (HF.out (by rw [hAE.out]; exact hs))
          clear hs HE2 HF hC
          obtain ⟨⟨r0, r1, r2⟩, ⟨f0, f1, f2⟩, hBB⟩ := spot_cells HB.out
          go_wp2_with fail
          exact bodyPost_ret (v := .tuple #[I sh.1, .agg #[.int .u8 1, I k, I 0]]) (by simp [results, Try.results62, go_sem, r0, r1, r2, f0, f1, f2, hBB]) rfl ⟨by unfold Stage; rw [HF2.out, hAE.out]; rfl, ((hKB.setCell (Nat.le_refl _) _).setCell (Nat.le_refl _) _).setCell (Nat.le_refl _) _⟩
      · have e1 : (nm == 0) = false := by simp [hnm]
        have e2 : (nm != 0) = true := by simp [hnm]
        have e3 : decide (nm = 0) = false := decide_eq_false hnm
        have hA2 : Hid (actE g k x = (nm, 0)) := Lib.hid (by rw [hAE.out, if_pos hnm])
        have HF2 := Lib.hid (HF.out (by rw [hA2.out]; exact hnm))
        clear hnm HE2 HF hC2 hAE
        obtain ⟨⟨r0, r1, r2⟩, ⟨f0, f1, f2⟩, hBB⟩ := spot_cells HB.out
        go_wp2_with fail
        exact bodyPost_ret (v := .tuple #[I nm, .agg #[.int .u8 1, I k, I 0]]) (by simp [results, Try.results62, go_sem, r0, r1, r2, f0, f1, f2, hBB]) rfl ⟨by unfold Stage; rw [HF2.out, hA2.out]; rfl, ((hKB.setCell (Nat.le_refl _) _).setCell (Nat.le_refl _) _).setCell (Nat.le_refl _) _⟩
    · have hke : k = g.acts.length := by omega
      have hkd : decide (k < g.acts.length) = false := decide_eq_false hk1
      rw [hke] at hC HE HI HO
      have hLI : Hid (IL.map (·.2) = side g nIn (fun _ _ => false)) := Lib.hid (by rw [side_none]; have := HI.out; rw [List.take_length] at this; exact this)
      have hLO : Hid (OL.map (·.2) = side g nOut (fun _ _ => false)) := Lib.hid (by rw [side_none]; have := HO.out; rw [List.take_length] at this; exact this)
      have HFN : Hid (firstE (actE g) 0 g.acts = none) := Lib.hid (firstE_all HE.out)
      have HOKK : Hid (∀ W, Chk W B C M g (namesOf g g.acts.length 0 0) ia ic IL oa oc OL → ok W) := Lib.hid (fun W hW => by
        rw [← HOK.out]; exact ⟨ia, ic, IL, oa, oc, OL, hW, hLI.out, hLO.out⟩)
      clear HE HI HO hke hk hk1 hLI hLO HAX
      obtain ⟨⟨r0, r1, r2⟩, ⟨f0, f1, f2⟩, hBB⟩ := spot_cells HB.out
      have HCS := Lib.hid (fun u v x => hC.spot HB.out u v x)
      clear hC
      go_wp2_with fail
      exact bodyPost_ret (v := .tuple #[I 0, .agg #[.int .u8 0, I 0, I 0]]) (by simp [results, Try.results62, go_sem, r0, r1, r2, f0, f1, f2, hBB]) rfl ⟨by unfold Stage; rw [HFN.out]; exact ⟨rfl, HOKK.out _ (HCS.out _ _ _)⟩, ((hKB.setCell (Nat.le_refl _) _).setCell (Nat.le_refl _) _).setCell (Nat.le_refl _) _⟩
end Go.Proofs.Ytijlgcbnoekmeaa
