/-
  Layer 5: strings.Builder.
-/
import Derived.Test.YtohalcbhckahmaaDoorLexJ
import Derived.Test.YtohalcbhckahmaaDoorShelf
import Derived.Lib.AppendStr
import Derived.Lib.Builder
import Derived.Lib.UnsafeStr
namespace Go.Proofs.YtohalcbhckahmaaDoor
open Go Go.RowKit Go.Joins
set_option linter.all false

def bCells (l : List UInt8) : List Value := l.map fun b => Value.int .u8 (b.toNat : Int)
theorem lx_slice {w : World} {B : Nat} {e : TypeId} {size n : Nat} {v : Value} {xs : List Value} (h : w.ownsRow B e size v n xs) : ∃ a c, v = .slice a n c := by
  rcases h.2 with ⟨h0, h1⟩ | ⟨g, cap, cur, h0, _⟩
  · subst h1; exact ⟨none, 0, h0⟩
  · exact ⟨_, _, h0⟩
theorem infoByte : (Tryd.prog.info? 5).map (fun i => (i.zero, i.size, i.bytes)) = some (some (.int .u8 0), 1, 1) := by kernel_rfl
/-- A string appended to bytes of the call's own. -/
theorem wpList_appS {w : World} {ops : Array Oper} {rest : List Oper} {o : Oper} {a : Act} {Q : Exit → Act → World → Prop} (hgd : o.guard = none) (sl x : Operand)
    (ho : o.op = .call { callee := .builtin .append, args := #[sl, x], argTypes := #[47, 9] })
    (base : Nat) (ab : Option Addr) (cb : Nat) (Bs : List UInt8) (n : Nat) (hn : Bs.length = n) (hs : a.eval sl = .slice ab n cb) (hown : w.ownsRow base 5 1 (.slice ab n cb) n (bCells Bs)) (s : ByteArray) (hx : a.eval x = .string s)
    (hb : n + s.size ≤ 2000000) (hbase : base ≤ w.heap.size)
    (h : ∀ a' c' w', w'.ownsRow base 5 1 (.slice a' (n + s.size) c') (n + s.size) (bCells (Bs ++ s.data.toList)) → Keeps (blk ab) w w' → wpList Tryd.prog ops Q rest (a.put o.dst (.slice a' (n + s.size) c')) w') : wpList Tryd.prog ops Q (o :: rest) a w := by
  obtain ⟨i0, hi, hz0, hz1, hz2⟩ := info_parts infoByte
  refine Lib.wpList_append_own_string w hgd sl x 47 9 ho base 5 i0 Tryd.underlying47 Tryd.underlying9 hi hz0 hz1 hz2 (.slice ab n cb) n (bCells Bs) hs hown s hx (by unfold maxLen; omega) (by omega) hbase ?_
  intro v' w' h1 hg _
  obtain ⟨a', c', rfl⟩ := lx_slice h1
  refine h a' c' w' ?_ (Keeps.grown hg (fun k h => blk_of_own h.symm))
  unfold bCells
  rw [List.map_append]
  exact h1
theorem conv_bytes (w : World) (base : Nat) (ab : Option Addr) (cb : Nat) (Bs : List UInt8) (n : Nat) (hn : Bs.length = n) (hown : w.ownsRow base 5 1 (.slice ab n cb) n (bCells Bs)) (X : ByteArray) (hX : X.data.toList = Bs) :
    (convert 47 9 (.slice ab n cb)).run Tryd.prog w = .ok (.string X) w := by
  have hsl := SlAt.of_owns hown
  have hXe : strOfNums (Bs.map fun b => (b.toNat : Int)) = X := by
    apply ByteArray.ext
    apply Array.toList_inj.1
    rw [hX]
    show (Bs.map fun b => (b.toNat : Int)).map (fun n => UInt8.ofNat n.toNat) = Bs
    rw [List.map_map]
    conv => rhs; rw [← List.map_id Bs]
    apply List.map_congr_left
    intro b _
    simp
  cases ab with
  | none =>
    have hz : Bs = [] := by
      cases Bs with
      | nil => rfl
      | cons b r =>
        obtain ⟨x, y, e, _⟩ := hsl.at (i := 0) (by simp [bCells])
        cases e
    subst hz
    have : X = ByteArray.empty := by
      apply ByteArray.ext
      apply Array.toList_inj.1
      rw [hX]; rfl
    rw [this]
    exact run_convert_bytes_nil w 47 5 Tryd.underlying47 Tryd.underlying5 n cb 9 Tryd.underlying9
  | some ad =>
    rcases hown.2 with ⟨h0, _⟩ | ⟨g, cap, cur, h0, _⟩
    · cases h0
    · cases h0
      rw [← hXe]
      refine run_convert_bytes_arg w 47 5 Tryd.underlying47 Tryd.underlying5 g 0 n cb (Bs.map fun b => (b.toNat : Int)) (by rw [List.length_map]; exact hn) (fun i hi => ?_) 9 Tryd.underlying9
      obtain ⟨b, off, e, hc⟩ := hsl.at (i := i) (by unfold bCells; rw [List.length_map]; omega)
      cases e
      rw [hc]
      unfold bCells
      rw [List.getElem_map, List.getD_eq_getElem?_getD, List.getElem?_map, List.getElem?_eq_getElem (by omega)]
      rfl
/-- From w to w' only blocks of some kinds changed, from B on. -/
def KY (p : Obj → Bool) (B : Nat) (w w' : World) : Prop := Keeps (fun k => B ≤ k ∧ ∃ o, w.heap[k]? = some o ∧ p o = true) w w'
section
variable {p : Obj → Bool}
theorem KY.refl (B : Nat) (w : World) : KY p B w w := Keeps.refl _ _
theorem KY.of_new {B : Nat} {w w' : World} (h : New w w') : KY p B w w' := Keeps.mono h (fun _ _ h => h.elim)
theorem KY.trans {B : Nat} {a b c : World} (h : KY p B a b) (k : KY p B b c) : KY p B a c :=
  Keeps.trans h k (fun i hi ⟨hB, o, ho, hc⟩ => by
    refine ⟨hB, ?_⟩
    by_cases hs : B ≤ i ∧ ∃ o, a.heap[i]? = some o ∧ p o = true
    · exact hs.2
    · rw [Keeps.block h i hi hs] at ho
      exact ⟨o, ho, hc⟩)
theorem KY.heap {B : Nat} {w w' : World} (h : KY p B w w') {k : Nat} {o : Obj} (hk : w.heap[k]? = some o) (ho : p o = false) : w'.heap[k]? = some o :=
  Keeps.heap h hk (fun ⟨_, o', h1, h2⟩ => by rw [hk] at h1; cases h1; rw [ho] at h2; cases h2)
theorem KY.new {B : Nat} {w0 w w' : World} (h : KY p B w w') (hB : B = w0.heap.size) (hN : New w0 w) : New w0 w' :=
  New.keeps hN h (fun i hi ⟨hb, _⟩ => by omega)
theorem KY.size {B : Nat} {w w' : World} (h : KY p B w w') : w.heap.size ≤ w'.heap.size := Keeps.size h
theorem KY.set {B : Nat} {w : World} {b i : Nat} {cs : Array Value} {t : TypeId} {fr : Nat × Nat} (h : w.heap[b]? = some (.cells cs t fr)) (hb : B ≤ b) (ht : p (.cells cs t fr) = true) (v : Value) : KY p B w (w.setCell ⟨b, i, none⟩ v) :=
  Keeps.setCell w _ _ ⟨hb, _, h, ht⟩
theorem KY.to {q : Obj → Bool} {B : Nat} {w w' : World} (h : KY p B w w') (hpq : ∀ o, p o = true → q o = true) : KY q B w w' := Keeps.mono h (fun i _ ⟨a, o, b, c⟩ => ⟨a, o, b, hpq o c⟩)
end
/-- The blocks that a builder writes, by what they hold. -/
def bdO : Obj → Bool
  | .cells _ t _ => t == 74 || t == 5
  | _ => false
abbrev KZ (B : Nat) (w w' : World) : Prop := KY bdO B w w'
/-- A builder at block b that holds the bytes l. -/
structure BdAt (w : World) (B b : Nat) (p : Value) (l : List UInt8) (a : Option Addr) (c : Nat) : Prop where
  hB : B ≤ b
  bk : w.heap[b]? = some (.cells #[p, .slice a l.length c] 74 (0, 0))
  ow : w.ownsRow B 5 1 (.slice a l.length c) l.length (bCells l)
def Bd (w : World) (B b : Nat) (l : List UInt8) : Prop := ∃ p a c, (p = .pointer none ∨ p = .pointer (some ⟨b, 0, none⟩)) ∧ BdAt w B b p l a c
theorem BdAt.new {w w' : World} {B b : Nat} {p : Value} {l : List UInt8} {a : Option Addr} {c : Nat} (h : BdAt w B b p l a c) (n : New w w') : BdAt w' B b p l a c := ⟨h.hB, Keeps.heap n h.bk (fun h => h), n.owns h.ow⟩
theorem Bd.new {w w' : World} {B b : Nat} {l : List UInt8} (h : Bd w B b l) (n : New w w') : Bd w' B b l := by
  obtain ⟨p, a, c, hp, h⟩ := h
  exact ⟨p, a, c, hp, h.new n⟩
theorem Bd.start (w : World) : Bd (w.alloc (.cells #[.pointer none, .slice none 0 0] 74)) w.heap.size w.heap.size [] :=
  ⟨_, none, 0, .inl rfl, Nat.le_refl _, heap_alloc_new w _, World.ownsRow_nil _ _ _ _⟩
theorem bd_own {w : World} {B e size n c : Nat} {a : Option Addr} {xs : List Value} (h : w.ownsRow B e size (.slice a n c) n xs) {g : Nat} (hg : blk a g) : ∃ cur, w.heap[g]? = some (.cells cur e (0, 0)) := by
  rcases h.2 with ⟨h0, h1⟩ | ⟨g', cap, cur, h0, hb, hc, rest⟩
  · cases h0; obtain ⟨x, hx, _⟩ := hg; cases hx
  · cases h0; obtain ⟨x, hx, rfl⟩ := hg; cases hx; exact ⟨cur, hc⟩
theorem infoBuilder : (Tryd.prog.info? 74).map (fun i => i.size) = some 2 := by kernel_rfl
set_option maxRecDepth 100000 in
set_option maxHeartbeats 4000000 in
theorem copyCheck_any (w : World) (B b : Nat) (p : Value) (l : List UInt8) (a : Option Addr) (c : Nat) (hp : p = .pointer none ∨ p = .pointer (some ⟨b, 0, none⟩)) (h : BdAt w B b p l a c) :
    Calls Tryd.prog 68 #[.pointer (some ⟨b, 0, none⟩)] w fun e w' => e = .returned (.tuple #[]) ∧ BdAt w' B b (.pointer (some ⟨b, 0, none⟩)) l a c ∧ KZ B w w' := by
  obtain ⟨j, hj, hjs⟩ := Option.map_eq_some_iff.1 infoBuilder
  have h0 : w.cell? ⟨b, 0, none⟩ = some p := by rw [cell_of_block h.bk 0]; rfl
  have hfz := unfrozen_of_block h.bk 0
  have hsh : w.shape? b = some (74, 2) := by simp [World.shape?, h.bk]
  have hlt := (Array.getElem?_eq_some_iff.1 h.bk).1
  have hset := block_setCell (i := 0) h.bk (.pointer (some ⟨b, 0, none⟩))
  have HS : Hid (BdAt (w.setCell ⟨b, 0, none⟩ (.pointer (some ⟨b, 0, none⟩))) B b (.pointer (some ⟨b, 0, none⟩)) l a c ∧ KZ B w (w.setCell ⟨b, 0, none⟩ (.pointer (some ⟨b, 0, none⟩)))) := Lib.hid ⟨⟨h.hB, by rw [hset]; simp, (Keeps.setCell (S := fun k => k = b) w ⟨b, 0, none⟩ (.pointer (some ⟨b, 0, none⟩)) rfl).owns h.ow (fun g hg e => by
    obtain ⟨cur, hc⟩ := bd_own h.ow (blk_of_own hg)
    rw [e] at hc; rw [h.bk] at hc; simp at hc)⟩, KY.set h.bk h.hB (by simp [bdO]) _⟩
  have H := Lib.hid h
  clear h hset
  rcases hp with rfl | rfl
  · go_enter Tryd.func68, Tryd.ntmps68
    go_wp2
    rw [Lib.run_to_unsafe w ⟨b, 0, none⟩ Tryd.underlying72 Tryd.underlying111 hj (by rw [hjs]; decide) hsh (Nat.zero_lt_succ 1)]
    simp only [Result.andThen]
    rw [Oper.upon_value]
    go_wp2
    rw [run_callFunc_extern Tryd.func81 (by kernel_rfl) (by kernel_rfl) (by kernel_rfl) (e := Extern.AbiNoEscape.same) (by kernel_rfl)]
    rw [Lib.run_noEscape]
    simp only [Result.andThen]
    rw [Oper.upon_value]
    go_wp2
    rw [Lib.run_from_unsafe w ⟨b, 0, none⟩ Tryd.underlying111 Tryd.underlying72 hj hsh (by kernel_rfl)]
    simp only [Result.andThen]
    rw [Oper.upon_value]
    go_wp2
    go_end0
    exact ⟨rfl, HS.out.1, HS.out.2⟩
  · go_enter Tryd.func68, Tryd.ntmps68
    go_wp2
    rw [Lib.run_neq_ptr_same w _ Tryd.underlying72 hj]
    go_wp2
    go_end0
    exact ⟨rfl, H.out, KY.refl _ _⟩
set_option maxRecDepth 100000 in
set_option maxHeartbeats 4000000 in
theorem wstr_any (w : World) (B b : Nat) (l : List UInt8) (s : ByteArray) (h : Bd w B b l) (hl : l.length + s.size ≤ 140737488355328) (hB : B ≤ w.heap.size) :
    Calls Tryd.prog 41 #[.pointer (some ⟨b, 0, none⟩), .string s] w fun e w' => e = .returned (.tuple #[.int .i64 s.size, .nilIface]) ∧ Bd w' B b (l ++ s.data.toList) ∧ KZ B w w' := by
  obtain ⟨p, a, c, hp, h⟩ := h
  obtain ⟨i0, hi, hz0, hz1, hz2⟩ := info_parts infoByte
  have hcc := copyCheck_any w B b p l a c hp h
  have hs63 : s.size ≤ 9223372036854775807 := by omega
  clear h hp
  go_enter Tryd.func41, Tryd.ntmps41
  go_wp2_with fail
  refine hcc.mono ?_
  rintro e w1 ⟨rfl, h1, k1⟩
  have hbk := h1.bk
  have c1 : w1.cell? ⟨b, 1, none⟩ = some (.slice a l.length c) := by rw [cell_of_block hbk 1]; rfl
  have H1 := Lib.hid h1
  have hb1 : B ≤ w1.heap.size := Nat.le_trans hB k1.size
  obtain ⟨n, hn⟩ : ∃ n, l.length = n := ⟨_, rfl⟩
  rw [hn] at c1
  have HN := Lib.hid hn
  have how := h1.ow
  rw [hn] at how hl
  clear hn hbk h1
  go_wp2_with (at_builtin; refine Lib.wpList_append_own_string w1 rfl _ _ 47 9 rfl B 5 i0 Tryd.underlying47 Tryd.underlying9 hi hz0 hz1 hz2 (.slice a n c) n (bCells l) rfl how s rfl ?c1 ?c2 hb1 ?_)
  case c1 => unfold maxLen; omega
  case c2 => omega
  intro v' w2 hown hg _
  obtain ⟨a', c', rfl⟩ := lx_slice hown
  have hk2 : Keeps (blk a) w1 w2 := Keeps.grown hg (fun k h => blk_of_own h.symm)
  have hnb : ∀ g, blk a g → g ≠ b := fun g hg e => by
    obtain ⟨cur, hc⟩ := bd_own how hg
    rw [e, H1.out.bk] at hc; simp at hc
  have hb2 := hk2.heap H1.out.bk (fun h => hnb _ h rfl)
  have kz2 : KZ B w1 w2 := hk2.mono (fun i hi hx => by
    obtain ⟨cur, hc⟩ := bd_own how hx
    exact ⟨(own_of_blk how hx).1, _, hc, by simp [bdO]⟩)
  have d1 : w2.cell? ⟨b, 1, none⟩ = some (.slice a l.length c) := by rw [cell_of_block hb2 1]; rfl
  have f1 := unfrozen_of_block hb2 1
  have hlt := (Array.getElem?_eq_some_iff.1 hb2).1
  have hset := block_setCell (i := 1) hb2 (.slice a' (n + s.size) c')
  have hLen : (l ++ s.data.toList).length = n + s.size := by rw [List.length_append, HN.out]; simp
  have hfin : Hid (Bd (w2.setCell ⟨b, 1, none⟩ (.slice a' (n + s.size) c')) B b (l ++ s.data.toList) ∧ KZ B w (w2.setCell ⟨b, 1, none⟩ (.slice a' (n + s.size) c'))) := Lib.hid ⟨⟨_, a', c', .inr rfl, H1.out.hB, by rw [hset, hLen]; simp, by
    rw [hLen]
    have h3 := (Keeps.setCell (S := fun k => k = b) w2 ⟨b, 1, none⟩ (.slice a' (n + s.size) c') rfl).owns hown (fun g hg e => by
      obtain ⟨cur, hc⟩ := bd_own hown (blk_of_own hg)
      rw [e] at hc; rw [hb2] at hc; simp at hc)
    unfold bCells
    rw [List.map_append]
    exact h3⟩, (k1.trans kz2).trans (KY.set hb2 H1.out.hB (by simp [bdO]) _)⟩
  clear hown hg hk2 hnb hb2 kz2 hset hLen how k1 c1
  go_wp2_with fail
  refine bodyPost_ret (v := .tuple #[.int .i64 s.size, .nilIface]) (by simp [results, Tryd.results41, go_sem]) rfl ?_
  exact ⟨rfl, hfin.out.1, hfin.out.2⟩
set_option maxRecDepth 100000 in
set_option maxHeartbeats 4000000 in
theorem wbyte_any (w : World) (B b : Nat) (l : List UInt8) (x : UInt8) (h : Bd w B b l) (hl : l.length + 1 ≤ 140737488355328) (hB : B ≤ w.heap.size) :
    Calls Tryd.prog 82 #[.pointer (some ⟨b, 0, none⟩), .int .u8 (x.toNat : Int)] w fun e w' => e = .returned .nilIface ∧ Bd w' B b (l ++ [x]) ∧ KZ B w w' := by
  obtain ⟨p, a, c, hp, h⟩ := h
  obtain ⟨i0, hi, hz0, hz1, hz2⟩ := info_parts infoByte
  have hcc := copyCheck_any w B b p l a c hp h
  clear h hp
  obtain ⟨xi, hxi⟩ : ∃ i : Int, (x.toNat : Int) = i := ⟨_, rfl⟩
  have HXI := Lib.hid hxi
  rw [hxi]
  clear hxi
  go_enter Tryd.func82, Tryd.ntmps82
  go_wp2_with fail
  refine hcc.mono ?_
  rintro e w1 ⟨rfl, h1, k1⟩
  have hbk := h1.bk
  have c1 : w1.cell? ⟨b, 1, none⟩ = some (.slice a l.length c) := by rw [cell_of_block hbk 1]; rfl
  have H1 := Lib.hid h1
  have hb1 : B ≤ w1.heap.size := Nat.le_trans hB k1.size
  have na : New w1 (w1.alloc (.cells #[.int .u8 xi] 5)) := (New.refl _).alloc _
  obtain ⟨n, hn⟩ : ∃ n, l.length = n := ⟨_, rfl⟩
  rw [hn] at c1
  have HN := Lib.hid hn
  have how := na.owns h1.ow
  rw [hn] at how hl
  have hbk1 := Keeps.heap na hbk (fun h => h)
  have HB1 := Lib.hid hbk1
  have hltB := (Array.getElem?_eq_some_iff.1 hbk).1
  have hsrc : SlAt (w1.alloc (.cells #[.int .u8 xi] 5)) (some ⟨w1.heap.size, 0, none⟩) [Value.int .u8 xi] := SlAt.lit w1 _ _
  have hone : ∀ u ∈ [Value.int .u8 xi], u.oneCell' = true := by intro u hu; simp only [List.mem_cons, List.not_mem_nil, or_false] at hu; rcases hu with rfl; rfl
  have HOW := Lib.hid how
  clear hn hbk h1 hbk1
  go_wp2_with (at_builtin; refine wpList_app rfl _ _ 47 rfl B 5 i0 _ 1 1 Tryd.underlying47 hi hz0 hz1 hz2 rfl (by decide) a n c (bCells l) rfl how (some ⟨w1.heap.size, 0, none⟩) 1 1 [Value.int .u8 xi] rfl rfl hsrc hone ?c1 ?c2 ?c3 ?_)
  case c1 => unfold maxLen; omega
  case c2 => omega
  case c3 => exact Nat.le_trans hb1 na.size
  intro a' c' w2 hown hk2 _ _
  have hnb : ∀ g, blk a g → g ≠ b := fun g hg e => by
    obtain ⟨cur, hc⟩ := bd_own HOW.out hg
    rw [e, HB1.out] at hc; simp at hc
  have hb2 := hk2.heap HB1.out (fun h => hnb _ h rfl)
  have kz2 : KZ B (w1.alloc (.cells #[.int .u8 xi] 5)) w2 := hk2.mono (fun i hi hx => by
    obtain ⟨cur, hc⟩ := bd_own HOW.out hx
    exact ⟨(own_of_blk HOW.out hx).1, _, hc, by simp [bdO]⟩)
  have d1 : w2.cell? ⟨b, 1, none⟩ = some (.slice a l.length c) := by rw [cell_of_block hb2 1]; rfl
  have f1 := unfrozen_of_block hb2 1
  have hlt := (Array.getElem?_eq_some_iff.1 hb2).1
  have hset := block_setCell (i := 1) hb2 (.slice a' (n + 1) c')
  have hLen : (l ++ [x]).length = n + 1 := by rw [List.length_append, HN.out]; rfl
  have hfin : Hid (Bd (w2.setCell ⟨b, 1, none⟩ (.slice a' (n + 1) c')) B b (l ++ [x]) ∧ KZ B w (w2.setCell ⟨b, 1, none⟩ (.slice a' (n + 1) c'))) := Lib.hid ⟨⟨_, a', c', .inr rfl, H1.out.hB, by rw [hset, hLen]; simp, by
    rw [hLen]
    have h3 := (Keeps.setCell (S := fun k => k = b) w2 ⟨b, 1, none⟩ (.slice a' (n + 1) c') rfl).owns hown (fun g hg e => by
      obtain ⟨cur, hc⟩ := bd_own hown (blk_of_own hg)
      rw [e] at hc; rw [hb2] at hc; simp at hc)
    unfold bCells
    rw [List.map_append, List.map_cons, List.map_nil, HXI.out]
    exact h3⟩, ((k1.trans (KY.of_new na)).trans kz2).trans (KY.set hb2 H1.out.hB (by simp [bdO]) _)⟩
  clear hown hk2 hnb hb2 kz2 hset hLen how k1 c1 na HOW HB1 hsrc hone
  go_wp2_with fail
  go_ret
  exact ⟨rfl, hfin.out.1, hfin.out.2⟩
set_option maxRecDepth 100000 in
theorem blen_any (w : World) (B b : Nat) (l : List UInt8) (h : Bd w B b l) :
    Calls Tryd.prog 42 #[.pointer (some ⟨b, 0, none⟩)] w fun e w' => e = .returned (I (l.length : Int)) ∧ w' = w := by
  obtain ⟨p, a, c, -, h⟩ := h
  have c1 : w.cell? ⟨b, 1, none⟩ = some (.slice a l.length c) := by rw [cell_of_block h.bk 1]; rfl
  clear h
  obtain ⟨n, hn⟩ : ∃ n, l.length = n := ⟨_, rfl⟩
  rw [hn] at c1 ⊢
  clear hn
  go_enter Tryd.func42, Tryd.ntmps42
  go_wp2_with fail
  go_ret
  exact ⟨rfl, rfl⟩
theorem bstr_any (w : World) (B b : Nat) (l : List UInt8) (h : Bd w B b l) (hB : B ≤ w.heap.size) :
    Calls Tryd.prog 44 #[.pointer (some ⟨b, 0, none⟩)] w fun e w' => e = .returned (.string ⟨l.toArray⟩) ∧ Below B w w' := by
  obtain ⟨p, a, c, hp, h⟩ := h
  refine Tryd.Builder_String_any B b l w ?_ hB
  have hlen : (Lib.byteCells l).length = l.length := by simp [Lib.byteCells]
  have h2 : Lib.BuilderAt 74 5 B b p (Lib.byteCells l) w := ⟨h.hB, _, h.bk, by rw [hlen]; exact h.ow, fun e => by
    obtain ⟨cur, hc⟩ := bd_own h.ow (blk_of_own e)
    rw [h.bk] at hc; simp at hc⟩
  rcases hp with rfl | rfl
  · exact .inl h2
  · exact .inr h2
end Go.Proofs.YtohalcbhckahmaaDoor
