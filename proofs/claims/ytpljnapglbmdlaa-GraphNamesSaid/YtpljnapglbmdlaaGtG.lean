/-
  Layer 8: the graphs of the closed sentence GraphNames.
-/
import Derived.Test.YtpljnapglbmdlaaGsC
import Derived.Test.YtpljnapglbmdlaaGsH
namespace Go.Proofs.Ytpljnapglbmdlaa
open Go Go.RowKit Go.Joins
set_option linter.all false

def actA : GAct := ⟨⟨#[97]⟩, 0, none, 0, []⟩
def nmG (nm : ByteArray) (a : Option Addr) (c k : Nat) : Gr := ⟨nm, a, c, List.replicate k actA, none, 0, [], none, 0, [], none, 0, []⟩
theorem nm_find0 : (findG (nmG ⟨#[]⟩ none 0 0)).1 = 82 := by kernel_rfl
theorem nm_find1 : (findG (nmG ⟨#[103]⟩ none 0 0)).1 = 80 := by kernel_rfl
theorem nm_find2 (a : Option Addr) (c : Nat) : (findG (nmG ⟨#[103]⟩ a c 32)).1 = 60 := by
  rw [← findG_bare]; kernel_rfl
theorem nm_find3 (a : Option Addr) (c : Nat) : (findG (nmG ⟨#[103]⟩ a c 33)).1 = 81 := by
  rw [← findG_bare]; kernel_rfl
structure NmA (w : World) (k : Nat) (a : Option Addr) (c : Nat) (w' : World) : Prop where
  ao : w'.ownsRow (w.heap.size + 1) 55 3 (.slice a k c) k ((List.replicate k actA).flatMap actCells)
  bl : w'.heap[w.heap.size]? = some (.cells #[.string ⟨#[103]⟩, .slice a k c, .slice none 0 0, .slice none 0 0, .slice none 0 0] 26 (0, 0))
  nw : New w w'
theorem NmA.new {w w1 w2 : World} {k : Nat} {a : Option Addr} {c : Nat} (h : NmA w k a c w1) (n : New w1 w2) : NmA w k a c w2 := ⟨n.owns h.ao, Keeps.heap n h.bl (fun h => h), h.nw.trans n⟩
theorem NmA.at {w w' : World} {k : Nat} {a : Option Addr} {c : Nat} (h : NmA w k a c w') (nm : ByteArray) : GrAt w' (nmG nm a c k) := by
  refine ⟨SlAt.of_owns h.ao, SlAt.nil _ _, SlAt.nil _ _, SlAt.nil _ _, fun x hx => ?_, (fun x hx => by cases hx)⟩
  rw [List.eq_of_mem_replicate hx]
  exact SlAt.nil _ _
theorem nm_len (nm : ByteArray) (h : nm.size ≤ 10) (a : Option Addr) (c k : Nat) (hk : k ≤ 100) : GLen (nmG nm a c k) := by
  refine ⟨by simp [nmG]; omega, by simp [nmG], by simp [nmG], by simp [nmG], fun x hx => ?_, (fun x hx => by cases hx), (fun x hx => by cases hx), (fun x hx => by cases hx), show nm.size ≤ _ by omega⟩
  rw [List.eq_of_mem_replicate hx]
  exact ⟨by simp [actA], by decide⟩
theorem NmA.add {w w1 w2 w3 : World} {k : Nat} {a : Option Addr} {c : Nat} (h : NmA w k a c w1) (k12 : New w1 w2) {a' : Option Addr} {c' : Nat}
    (ho : w3.ownsRow (w.heap.size + 1) 55 3 (.slice a' (k + 1) c') (k + 1) ((List.replicate k actA).flatMap actCells ++ actCells actA)) (hk : Keeps (blk a) w2 w3) :
    (w3.cell? ⟨w.heap.size, 1, none⟩ = some (.slice a k c) ∧ w3.frozen? ⟨w.heap.size, 1, none⟩ = false ∧ w.heap.size < w3.heap.size) ∧ NmA w (k + 1) a' c' (w3.setCell ⟨w.heap.size, 1, none⟩ (.slice a' (k + 1) c')) := by
  have h2 := h.new k12
  have hne : ¬ blk a w.heap.size := fun hx => by have := (own_of_blk h2.ao hx).1; omega
  have hP3 := hk.heap h2.bl hne
  have ks : Keeps (fun k => k = w.heap.size) w3 (w3.setCell ⟨w.heap.size, 1, none⟩ (.slice a' (k + 1) c')) := Keeps.setCell w3 _ _ rfl
  obtain ⟨p0, p1, p2, p3, p4, hPl⟩ := gr_cells hP3
  refine ⟨⟨p1, unfrozen_of_block hP3 1, hPl⟩, ⟨?_, ?_, ?_⟩⟩
  · have := own_oth ho ks (fun k hk => ⟨_, _, _, hk ▸ hP3, by decide⟩)
    have he : (List.replicate (k + 1) actA).flatMap actCells = (List.replicate k actA).flatMap actCells ++ actCells actA := by
      rw [List.replicate_succ']; simp
    rw [he]; exact this
  · rw [block_setCell hP3]; simp
  · exact New.keeps (New.keeps h2.nw hk (fun i hi hx => by have := (own_of_blk h2.ao hx).1; omega)) ks (fun i hi e => by omega)

theorem row_own {w : World} {B b n : Nat} {T : TypeId} {size : Nat} {cs : List Value} (hb : w.heap[b]? = some (.cells cs.toArray T (0, 0))) (hB : B ≤ b) (hl : cs.length = n * size) (hn : n ≤ 1000) : w.ownsRow B T size (.slice (some ⟨b, 0, none⟩) n n) n cs :=
  ⟨hl, .inr ⟨b, n, _, rfl, hB, hb, Nat.le_refl _, by unfold maxLen; omega, by simpa using hl, by
    rw [← hl]; simp⟩⟩
/-- The small graph with another name, edge, list of numbers. -/
def smX (n : Nat) (nm : ByteArray) (f : Int) (a : Option Addr) (c : Nat) (xs : List Int) : Gr :=
  ⟨⟨#[103]⟩, some ⟨n + 1 + 1, 0, none⟩, 2, [⟨⟨#[97]⟩, 2, some ⟨n + 1, 0, none⟩, 1, [2]⟩, ⟨nm, 8, none, 0, []⟩], some ⟨n + 1 + 1 + 1 + 1, 0, none⟩, 1, [⟨f, 0, 1, 0, a, c, xs⟩],
    some ⟨n + 1 + 1 + 1 + 1 + 1, 0, none⟩, 1, [⟨⟨#[120]⟩, 0, 0⟩], some ⟨n + 1 + 1 + 1 + 1 + 1 + 1, 0, none⟩, 1, [⟨⟨#[121]⟩, 1, 0⟩]⟩
structure SmX (w : World) (n : Nat) (nm : ByteArray) (f : Int) (a : Option Addr) (c : Nat) (xs : List Int) : Prop where
  b1 : w.heap[n + 1]? = some (.cells #[I 2] 3 (0, 0))
  b2 : w.heap[n + 1 + 1]? = some (.cells #[.string ⟨#[97]⟩, .int .u8 2, .slice (some ⟨n + 1, 0, none⟩) 1 1, .string nm, .int .u8 8, .slice none 0 0] 55 (0, 0))
  s3 : SlAt w a (Is xs)
  b4 : w.heap[n + 1 + 1 + 1 + 1]? = some (.cells #[I f, I 0, I 1, I 0, .slice a xs.length c] 58 (0, 0))
  b5 : w.heap[n + 1 + 1 + 1 + 1 + 1]? = some (.cells #[.string ⟨#[120]⟩, I 0, I 0] 60 (0, 0))
  b6 : w.heap[n + 1 + 1 + 1 + 1 + 1 + 1]? = some (.cells #[.string ⟨#[121]⟩, I 1, I 0] 60 (0, 0))
theorem SmAt.x {w : World} {n : Nat} (h : SmAt w n 0) : SmX w n ⟨#[98]⟩ 0 (some ⟨n + 1 + 1 + 1, 0, none⟩) 1 [7] := ⟨h.b1, h.b2, SlAt.block (cs := Is [7]) h.b3, h.b4, h.b5, h.b6⟩
theorem SmX.at {w : World} {n : Nat} {nm : ByteArray} {f : Int} {a : Option Addr} {c : Nat} {xs : List Int} (h : SmX w n nm f a c xs) : GrAt w (smX n nm f a c xs) := by
  refine ⟨SlAt.block (cs := (smX n nm f a c xs).acts.flatMap actCells) h.b2, SlAt.block (cs := (smX n nm f a c xs).edges.flatMap edgeCells) h.b4, SlAt.block (cs := (smX n nm f a c xs).ins.flatMap portCells) h.b5, SlAt.block (cs := (smX n nm f a c xs).outs.flatMap portCells) h.b6, fun x hx => ?_, fun x hx => ?_⟩
  · simp only [smX, List.mem_cons, List.not_mem_nil, or_false] at hx
    rcases hx with rfl | rfl
    · exact SlAt.block (cs := Is [2]) h.b1
    · exact SlAt.nil _ _
  · simp only [smX, List.mem_cons, List.not_mem_nil, or_false] at hx
    subst hx
    exact h.s3
theorem smX_len (n : Nat) (nm : ByteArray) (f : Int) (a : Option Addr) (c : Nat) (xs : List Int) (h1 : nm.size ≤ 10) (h2 : xs.length ≤ 1000) : GLen (smX n nm f a c xs) := by
  refine ⟨by simp [smX], by simp [smX], by simp [smX], by simp [smX], fun x hx => ?_, fun x hx => ?_, fun x hx => ?_, fun x hx => ?_, by show (⟨#[103]⟩ : ByteArray).size ≤ _; decide⟩
  · simp only [smX, List.mem_cons, List.not_mem_nil, or_false] at hx
    rcases hx with rfl | rfl
    · exact ⟨by simp, by show (⟨#[97]⟩ : ByteArray).size ≤ _; decide⟩
    · exact ⟨by simp, show nm.size ≤ _ by omega⟩
  · simp only [smX, List.mem_cons, List.not_mem_nil, or_false] at hx
    subst hx
    show xs.length ≤ _; omega
  · simp only [smX, List.mem_cons, List.not_mem_nil, or_false] at hx
    subst hx; decide
  · simp only [smX, List.mem_cons, List.not_mem_nil, or_false] at hx
    subst hx; decide
theorem smX_find1 (n : Nat) (a : Option Addr) (c : Nat) : (findG (smX n ⟨#[97]⟩ 0 a c [7])).1 = 83 := by
  rw [← findG_bare]; kernel_rfl
theorem smX_find2 (n : Nat) (a : Option Addr) (c : Nat) : (findG (smX n ⟨#[98]⟩ 2 a c [7])).1 = 84 := by
  rw [← findG_bare]; kernel_rfl
theorem smX_find3 (n : Nat) (a : Option Addr) (c : Nat) : (findG (smX n ⟨#[98]⟩ 0 a c (7 :: List.replicate 255 1))).1 = 0 := by
  rw [← findG_bare]; kernel_rfl
theorem smX_find4 (n : Nat) (a : Option Addr) (c : Nat) : (findG (smX n ⟨#[98]⟩ 0 a c (7 :: List.replicate 256 1))).1 = 88 := by
  rw [← findG_bare]; kernel_rfl
/-- .. with its edge twice. -/
def smT (n : Nat) (a : Option Addr) (c : Nat) : Gr :=
  { smX n ⟨#[98]⟩ 0 (some ⟨n + 1 + 1 + 1, 0, none⟩) 1 [7] with ea := a, ec := c, edges := [⟨0, 0, 1, 0, some ⟨n + 1 + 1 + 1, 0, none⟩, 1, [7]⟩, ⟨0, 0, 1, 0, some ⟨n + 1 + 1 + 1, 0, none⟩, 1, [7]⟩] }
theorem smT_find (n : Nat) (a : Option Addr) (c : Nat) : (findG (smT n a c)).1 = 86 := by
  rw [← findG_bare]; kernel_rfl
abbrev smCs (n : Nat) : Array Value := #[.string ⟨#[103]⟩, .slice (some ⟨n + 1 + 1, 0, none⟩) 2 2, .slice (some ⟨n + 1 + 1 + 1 + 1, 0, none⟩) 1 1, .slice (some ⟨n + 1 + 1 + 1 + 1 + 1, 0, none⟩) 1 1, .slice (some ⟨n + 1 + 1 + 1 + 1 + 1 + 1, 0, none⟩) 1 1]
theorem SmAt.g {W W' : World} {n G : Nat} (h : SmAt W n 0) (k : Keeps (fun k => k = G) W W') (hG : G < n) : SmAt W' n 0 :=
  ⟨k.heap h.b1 (by omega), k.heap h.b2 (by omega), k.heap h.b3 (by omega), k.heap h.b4 (by omega), k.heap h.b5 (by omega), k.heap h.b6 (by omega)⟩
theorem SmAt.setE {W : World} {n : Nat} (h : SmAt W n 0) : SmX (W.setCell ⟨n + 1 + 1, 3, none⟩ (.string ⟨#[97]⟩)) n ⟨#[97]⟩ 0 (some ⟨n + 1 + 1 + 1, 0, none⟩) 1 [7] := by
  have k : Keeps (fun k => k = n + 1 + 1) W (W.setCell ⟨n + 1 + 1, 3, none⟩ (.string ⟨#[97]⟩)) := Keeps.setCell W _ _ rfl
  refine ⟨k.heap h.b1 (by omega), ?_, SlAt.block (cs := Is [7]) (k.heap h.b3 (by omega)), k.heap h.b4 (by omega), k.heap h.b5 (by omega), k.heap h.b6 (by omega)⟩
  have := block_setCell (i := 3) h.b2 (.string ⟨#[97]⟩)
  simpa using this
theorem SmAt.setF {W : World} {n : Nat} (h : SmAt W n 0) : SmX (W.setCell ⟨n + 1 + 1 + 1 + 1, 0, none⟩ (I 2)) n ⟨#[98]⟩ 2 (some ⟨n + 1 + 1 + 1, 0, none⟩) 1 [7] := by
  have k : Keeps (fun k => k = n + 1 + 1 + 1 + 1) W (W.setCell ⟨n + 1 + 1 + 1 + 1, 0, none⟩ (I 2)) := Keeps.setCell W _ _ rfl
  refine ⟨k.heap h.b1 (by omega), k.heap h.b2 (by omega), SlAt.block (cs := Is [7]) (k.heap h.b3 (by omega)), ?_, k.heap h.b5 (by omega), k.heap h.b6 (by omega)⟩
  have := block_setCell (i := 0) h.b4 (I 2)
  simpa using this
theorem smT_at {W : World} {n c : Nat} {a : Option Addr} (b1 : W.heap[n + 1]? = some (.cells #[I 2] 3 (0, 0)))
    (b2 : W.heap[n + 1 + 1]? = some (.cells #[.string ⟨#[97]⟩, .int .u8 2, .slice (some ⟨n + 1, 0, none⟩) 1 1, .string ⟨#[98]⟩, .int .u8 8, .slice none 0 0] 55 (0, 0)))
    (b3 : W.heap[n + 1 + 1 + 1]? = some (.cells #[I 7] 3 (0, 0))) (b5 : W.heap[n + 1 + 1 + 1 + 1 + 1]? = some (.cells #[.string ⟨#[120]⟩, I 0, I 0] 60 (0, 0)))
    (b6 : W.heap[n + 1 + 1 + 1 + 1 + 1 + 1]? = some (.cells #[.string ⟨#[121]⟩, I 1, I 0] 60 (0, 0)))
    (ha : SlAt W a (edgeCells ⟨0, 0, 1, 0, some ⟨n + 1 + 1 + 1, 0, none⟩, 1, [7]⟩ ++ edgeCells ⟨0, 0, 1, 0, some ⟨n + 1 + 1 + 1, 0, none⟩, 1, [7]⟩)) : GrAt W (smT n a c) := by
  refine ⟨SlAt.block (cs := (smT n a c).acts.flatMap actCells) b2, ha, SlAt.block (cs := (smT n a c).ins.flatMap portCells) b5, SlAt.block (cs := (smT n a c).outs.flatMap portCells) b6, fun x hx => ?_, fun x hm => ?_⟩
  · simp only [smT, smX, List.mem_cons, List.not_mem_nil, or_false] at hx
    rcases hx with rfl | rfl
    · exact SlAt.block (cs := Is [2]) b1
    · exact SlAt.nil _ _
  · simp only [smT, List.mem_cons, List.not_mem_nil, or_false, or_self] at hm
    subst hm
    exact SlAt.block (cs := Is [7]) b3
theorem smT_len (n : Nat) (a : Option Addr) (c : Nat) : GLen (smT n a c) := by
  have h := smX_len n ⟨#[98]⟩ 0 (some ⟨n + 1 + 1 + 1, 0, none⟩) 1 [7] (by decide) (by decide)
  refine ⟨h.a, by simp [smT], h.i, h.o, h.ax, fun x hm => ?_, h.ix, h.ox, h.n⟩
  simp only [smT, List.mem_cons, List.not_mem_nil, or_false, or_self] at hm
  subst hm
  show ([7] : List Int).length ≤ _
  decide
/-- How far the small graph's list of numbers has been grown. -/
structure StA (w : World) (n k : Nat) (a : Option Addr) (c : Nat) (w' : World) : Prop where
  so : w'.ownsRow (w.heap.size + 1) 3 1 (.slice a (k + 1) c) (k + 1) (Is (7 :: List.replicate k 1))
  b1 : w'.heap[n + 1]? = some (.cells #[I 2] 3 (0, 0))
  b2 : w'.heap[n + 1 + 1]? = some (.cells #[.string ⟨#[97]⟩, .int .u8 2, .slice (some ⟨n + 1, 0, none⟩) 1 1, .string ⟨#[98]⟩, .int .u8 8, .slice none 0 0] 55 (0, 0))
  b4 : w'.heap[n + 1 + 1 + 1 + 1]? = some (.cells #[I 0, I 0, I 1, I 0, .slice a (k + 1) c] 58 (0, 0))
  b5 : w'.heap[n + 1 + 1 + 1 + 1 + 1]? = some (.cells #[.string ⟨#[120]⟩, I 0, I 0] 60 (0, 0))
  b6 : w'.heap[n + 1 + 1 + 1 + 1 + 1 + 1]? = some (.cells #[.string ⟨#[121]⟩, I 1, I 0] 60 (0, 0))
  na : ¬ blk a (n + 1)
  bl : w'.heap[w.heap.size]? = some (.cells (smCs n) 26 (0, 0))
  nw : New w w'
  hn : w.heap.size < n
theorem StA.new {w w1 w2 : World} {n k c : Nat} {a : Option Addr} (h : StA w n k a c w1) (m : New w1 w2) : StA w n k a c w2 :=
  ⟨m.owns h.so, Keeps.heap m h.b1 (fun h => h), Keeps.heap m h.b2 (fun h => h), Keeps.heap m h.b4 (fun h => h), Keeps.heap m h.b5 (fun h => h), Keeps.heap m h.b6 (fun h => h), h.na, Keeps.heap m h.bl (fun h => h), h.nw.trans m, h.hn⟩
theorem StA.at {w w1 : World} {n k c : Nat} {a : Option Addr} (h : StA w n k a c w1) : GrAt w1 (smX n ⟨#[98]⟩ 0 a c (7 :: List.replicate k 1)) :=
  SmX.at ⟨h.b1, h.b2, SlAt.of_owns h.so, by have := h.b4; simpa using this, h.b5, h.b6⟩
theorem SmAt.st {w w' : World} {n : Nat} (h : SmAt w' n 0) (hb : w'.heap[w.heap.size]? = some (.cells (smCs n) 26 (0, 0))) (nw : New w w') (hn : w.heap.size < n) : StA w n 0 (some ⟨n + 1 + 1 + 1, 0, none⟩) 1 w' :=
  ⟨row_own (n := 1) (size := 1) (cs := Is [7]) h.b3 (by omega) rfl (by decide), h.b1, h.b2, h.b4, h.b5, h.b6, (fun hx => by obtain ⟨y, hy, he⟩ := hx; cases hy; simp at he; omega), hb, nw, hn⟩
theorem StA.add {w w1 w2 w3 : World} {n k c : Nat} {a : Option Addr} (h : StA w n k a c w1) (k12 : New w1 w2) {a' : Option Addr} {c' : Nat}
    (ho : w3.ownsRow (w.heap.size + 1) 3 1 (.slice a' (k + 1 + 1) c') (k + 1 + 1) (Is (7 :: List.replicate k 1) ++ [I 1])) (hk : Keeps (blk a) w2 w3) (hm : Moved w2 a a') :
    (w3.cell? ⟨n + 1 + 1 + 1 + 1, 4, none⟩ = some (.slice a (k + 1) c) ∧ w3.frozen? ⟨n + 1 + 1 + 1 + 1, 4, none⟩ = false ∧ n + 1 + 1 + 1 + 1 < w3.heap.size ∧ w3.heap[w.heap.size]? = some (.cells (smCs n) 26 (0, 0))) ∧ StA w n (k + 1) a' c' (w3.setCell ⟨n + 1 + 1 + 1 + 1, 4, none⟩ (.slice a' (k + 1 + 1) c')) := by
  have h2 := h.new k12
  have hne : ∀ {b : Nat} {cs : Array Value} {t : TypeId}, w2.heap[b]? = some (.cells cs t (0, 0)) → t ≠ 3 → ¬ blk a b := fun hb ht hx => by
    obtain ⟨cur, hc⟩ := tab_tag h2.so (own_blk hx)
    rw [hb] at hc; simp at hc; exact ht hc.2
  have h4 := hk.heap h2.b4 (hne h2.b4 (by decide))
  have ks : Keeps (fun k => k = n + 1 + 1 + 1 + 1) w3 (w3.setCell ⟨n + 1 + 1 + 1 + 1, 4, none⟩ (.slice a' (k + 1 + 1) c')) := Keeps.setCell w3 _ _ rfl
  have hhn := h2.hn
  refine ⟨⟨by rw [cell_of_block h4]; rfl, unfrozen_of_block h4 4, (Array.getElem?_eq_some_iff.1 h4).1, hk.heap h2.bl (hne h2.bl (by decide))⟩, ⟨?_, ks.heap (hk.heap h2.b1 h2.na) (by omega), ks.heap (hk.heap h2.b2 (hne h2.b2 (by decide))) (by omega), ?_, ks.heap (hk.heap h2.b5 (hne h2.b5 (by decide))) (by omega), ks.heap (hk.heap h2.b6 (hne h2.b6 (by decide))) (by omega), ?_, ks.heap (hk.heap h2.bl (hne h2.bl (by decide))) (by omega), ?_, hhn⟩⟩
  · have := own_oth ho ks (fun j hj => ⟨_, _, _, hj ▸ h4, by decide⟩)
    have he : Is (7 :: List.replicate (k + 1) 1) = Is (7 :: List.replicate k 1) ++ [I 1] := by
      rw [List.replicate_succ']; simp [Is]
    rw [he]; exact this
  · rw [block_setCell h4]; simp
  · intro hx
    rcases moved_blk hm hx with hy | hy
    · exact h2.na hy
    · have := (Array.getElem?_eq_some_iff.1 h2.b1).1; omega
  · exact New.keeps (New.keeps h2.nw hk (fun i hi hx => by have := (own_of_blk h2.so hx).1; omega)) ks (fun i hi e => by omega)
end Go.Proofs.Ytpljnapglbmdlaa
