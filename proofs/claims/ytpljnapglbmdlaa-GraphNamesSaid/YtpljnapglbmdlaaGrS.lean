/-
  Layer 8: sketches, in memory; one item more.
-/
import Derived.Test.YtpljnapglbmdlaaGrR
import Derived.Test.YtpljnapglbmdlaaShapeW
namespace Go.Proofs.Ytpljnapglbmdlaa
open Go Go.RowKit Go.Joins
set_option linter.all false

structure SIt where
  kind : Int
  name : ByteArray
  tag : ByteArray
  a : Option Addr
  c : Nat
  xs : List Int
  fn : ByteArray
  fp : Int
  fa : Int
  tn : ByteArray
  tp : Int
  ta : Int
  at_ : Int
structure Sk where
  name : ByteArray
  ia : Option Addr
  ic : Nat
  items : List SIt
def SIt.bare (x : SIt) : SIt := { x with a := none, c := 0 }
def Sk.bare (s : Sk) : Sk := ⟨s.name, none, 0, s.items.map SIt.bare⟩
def itCells (x : SIt) : List Value := [.int .u8 x.kind, .string x.name, .string x.tag, .slice x.a x.xs.length x.c, .string x.fn, I x.fp, I x.fa, .string x.tn, I x.tp, I x.ta, I x.at_]
abbrev Sk.cs (s : Sk) : Array Value := #[.string s.name, .slice s.ia s.items.length s.ic]
abbrev Sk.v (s : Sk) : Value := .agg s.cs
structure SkAt (w : World) (s : Sk) : Prop where
  sl : SlAt w s.ia (s.items.flatMap itCells)
  nx : ∀ x ∈ s.items, SlAt w x.a (Is x.xs)
theorem SkAt.new {w w' : World} {s : Sk} (h : SkAt w s) (k : New w w') : SkAt w' s := ⟨h.sl.new k, fun x hx => (h.nx x hx).new k⟩
structure SLen (s : Sk) : Prop where
  i : s.items.length ≤ 9223372036854775807
  n : s.name.size ≤ 9223372036854775807
  ix : ∀ x ∈ s.items, x.xs.length ≤ 9223372036854775807 ∧ x.name.size ≤ 9223372036854775807 ∧ x.tag.size ≤ 9223372036854775807 ∧ x.fn.size ≤ 9223372036854775807 ∧ x.tn.size ≤ 9223372036854775807
theorem items_at {w : World} {ao : Option Addr} {l : List SIt} (h : SlAt w ao (l.flatMap itCells)) {i : Nat} (hi : i < l.length) :
    ∃ b off, ao = some ⟨b, off, none⟩ ∧ ∀ j, j < 11 → w.cell? ⟨b, off + i * 11 + j, none⟩ = (itCells l[i])[j]? := row_at (n := 11) (fun _ => rfl) (by decide) h hi
/-- A sketch in memory of the call's own, its lists of numbers apart. -/
structure SkOwn (w : World) (B : Nat) (s : Sk) : Prop where
  io : w.ownsRow B 45 11 (.slice s.ia s.items.length s.ic) s.items.length (s.items.flatMap itCells)
  nx : ∀ x ∈ s.items, OwnI w B x.a x.c x.xs
  ap : (s.items.map (·.a)).Pairwise (fun a b => ∀ k, blk a k → ¬ blk b k)
theorem SkOwn.at {w : World} {B : Nat} {s : Sk} (h : SkOwn w B s) : SkAt w s := ⟨SlAt.of_owns h.io, fun x hx => (h.nx x hx).sl⟩
theorem SkOwn.new {w w' : World} {B : Nat} {s : Sk} (h : SkOwn w B s) (k : New w w') : SkOwn w' B s := ⟨k.owns h.io, fun x hx => (h.nx x hx).new k, h.ap⟩
/-- The sketch at block P. -/
structure SkB (w : World) (B P : Nat) (s : Sk) : Prop where
  blkP : w.heap[P]? = some (.cells s.cs 35 (0, 0))
  own : SkOwn w B s
theorem SkB.new {w w' : World} {B P : Nat} {s : Sk} (h : SkB w B P s) (k : New w w') : SkB w' B P s := ⟨Keeps.heap k h.blkP (fun h => h), h.own.new k⟩
theorem own_oth {S : Nat → Prop} {w w' : World} {B e size n : Nat} {v : Value} {xs : List Value} (h : w.ownsRow B e size v n xs) (k : Keeps S w w') (hS : ∀ g, S g → ∃ cur t fr, w.heap[g]? = some (.cells cur t fr) ∧ t ≠ e) : w'.ownsRow B e size v n xs :=
  k.owns h (fun g hg hs => by
    obtain ⟨c1, h1⟩ := tab_tag h hg
    obtain ⟨c2, t, fr, h2, hne⟩ := hS g hs
    rw [h1] at h2; cases h2; exact hne rfl)
theorem SkB.add {w1 w2 w3 : World} {B P : Nat} {s : Sk} (h : SkB w1 B P s) (x : SIt) (hx : OwnI w2 B x.a x.c x.xs) (hd : ∀ k, blk x.a k → w1.heap.size ≤ k) (k12 : New w1 w2)
    {a' : Option Addr} {c' : Nat} (ho : w3.ownsRow B 45 11 (.slice a' (s.items.length + 1) c') (s.items.length + 1) (s.items.flatMap itCells ++ itCells x)) (hk : Keeps (blk s.ia) w2 w3) :
    (w3.cell? ⟨P, 1, none⟩ = some (.slice s.ia s.items.length s.ic) ∧ w3.frozen? ⟨P, 1, none⟩ = false ∧ P < w3.heap.size) ∧
    SkB (w3.setCell ⟨P, 1, none⟩ (.slice a' (s.items.length + 1) c')) B P { s with ia := a', ic := c', items := s.items ++ [x] } ∧ Keeps (fun k => k = P ∨ blk s.ia k) w1 (w3.setCell ⟨P, 1, none⟩ (.slice a' (s.items.length + 1) c')) := by
  have h2 := h.new k12
  have htag : ∀ g, blk s.ia g → ∃ cur, w2.heap[g]? = some (.cells cur 45 (0, 0)) := fun g hg => tab_tag h2.own.io (own_blk hg)
  have hto : ∀ e : TypeId, 45 ≠ e → ∀ g, blk s.ia g → ∃ cur t fr, w2.heap[g]? = some (.cells cur t fr) ∧ t ≠ e := fun e he g hg => by
    obtain ⟨cur, hc⟩ := htag g hg; exact ⟨cur, _, _, hc, he⟩
  have hP3 := hk.heap h2.blkP (fun hb => by obtain ⟨cur, hc⟩ := htag _ hb; rw [h2.blkP] at hc; simp at hc)
  have hP4 := block_setCell (i := 1) hP3 (.slice a' (s.items.length + 1) c')
  have hks : Keeps (fun k => k = P) w3 (w3.setCell ⟨P, 1, none⟩ (.slice a' (s.items.length + 1) c')) := Keeps.setCell w3 _ _ rfl
  have htP : ∀ e : TypeId, 35 ≠ e → ∀ g, g = P → ∃ cur t fr, w3.heap[g]? = some (.cells cur t fr) ∧ t ≠ e := fun e he g hg => ⟨_, _, _, hg ▸ hP3, he⟩
  refine ⟨⟨?_, unfrozen_of_block hP3 1, (Array.getElem?_eq_some_iff.1 hP3).1⟩, ⟨?_, ?_, ?_, ?_⟩, ?_⟩
  · rw [cell_of_block hP3 1]; rfl
  · rw [hP4]; simp
  · have := own_oth ho hks (htP _ (by decide))
    simpa using this
  · intro y hy
    rcases List.mem_append.1 hy with hy | hy
    · exact own_oth (own_oth (h2.own.nx y hy) hk (hto _ (by decide))) hks (htP _ (by decide))
    · rw [List.mem_singleton.1 hy]; exact own_oth (own_oth hx hk (hto _ (by decide))) hks (htP _ (by decide))
  · simp only [List.map_append, List.map_cons, List.map_nil]
    rw [List.pairwise_append]
    refine ⟨h.own.ap, List.pairwise_singleton _ _, fun b hb c hc => ?_⟩
    rw [List.mem_singleton.1 hc]
    intro k hk1 hk2
    obtain ⟨y, hy, rfl⟩ := List.mem_map.1 hb
    have h3 := (own_of_blk (h.own.nx y hy) hk1).2
    have h4 := hd k hk2
    omega
  · exact ((Keeps.mono k12 (fun _ _ h => h.elim)).trans hk (fun i _ hb => .inr hb)).trans hks (fun i _ hb => .inl hb)
/-- All that such a step writes is new to a world that was there before. -/
theorem SkB.news {w0 w1 w' : World} {B P : Nat} {s : Sk} (h : SkB w1 B P s) (hB : B = w0.heap.size) (hP : w0.heap.size ≤ P) (hN : New w0 w1) (k : Keeps (fun k => k = P ∨ blk s.ia k) w1 w') : New w0 w' :=
  New.keeps hN k (fun i hi hb => by
    rcases hb with rfl | hb
    · omega
    · have := (own_of_blk h.own.io hb).1; omega)
theorem one_it (x : SIt) : ∀ u ∈ itCells x, u.oneCell' = true := by
  intro u hu
  simp only [itCells, List.mem_cons, List.not_mem_nil, or_false] at hu
  rcases hu with rfl | rfl | rfl | rfl | rfl | rfl | rfl | rfl | rfl | rfl | rfl <;> rfl
theorem infoItem : (Try.prog.info? 45).map (fun i => (i.zero, i.size, i.bytes)) = some (some (.agg #[.int .u8 0, .string ⟨#[]⟩, .string ⟨#[]⟩, .slice none 0 0, .string ⟨#[]⟩, .int .i64 0, .int .i64 0, .string ⟨#[]⟩, .int .i64 0, .int .i64 0, .int .i64 0]), 11, 136) := by kernel_rfl

theorem ret_sl {a : Option Addr} {n m c : Nat} (h : n = m) : Ending.returned (.slice a n c) = .returned (.slice a m c) := by rw [h]
/-- numbers: a list of the call's own. -/
theorem numbers_any (w : World) (ao : Option Addr) (c : Nat) (xs : List Int) (hx : SlAt w ao (Is xs)) (hn : xs.length * 8 ≤ 140737488355328) :
    Calls Try.prog 31 #[.slice ao xs.length c] w fun e w' => ∃ a' c', e = .returned (.slice a' xs.length c') ∧ OwnI w' w.heap.size a' c' xs ∧ New w w' := by
  obtain ⟨i0, hi, hz0, hz1, hz2⟩ := info_parts Try.infoInt
  have hnil : w.ownsRow w.heap.size 3 1 (.slice none 0 0) 0 [] := World.ownsRow_nil _ _ _ _
  go_enter Try.func31, Try.ntmps31
  go_wp2_with (at_builtin; refine wpList_app rfl _ _ 41 rfl w.heap.size 3 i0 (.int .i64 0) 1 8 Try.underlying41 hi hz0 hz1 hz2 rfl (by decide) none 0 0 [] rfl hnil ao xs.length c (Is xs) rfl (by simp) hx (oneCell_ints _ _) (by unfold maxLen; omega) (by omega) (Nat.le_refl _) ?_)
  intro a' c' w' hown hk hm _
  go_wp2_with fail
  go_ret
  refine ⟨a', c', ret_sl (by omega), ?_, Keeps.mono hk (fun k _ hb => by obtain ⟨x, hx, _⟩ := hb; cases hx)⟩
  simpa [OwnI] using hown
end Go.Proofs.Ytpljnapglbmdlaa
