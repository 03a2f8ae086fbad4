/-
  Layer 8: the small graph; what is built of a sketch does not see where its lists lie.
-/
import Derived.Test.YtpljnapglbmdlaaGrZ
namespace Go.Proofs.Ytpljnapglbmdlaa
open Go Go.RowKit Go.Joins
set_option linter.all false

theorem ofK_bare (k : Int) (l : List SIt) : ofK k (l.map SIt.bare) = (ofK k l).map SIt.bare := by
  unfold ofK; rw [List.filter_map]; rfl
theorem numV_bare (l : List SIt) (s : ByteArray) : numV (l.map SIt.bare) s = numV l s := by
  unfold numV
  rw [ofK_bare, List.findIdx?_map]; rfl
theorem buildP_bare (n : ByteArray) (V : ByteArray → Int) (l : List SIt) : buildP n V (l.map SIt.bare) = buildP n V l := by
  unfold buildP
  simp only [ofK_bare, List.map_map]
  rfl
theorem buildG_bare (s : Sk) : buildG s.bare = buildG s := by
  unfold buildG
  have : numV s.bare.items = numV s.items := funext fun t => numV_bare s.items t
  rw [this]
  exact buildP_bare s.name _ s.items
theorem placeS_bare (l : List SIt) (kd i d : Int) : placeS (l.map SIt.bare) kd i d = placeS l kd i d := by
  unfold placeS
  rw [ofK_bare, List.getElem?_map]
  cases (ofK kd l)[i.toNat]? <;> rfl
theorem buildF_bare (s : Sk) : buildF s.bare = buildF s := by
  unfold buildF
  have h : s.bare.items = s.items.map SIt.bare := rfl
  rw [buildG_bare, h, List.find?_map]
  have hb : badK ∘ SIt.bare = badK := funext fun x => rfl
  rw [hb]
  cases s.items.find? badK with
  | some x => rfl
  | none =>
    simp only [Option.map_none, placeS_bare]

/-- The small graph, at the blocks behind n; its edge goes to port tp. -/
def sm (n : Nat) (tp : Int) : Gr :=
  ⟨⟨#[103]⟩, some ⟨n + 1 + 1, 0, none⟩, 2, [⟨⟨#[97]⟩, 2, some ⟨n + 1, 0, none⟩, 1, [2]⟩, ⟨⟨#[98]⟩, 8, none, 0, []⟩], some ⟨n + 1 + 1 + 1 + 1, 0, none⟩, 1, [⟨0, 0, 1, tp, some ⟨n + 1 + 1 + 1, 0, none⟩, 1, [7]⟩],
    some ⟨n + 1 + 1 + 1 + 1 + 1, 0, none⟩, 1, [⟨⟨#[120]⟩, 0, 0⟩], some ⟨n + 1 + 1 + 1 + 1 + 1 + 1, 0, none⟩, 1, [⟨⟨#[121]⟩, 1, 0⟩]⟩
/-- .. without its output. -/
def smO (n : Nat) : Gr := { sm n 0 with oa := none, oc := 0, outs := [] }
def smB (tp : Int) : Gr :=
  ⟨⟨#[103]⟩, none, 0, [⟨⟨#[97]⟩, 2, none, 0, [2]⟩, ⟨⟨#[98]⟩, 8, none, 0, []⟩], none, 0, [⟨0, 0, 1, tp, none, 0, [7]⟩], none, 0, [⟨⟨#[120]⟩, 0, 0⟩], none, 0, [⟨⟨#[121]⟩, 1, 0⟩]⟩
theorem sm_bare (n : Nat) (tp : Int) : (sm n tp).bare = smB tp := rfl
theorem sm_find (n : Nat) : findG (sm n 0) = (0, 0, 0, 0) := by
  rw [← findG_bare, sm_bare]; kernel_rfl
theorem sm_bad (n : Nat) : (findG (sm n 1)).1 = 85 := by
  rw [← findG_bare, sm_bare]; kernel_rfl
theorem sm_open (n : Nat) : (findG (smO n)).1 = 87 := by
  rw [← findG_bare]; kernel_rfl
theorem sm_draw (n : Nat) : drawS (sm n 0) = ⟨⟨#[103]⟩, none, 0, [⟨1, ⟨#[97]⟩, ⟨#[117, 112]⟩, none, 0, [2], ⟨#[]⟩, 0, 0, ⟨#[]⟩, 0, 0, 0⟩, ⟨1, ⟨#[98]⟩, ⟨#[115, 117, 109]⟩, none, 0, [], ⟨#[]⟩, 0, 0, ⟨#[]⟩, 0, 0, 0⟩,
    ⟨2, ⟨#[]⟩, ⟨#[]⟩, none, 0, [7], ⟨#[97]⟩, 0, 0, ⟨#[98]⟩, 0, 0, 0⟩, ⟨3, ⟨#[120]⟩, ⟨#[]⟩, none, 0, [], ⟨#[]⟩, 0, 0, ⟨#[97]⟩, 0, 0, 0⟩, ⟨4, ⟨#[121]⟩, ⟨#[]⟩, none, 0, [], ⟨#[98]⟩, 0, 0, ⟨#[]⟩, 0, 0, 0⟩]⟩ := by kernel_rfl
theorem sm_build {s : Sk} {n : Nat} (h : s.bare = drawS (sm n 0)) : buildF s = (0, 0) ∧ buildG s = smB 0 := by
  rw [← buildF_bare, ← buildG_bare, h, sm_draw]
  exact ⟨by kernel_rfl, by kernel_rfl⟩
structure SmAt (w : World) (n : Nat) (tp : Int) : Prop where
  b1 : w.heap[n + 1]? = some (.cells #[I 2] 3 (0, 0))
  b2 : w.heap[n + 1 + 1]? = some (.cells #[.string ⟨#[97]⟩, .int .u8 2, .slice (some ⟨n + 1, 0, none⟩) 1 1, .string ⟨#[98]⟩, .int .u8 8, .slice none 0 0] 55 (0, 0))
  b3 : w.heap[n + 1 + 1 + 1]? = some (.cells #[I 7] 3 (0, 0))
  b4 : w.heap[n + 1 + 1 + 1 + 1]? = some (.cells #[I 0, I 0, I 1, I tp, .slice (some ⟨n + 1 + 1 + 1, 0, none⟩) 1 1] 58 (0, 0))
  b5 : w.heap[n + 1 + 1 + 1 + 1 + 1]? = some (.cells #[.string ⟨#[120]⟩, I 0, I 0] 60 (0, 0))
  b6 : w.heap[n + 1 + 1 + 1 + 1 + 1 + 1]? = some (.cells #[.string ⟨#[121]⟩, I 1, I 0] 60 (0, 0))
theorem SmAt.new {w w' : World} {n : Nat} {tp : Int} (h : SmAt w n tp) (k : New w w') : SmAt w' n tp :=
  ⟨Keeps.heap k h.b1 (fun h => h), Keeps.heap k h.b2 (fun h => h), Keeps.heap k h.b3 (fun h => h), Keeps.heap k h.b4 (fun h => h), Keeps.heap k h.b5 (fun h => h), Keeps.heap k h.b6 (fun h => h)⟩
theorem SmAt.at {w : World} {n : Nat} {tp : Int} (h : SmAt w n tp) : GrAt w (sm n tp) := by
  refine ⟨SlAt.block (cs := (sm n tp).acts.flatMap actCells) h.b2, SlAt.block (cs := (sm n tp).edges.flatMap edgeCells) h.b4, SlAt.block (cs := (sm n tp).ins.flatMap portCells) h.b5, SlAt.block (cs := (sm n tp).outs.flatMap portCells) h.b6, fun x hx => ?_, fun x hx => ?_⟩
  · simp only [sm, List.mem_cons, List.not_mem_nil, or_false] at hx
    rcases hx with rfl | rfl
    · exact SlAt.block (cs := Is [2]) h.b1
    · exact SlAt.nil _ _
  · simp only [sm, List.mem_cons, List.not_mem_nil, or_false] at hx
    subst hx
    exact SlAt.block (cs := Is [7]) h.b3
theorem SmAt.atO {w : World} {n : Nat} (h : SmAt w n 0) : GrAt w (smO n) := ⟨h.at.sa, h.at.se, h.at.si, SlAt.nil _ _, h.at.ax, h.at.ex⟩
theorem bs1 (b : UInt8) : (⟨#[b]⟩ : ByteArray).size = 1 := rfl
theorem al {w : World} {o : Obj} {n : Nat} (h : n = w.heap.size) : (w.alloc o).heap[n]? = some o := by subst h; exact heap_alloc_new w o
theorem sm_len (n : Nat) (tp : Int) : GLen (sm n tp) := ⟨by simp [sm, bs1], by simp [sm, bs1], by simp [sm, bs1], by simp [sm, bs1], by simp [sm, bs1], by simp [sm, bs1], by simp [sm, bs1], by simp [sm, bs1], by simp [sm, bs1]⟩
theorem smO_len (n : Nat) : GLen (smO n) := ⟨by simp [smO, sm, bs1], by simp [smO, sm, bs1], by simp [smO, sm, bs1], by simp [smO, sm, bs1], by simp [smO, sm, bs1], by simp [smO, sm, bs1], by simp [smO, sm, bs1], by simp [smO, sm, bs1], by simp [smO, sm, bs1]⟩
set_option maxRecDepth 100000 in
set_option maxHeartbeats 4000000 in
theorem small_any (w : World) : Calls Try.prog 23 #[] w fun e w' => e = .returned (sm w.heap.size 0).v ∧ SmAt w' w.heap.size 0 ∧ New w w' := by
  go_enter Try.func23, Try.ntmps23
  go_wp2_with fail
  refine bodyPost_ret (v := (sm w.heap.size 0).v) (by simp [results, Try.results23, go_sem, sm]) rfl ⟨rfl, ⟨?_, ?_, ?_, ?_, ?_, ?_⟩, ((((((((New.refl w).alloc _).alloc _).alloc _).alloc _).alloc _).alloc _).alloc _)⟩
  all_goals (repeat (first | (with_reducible exact al (by simp)) | (with_reducible refine Keeps.heap (S := fun _ => False) (Keeps.alloc _ _) ?_ (fun h => h))))
theorem it_len {s : Sk} {n : Nat} (h : s.bare = drawS (sm n 0)) : s.items.length = 5 := by
  have := congrArg (fun s : Sk => s.items.length) (h.trans (sm_draw n))
  simpa [Sk.bare] using this
theorem it_first {s : Sk} {n : Nat} (h : s.bare = drawS (sm n 0)) (hl : 0 < s.items.length) : s.items[0].tag = ⟨#[117, 112]⟩ := by
  have := congrArg (fun s : Sk => (s.items.map SIt.tag)[0]?) (h.trans (sm_draw n))
  simpa [Sk.bare, SIt.bare, hl] using this
theorem it_small {s : Sk} {n : Nat} (h : s.bare = drawS (sm n 0)) : SLen s ∧ (∀ x ∈ s.items, 0 ≤ x.kind ∧ x.kind ≤ 255) ∧ (∀ x ∈ s.items, x.xs.length * 8 ≤ 140737488355328) := by
  have hb := h.trans (sm_draw n)
  have hi : s.items.map SIt.bare = _ := congrArg Sk.items hb
  have hn : s.name = ⟨#[103]⟩ := congrArg Sk.name hb
  have hl := it_len h
  have hx : ∀ x ∈ s.items, x.bare.kind ≤ 4 ∧ 0 ≤ x.bare.kind ∧ x.bare.xs.length ≤ 1 ∧ x.bare.name.size ≤ 1 ∧ x.bare.tag.size ≤ 3 ∧ x.bare.fn.size ≤ 1 ∧ x.bare.tn.size ≤ 1 := by
    intro x hx
    have : x.bare ∈ s.items.map SIt.bare := List.mem_map_of_mem hx
    rw [hi] at this
    simp only [List.mem_cons, List.not_mem_nil, or_false] at this
    rcases this with e | e | e | e | e <;> rw [e] <;> decide
  refine ⟨⟨by omega, by rw [hn, bs1]; decide, fun x hm => ?_⟩, fun x hm => ?_, fun x hm => ?_⟩
  · obtain ⟨-, -, a, b, c, d, e⟩ := hx x hm
    have a' : x.xs.length ≤ 1 := a
    have b' : x.name.size ≤ 1 := b
    have c' : x.tag.size ≤ 3 := c
    have d' : x.fn.size ≤ 1 := d
    have e' : x.tn.size ≤ 1 := e
    exact ⟨by omega, by omega, by omega, by omega, by omega⟩
  · obtain ⟨a, b, -⟩ := hx x hm
    have a' : x.kind ≤ 4 := a
    have b' : 0 ≤ x.kind := b
    exact ⟨by omega, by omega⟩
  · obtain ⟨-, -, a, -⟩ := hx x hm
    have a' : x.xs.length ≤ 1 := a
    omega
end Go.Proofs.Ytpljnapglbmdlaa
