/-
  Layer 8: lists of a graph grown one by one, wherever the graph itself stands.
-/
import Derived.Test.YtpljnapglbmdlaaGrW
import Derived.Test.YtpljnapglbmdlaaShapeF
namespace Go.Proofs.Ytpljnapglbmdlaa
open Go Go.RowKit Go.Joins
set_option linter.all false
theorem GrOwn.addAct {w1 w2 w3 : World} {B : Nat} {q : Gr} (h : GrOwn w1 B q) (x : GAct) (hx : OwnI w2 B x.a x.c x.xs) (hd : ∀ k, blk x.a k → w1.heap.size ≤ k) (k12 : New w1 w2)
    {a' : Option Addr} {c' : Nat} (ho : w3.ownsRow B 55 3 (.slice a' (q.acts.length + 1) c') (q.acts.length + 1) (q.acts.flatMap actCells ++ actCells x)) (hk : Keeps (blk q.aa) w2 w3) (hm : Moved w2 q.aa a') :
    GrOwn w3 B { q with aa := a', ac := c', acts := q.acts ++ [x] } ∧ Keeps (blk q.aa) w1 w3 := by
  have h2 := h.new k12
  have htag : ∀ g, blk q.aa g → ∃ cur, w2.heap[g]? = some (.cells cur 55 (0, 0)) := fun g hg => tab_tag h2.ao (own_blk hg)
  have hto : ∀ e : TypeId, 55 ≠ e → ∀ g, blk q.aa g → ∃ cur t fr, w2.heap[g]? = some (.cells cur t fr) ∧ t ≠ e := fun e he g hg => by
    obtain ⟨cur, hc⟩ := htag g hg; exact ⟨cur, _, _, hc, he⟩
  have hmv : ∀ k, blk a' k → blk q.aa k ∨ w2.heap.size ≤ k := fun k hb => moved_blk hm hb
  have hs12 := k12.size
  refine ⟨⟨?_, ?_, ?_, ?_, ?_, ?_, ?_, ?_⟩, (Keeps.mono k12 (fun _ _ h => h.elim)).trans hk (fun _ _ h => h)⟩
  · simpa using ho
  · exact own_oth h2.eo hk (hto _ (by decide))
  · exact own_oth h2.io hk (hto _ (by decide))
  · exact own_oth h2.oo hk (hto _ (by decide))
  · intro y hy
    rcases List.mem_append.1 hy with hy | hy
    · exact own_oth (h2.ax y hy) hk (hto _ (by decide))
    · rw [List.mem_singleton.1 hy]; exact own_oth hx hk (hto _ (by decide))
  · exact fun y hy => own_oth (h2.ex y hy) hk (hto _ (by decide))
  · have hdA : ∀ y ∈ q.acts, ∀ k, blk x.a k → ¬ blk y.a k := fun y hy k hk1 hk2 => by
      have h3 := (own_of_blk (h.ax y hy) hk2).2
      have h4 := hd k hk1
      omega
    have hdE : ∀ y ∈ q.edges, ∀ k, blk x.a k → ¬ blk y.a k := fun y hy k hk1 hk2 => by
      have h3 := (own_of_blk (h.ex y hy) hk2).2
      have h4 := hd k hk1
      omega
    have ap := h.ap
    rw [List.pairwise_append] at ap
    obtain ⟨a1, a2, a3⟩ := ap
    simp only [List.map_append, List.map_cons, List.map_nil]
    rw [List.append_assoc, List.pairwise_append]
    refine ⟨a1, ?_, ?_⟩
    · rw [List.singleton_append, List.pairwise_cons]
      refine ⟨fun b hb k hk hkb => ?_, a2⟩
      obtain ⟨y, hy, rfl⟩ := List.mem_map.1 hb
      exact hdE y hy k hk hkb
    · intro b hb c hc
      rw [List.singleton_append] at hc
      rcases List.mem_cons.1 hc with rfl | hc
      · intro k hk hkx
        obtain ⟨y, hy, rfl⟩ := List.mem_map.1 hb
        exact hdA y hy k hkx hk
      · exact a3 b hb c hc
  · exact h.po
theorem GrOwn.addEdge {w1 w2 w3 : World} {B : Nat} {q : Gr} (h : GrOwn w1 B q) (x : GEdge) (hx : OwnI w2 B x.a x.c x.xs) (hd : ∀ k, blk x.a k → w1.heap.size ≤ k) (k12 : New w1 w2)
    {a' : Option Addr} {c' : Nat} (ho : w3.ownsRow B 58 5 (.slice a' (q.edges.length + 1) c') (q.edges.length + 1) (q.edges.flatMap edgeCells ++ edgeCells x)) (hk : Keeps (blk q.ea) w2 w3) (hm : Moved w2 q.ea a') :
    GrOwn w3 B { q with ea := a', ec := c', edges := q.edges ++ [x] } ∧ Keeps (blk q.ea) w1 w3 := by
  have h2 := h.new k12
  have htag : ∀ g, blk q.ea g → ∃ cur, w2.heap[g]? = some (.cells cur 58 (0, 0)) := fun g hg => tab_tag h2.eo (own_blk hg)
  have hto : ∀ e : TypeId, 58 ≠ e → ∀ g, blk q.ea g → ∃ cur t fr, w2.heap[g]? = some (.cells cur t fr) ∧ t ≠ e := fun e he g hg => by
    obtain ⟨cur, hc⟩ := htag g hg; exact ⟨cur, _, _, hc, he⟩
  have hmv : ∀ k, blk a' k → blk q.ea k ∨ w2.heap.size ≤ k := fun k hb => moved_blk hm hb
  have hs12 := k12.size
  refine ⟨⟨?_, ?_, ?_, ?_, ?_, ?_, ?_, ?_⟩, (Keeps.mono k12 (fun _ _ h => h.elim)).trans hk (fun _ _ h => h)⟩
  · exact own_oth h2.ao hk (hto _ (by decide))
  · simpa using ho
  · exact own_oth h2.io hk (hto _ (by decide))
  · exact own_oth h2.oo hk (hto _ (by decide))
  · exact fun y hy => own_oth (h2.ax y hy) hk (hto _ (by decide))
  · intro y hy
    rcases List.mem_append.1 hy with hy | hy
    · exact own_oth (h2.ex y hy) hk (hto _ (by decide))
    · rw [List.mem_singleton.1 hy]; exact own_oth hx hk (hto _ (by decide))
  · have hdA : ∀ y ∈ q.acts, ∀ k, blk x.a k → ¬ blk y.a k := fun y hy k hk1 hk2 => by
      have h3 := (own_of_blk (h.ax y hy) hk2).2
      have h4 := hd k hk1
      omega
    have hdE : ∀ y ∈ q.edges, ∀ k, blk x.a k → ¬ blk y.a k := fun y hy k hk1 hk2 => by
      have h3 := (own_of_blk (h.ex y hy) hk2).2
      have h4 := hd k hk1
      omega
    simp only [List.map_append, List.map_cons, List.map_nil]
    rw [← List.append_assoc, List.pairwise_append]
    refine ⟨h.ap, List.pairwise_singleton _ _, ?_⟩
    intro b hb c hc
    rw [List.mem_singleton.1 hc]
    intro k hk hkx
    rcases List.mem_append.1 hb with hb | hb
    · obtain ⟨y, hy, rfl⟩ := List.mem_map.1 hb
      exact hdA y hy k hkx hk
    · obtain ⟨y, hy, rfl⟩ := List.mem_map.1 hb
      exact hdE y hy k hkx hk
  · exact h.po
theorem GrOwn.addIn {w1 w2 w3 : World} {B : Nat} {q : Gr} (h : GrOwn w1 B q) (x : GPort) (k12 : New w1 w2)
    {a' : Option Addr} {c' : Nat} (ho : w3.ownsRow B 60 3 (.slice a' (q.ins.length + 1) c') (q.ins.length + 1) (q.ins.flatMap portCells ++ portCells x)) (hk : Keeps (blk q.ia) w2 w3) (hm : Moved w2 q.ia a') :
    GrOwn w3 B { q with ia := a', ic := c', ins := q.ins ++ [x] } ∧ Keeps (blk q.ia) w1 w3 := by
  have h2 := h.new k12
  have htag : ∀ g, blk q.ia g → ∃ cur, w2.heap[g]? = some (.cells cur 60 (0, 0)) := fun g hg => tab_tag h2.io (own_blk hg)
  have hto : ∀ e : TypeId, 60 ≠ e → ∀ g, blk q.ia g → ∃ cur t fr, w2.heap[g]? = some (.cells cur t fr) ∧ t ≠ e := fun e he g hg => by
    obtain ⟨cur, hc⟩ := htag g hg; exact ⟨cur, _, _, hc, he⟩
  have hmv : ∀ k, blk a' k → blk q.ia k ∨ w2.heap.size ≤ k := fun k hb => moved_blk hm hb
  have hs12 := k12.size
  refine ⟨⟨?_, ?_, ?_, ?_, ?_, ?_, ?_, ?_⟩, (Keeps.mono k12 (fun _ _ h => h.elim)).trans hk (fun _ _ h => h)⟩
  · exact own_oth h2.ao hk (hto _ (by decide))
  · exact own_oth h2.eo hk (hto _ (by decide))
  · simpa using ho
  · refine hk.owns h2.oo (fun k hk1 hx => ?_)
    have hk2 : blk q.oa k := blk_of_own hk1
    exact h.po k hx hk2
  · exact fun y hy => own_oth (h2.ax y hy) hk (hto _ (by decide))
  · exact fun y hy => own_oth (h2.ex y hy) hk (hto _ (by decide))
  · exact h.ap
  · intro k hk1 hk2
    rcases hmv k hk1 with hx | hx
    · exact h.po k hx hk2
    · have := (own_of_blk h.oo hk2).2
      omega
theorem GrOwn.addOut {w1 w2 w3 : World} {B : Nat} {q : Gr} (h : GrOwn w1 B q) (x : GPort) (k12 : New w1 w2)
    {a' : Option Addr} {c' : Nat} (ho : w3.ownsRow B 60 3 (.slice a' (q.outs.length + 1) c') (q.outs.length + 1) (q.outs.flatMap portCells ++ portCells x)) (hk : Keeps (blk q.oa) w2 w3) (hm : Moved w2 q.oa a') :
    GrOwn w3 B { q with oa := a', oc := c', outs := q.outs ++ [x] } ∧ Keeps (blk q.oa) w1 w3 := by
  have h2 := h.new k12
  have htag : ∀ g, blk q.oa g → ∃ cur, w2.heap[g]? = some (.cells cur 60 (0, 0)) := fun g hg => tab_tag h2.oo (own_blk hg)
  have hto : ∀ e : TypeId, 60 ≠ e → ∀ g, blk q.oa g → ∃ cur t fr, w2.heap[g]? = some (.cells cur t fr) ∧ t ≠ e := fun e he g hg => by
    obtain ⟨cur, hc⟩ := htag g hg; exact ⟨cur, _, _, hc, he⟩
  have hmv : ∀ k, blk a' k → blk q.oa k ∨ w2.heap.size ≤ k := fun k hb => moved_blk hm hb
  have hs12 := k12.size
  refine ⟨⟨?_, ?_, ?_, ?_, ?_, ?_, ?_, ?_⟩, (Keeps.mono k12 (fun _ _ h => h.elim)).trans hk (fun _ _ h => h)⟩
  · exact own_oth h2.ao hk (hto _ (by decide))
  · exact own_oth h2.eo hk (hto _ (by decide))
  · refine hk.owns h2.io (fun k hk1 hx => ?_)
    have hk2 : blk q.ia k := blk_of_own hk1
    exact h.po k hk2 hx
  · simpa using ho
  · exact fun y hy => own_oth (h2.ax y hy) hk (hto _ (by decide))
  · exact fun y hy => own_oth (h2.ex y hy) hk (hto _ (by decide))
  · exact h.ap
  · intro k hk1 hk2
    rcases hmv k hk2 with hx | hx
    · exact h.po k hk1 hx
    · have := (own_of_blk h.io hk1).2
      omega
def mkAct : GAct := ⟨⟨#[109, 97, 114, 107]⟩, 99, none, 0, []⟩
def mkEdge : GEdge := ⟨-7770777, 0, 0, 0, none, 0, []⟩
def mkPort : GPort := ⟨⟨#[109, 97, 114, 107]⟩, -7770777, 0⟩
theorem run_cut (t : TypeId) (e : TypeId) (ht : Try.prog.underlying t = some (.slice e)) : True := trivial
set_option maxRecDepth 100000 in
set_option maxHeartbeats 4000000 in
theorem lentPorts_any (w : World) (a : Option Addr) (c : Nat) (l : List GPort) (hx : SlAt w a (l.flatMap portCells)) (hn : l.length ≤ 1048576) :
    Calls Try.prog 25 #[.slice a l.length c] w fun e w' => ∃ a' c', e = .returned (.slice a' l.length c') ∧ w'.ownsRow w.heap.size 60 3 (.slice a' (l.length + 1) c') (l.length + 1) ((l ++ [mkPort]).flatMap portCells) ∧ New w w' := by
  obtain ⟨i0, hi, hz0, hz1, hz2⟩ := info_parts infoPort
  have hfl := flat_len portCells 3 (fun _ => rfl) l
  have HFL := Lib.hid hfl
  clear hfl
  have hone : ∀ u ∈ l.flatMap portCells, u.oneCell' = true := by
    intro u hu
    obtain ⟨y, _, hy⟩ := List.mem_flatMap.1 hu
    exact one_port y u hy
  have HONE := Lib.hid hone
  clear hone
  have hnil : w.ownsRow w.heap.size 60 3 (.slice none 0 0) 0 [] := World.ownsRow_nil _ _ _ _
  go_enter Try.func25, Try.ntmps25
  go_wp2_with (at_builtin; refine wpList_app rfl _ _ 24 rfl w.heap.size 60 i0 _ 3 32 Try.underlying24 hi hz0 hz1 hz2 rfl (by decide) none 0 0 [] rfl hnil a l.length c (l.flatMap portCells) rfl HFL.out hx HONE.out (by unfold maxLen; omega) (by omega) (Nat.le_refl _) ?_)
  intro a1 c1 w1 hown hk hm _
  have k1 : New w w1 := Keeps.mono hk (fun k _ hb => by obtain ⟨x, hx, _⟩ := hb; cases hx)
  have kz : New w1 (w1.alloc (.cells #[.string ⟨#[109, 97, 114, 107]⟩, I (-7770777), I 0] 60)) := (New.refl w1).alloc _
  have hlit : SlAt (w1.alloc (.cells #[.string ⟨#[109, 97, 114, 107]⟩, I (-7770777), I 0] 60)) (some ⟨w1.heap.size, 0, none⟩) (portCells mkPort) := SlAt.lit w1 _ _
  have hoz := kz.owns hown
  have hbz : w.heap.size ≤ (w1.alloc (.cells #[.string ⟨#[109, 97, 114, 107]⟩, I (-7770777), I 0] 60)).heap.size := Nat.le_trans k1.size kz.size
  clear hk hm
  go_wp2_with (at_builtin; refine wpList_app rfl _ _ 24 rfl w.heap.size 60 i0 _ 3 32 Try.underlying24 hi hz0 hz1 hz2 rfl (by decide) a1 l.length c1 (l.flatMap portCells) rfl hoz (some ⟨w1.heap.size, 0, none⟩) 1 1 (portCells mkPort) rfl rfl hlit (one_port _) (by unfold maxLen; omega) (by omega) hbz ?_)
  intro a2 c2 w2 hown2 hk2 hm2 _
  have hcap : l.length + 1 ≤ c2 := by
    rcases hown2.2 with ⟨h0, -⟩ | ⟨g, cap, cur, h0, hb, hg, hnc, -⟩
    · simp at h0
    · simp only [Value.slice.injEq] at h0
      obtain ⟨-, -, rfl⟩ := h0
      exact hnc
  have hcI : (l.length : Int) ≤ (c2 : Int) := by omega
  have k2 : New w w2 := (k1.trans kz).keeps hk2 (fun i hi hb => by
    obtain ⟨y, hy, rfl⟩ := hb
    have := (own_of_blk hown ⟨y, hy, rfl⟩).1
    omega)
  clear hk2 hm2 hoz hlit kz hown
  go_wp2_with fail
  go_ret
  exact ⟨a2, c2, rfl, by simpa using hown2, k2⟩
end Go.Proofs.Ytpljnapglbmdlaa
