/-
  Layer 8: awake.
-/
import Derived.Test.YtpljnapglbmdlaaGsB
import Derived.Test.YtpljnapglbmdlaaGsA
namespace Go.Proofs.Ytpljnapglbmdlaa
open Go Go.RowKit Go.Joins
set_option linter.all false
theorem small_lit (w : World) : Calls Try.prog 23 #[] w fun e w' => e = .returned (.agg #[.string ⟨#[103]⟩, .slice (some ⟨w.heap.size + 1 + 1, 0, none⟩) 2 2, .slice (some ⟨w.heap.size + 1 + 1 + 1 + 1, 0, none⟩) 1 1, .slice (some ⟨w.heap.size + 1 + 1 + 1 + 1 + 1, 0, none⟩) 1 1, .slice (some ⟨w.heap.size + 1 + 1 + 1 + 1 + 1 + 1, 0, none⟩) 1 1]) ∧ SmAt w' w.heap.size 0 ∧ New w w' := small_any w
theorem SmAt.turn {w : World} {n : Nat} (h : SmAt w n 0) : SmAt (w.setCell ⟨n + 1 + 1 + 1 + 1, 3, none⟩ (I 1)) n 1 := by
  have k : Keeps (fun k => k = n + 1 + 1 + 1 + 1) w (w.setCell ⟨n + 1 + 1 + 1 + 1, 3, none⟩ (I 1)) := Keeps.setCell w _ _ rfl
  refine ⟨k.heap h.b1 (by omega), k.heap h.b2 (by omega), k.heap h.b3 (by omega), ?_, k.heap h.b5 (by omega), k.heap h.b6 (by omega)⟩
  have := block_setCell (i := 3) h.b4 (I 1)
  simpa using this
set_option maxRecDepth 100000 in
set_option maxHeartbeats 16000000 in
theorem awake_any (w : World) : Calls Try.prog 11 #[] w fun e w' => e = .returned (.bool true) ∧ New w w' := by
  go_enter Try.func11, Try.ntmps11
  go_wp2_with fail
  refine (small_lit w).mono ?_
  rintro e w1 ⟨rfl, S1, k1⟩
  obtain ⟨n, hn⟩ : ∃ n, n = w.heap.size := ⟨_, rfl⟩
  rw [← hn] at S1 ⊢
  clear hn
  go_wp2_with fail
  have kz : New w1 (w1.alloc (.cells #[.string ⟨#[103]⟩, .slice (some ⟨n + 1 + 1, 0, none⟩) 2 2, .slice (some ⟨n + 1 + 1 + 1 + 1, 0, none⟩) 1 1, .slice (some ⟨n + 1 + 1 + 1 + 1 + 1, 0, none⟩) 1 1, .slice (some ⟨n + 1 + 1 + 1 + 1 + 1 + 1, 0, none⟩) 1 1] 26)) := (New.refl w1).alloc _
  have hz : (w1.alloc (.cells #[.string ⟨#[103]⟩, .slice (some ⟨n + 1 + 1, 0, none⟩) 2 2, .slice (some ⟨n + 1 + 1 + 1 + 1, 0, none⟩) 1 1, .slice (some ⟨n + 1 + 1 + 1 + 1 + 1, 0, none⟩) 1 1, .slice (some ⟨n + 1 + 1 + 1 + 1 + 1 + 1, 0, none⟩) 1 1] 26)).heap[w1.heap.size]? = some (.cells #[.string ⟨#[103]⟩, .slice (some ⟨n + 1 + 1, 0, none⟩) 2 2, .slice (some ⟨n + 1 + 1 + 1 + 1, 0, none⟩) 1 1, .slice (some ⟨n + 1 + 1 + 1 + 1 + 1, 0, none⟩) 1 1, .slice (some ⟨n + 1 + 1 + 1 + 1 + 1 + 1, 0, none⟩) 1 1] 26 (0, 0)) := heap_alloc_new w1 _
  generalize (w1.alloc (.cells #[.string ⟨#[103]⟩, .slice (some ⟨n + 1 + 1, 0, none⟩) 2 2, .slice (some ⟨n + 1 + 1 + 1 + 1, 0, none⟩) 1 1, .slice (some ⟨n + 1 + 1 + 1 + 1 + 1, 0, none⟩) 1 1, .slice (some ⟨n + 1 + 1 + 1 + 1 + 1 + 1, 0, none⟩) 1 1] 26)) = w2 at kz hz ⊢
  generalize w1.heap.size = B1 at hz ⊢
  have HB1 := Lib.hid hz
  replace S1 := S1.new kz
  replace k1 := k1.trans kz
  clear kz hz
  obtain ⟨g0, g1, g2, g3, g4, hGl⟩ := gr_cells HB1.out
  refine (cdraw_good w2 (sm n 0) S1.at (sm_len n 0) (by intro x hx; simp only [sm, List.mem_cons, List.not_mem_nil, or_false] at hx; rcases hx with rfl | rfl <;> simp) (by rw [sm_find])).mono ?_
  rintro e w3 ⟨s, rfl, hso, hsb, k3⟩
  replace S1 := S1.new k3
  replace HB1 := Lib.hid (Keeps.heap k3 HB1.out (fun h => h))
  replace k1 := k1.trans k3
  have HSB := Lib.hid hsb
  have HIL := Lib.hid (it_len hsb)
  have hso2 : Hid (SkOwn w3 w2.heap.size s) := Lib.hid hso
  clear k3 g0 g1 g2 g3 g4 hGl hsb hso
  generalize w2.heap.size = n2 at hso2
  go_wp2_with fail
  have kz : New w3 (w3.alloc (.cells #[.string s.name, .slice s.ia s.items.length s.ic] 35)) := (New.refl w3).alloc _
  have hz : (w3.alloc (.cells #[.string s.name, .slice s.ia s.items.length s.ic] 35)).heap[w3.heap.size]? = some (.cells #[.string s.name, .slice s.ia s.items.length s.ic] 35 (0, 0)) := heap_alloc_new w3 _
  generalize (w3.alloc (.cells #[.string s.name, .slice s.ia s.items.length s.ic] 35)) = w4 at kz hz ⊢
  generalize w3.heap.size = B2 at hz ⊢
  have HB2 := Lib.hid hz
  replace S1 := S1.new kz
  replace HB1 := Lib.hid (Keeps.heap kz HB1.out (fun h => h))
  replace hso2 := Lib.hid (hso2.out.new kz)
  replace k1 := k1.trans kz
  clear kz hz
  obtain ⟨p0, p1, -, -, hPl⟩ := sk_cells HB2.out
  have hbu := cbuild_any w4 s hso2.out.at (it_small HSB.out).1 (it_small HSB.out).2.1 (by rw [HIL.out]; decide) (it_small HSB.out).2.2
  refine hbu.mono ?_
  intro e w5 hb5
  unfold Built at hb5
  rw [(sm_build HSB.out).1, if_neg (by decide)] at hb5
  obtain ⟨q, rfl, hqo, hqb, k5⟩ := hb5
  have HQB : Hid (q.bare = smB 0) := Lib.hid (hqb.trans (sm_build HSB.out).2)
  replace S1 := S1.new k5
  replace HB1 := Lib.hid (Keeps.heap k5 HB1.out (fun h => h))
  replace HB2 := Lib.hid (Keeps.heap k5 HB2.out (fun h => h))
  replace hso2 := Lib.hid (hso2.out.new k5)
  have hqo2 : Hid (GrAt w5 q) := Lib.hid hqo.at
  replace k1 := k1.trans k5
  clear k5 hbu hqb hqo p0 p1 hPl
  go_wp2_with fail
  have kz : New w5 (w5.alloc (.cells #[.string q.name, .slice q.aa q.acts.length q.ac, .slice q.ea q.edges.length q.ec, .slice q.ia q.ins.length q.ic, .slice q.oa q.outs.length q.oc] 26)) := (New.refl w5).alloc _
  have hz : (w5.alloc (.cells #[.string q.name, .slice q.aa q.acts.length q.ac, .slice q.ea q.edges.length q.ec, .slice q.ia q.ins.length q.ic, .slice q.oa q.outs.length q.oc] 26)).heap[w5.heap.size]? = some (.cells #[.string q.name, .slice q.aa q.acts.length q.ac, .slice q.ea q.edges.length q.ec, .slice q.ia q.ins.length q.ic, .slice q.oa q.outs.length q.oc] 26 (0, 0)) := heap_alloc_new w5 _
  have hs : (w5.alloc (.cells #[.string q.name, .slice q.aa q.acts.length q.ac, .slice q.ea q.edges.length q.ec, .slice q.ia q.ins.length q.ic, .slice q.oa q.outs.length q.oc] 26)).heap.size = w5.heap.size + 1 := size_alloc _ _
  generalize (w5.alloc (.cells #[.string q.name, .slice q.aa q.acts.length q.ac, .slice q.ea q.edges.length q.ec, .slice q.ia q.ins.length q.ic, .slice q.oa q.outs.length q.oc] 26)) = w6 at kz hz hs ⊢
  have ky : New w6 (w6.alloc (.cells #[I 0, I 0] 48)) := (New.refl w6).alloc _
  have hy : (w6.alloc (.cells #[I 0, I 0] 48)).heap[w6.heap.size]? = some (.cells #[I 0, I 0] 48 (0, 0)) := heap_alloc_new w6 _
  rw [hs] at hy
  generalize (w6.alloc (.cells #[I 0, I 0] 48)) = w7 at ky hy ⊢
  have HB3 := Lib.hid (Keeps.heap ky hz (fun h => h))
  have HB4 := Lib.hid hy
  have kk := kz.trans ky
  replace S1 := S1.new kk
  replace HB1 := Lib.hid (Keeps.heap kk HB1.out (fun h => h))
  replace HB2 := Lib.hid (Keeps.heap kk HB2.out (fun h => h))
  replace hso2 := Lib.hid (hso2.out.new kk)
  replace hqo2 := Lib.hid (hqo2.out.new kk)
  replace k1 := k1.trans kk
  clear kz ky kk hz hy hs
  generalize w5.heap.size = B3 at HB3 HB4 ⊢
  refine (small_lit w7).mono ?_
  rintro e w8 ⟨rfl, S2, k8⟩
  obtain ⟨m, hm⟩ : ∃ m, m = w7.heap.size := ⟨_, rfl⟩
  rw [← hm] at S2 ⊢
  have HM := Lib.hid hm
  clear hm
  have b4 := Lib.hid S2.b4
  obtain ⟨e0, e1, e2, e3, e4, hEl⟩ := edge_cells S2.b4
  have fz : w8.frozen? ⟨m + 1 + 1 + 1 + 1, 3, none⟩ = false := unfrozen_of_block S2.b4 3
  go_wp2_with fail
  clear e0 e1 e2 e3 e4 hEl fz b4
  have S2b := S2.turn
  have kk : New w7 (w8.setCell ⟨m + 1 + 1 + 1 + 1, 3, none⟩ (I 1)) := k8.setCell (by rw [← HM.out]; simp; omega) _
  have hss : (w8.setCell ⟨m + 1 + 1 + 1 + 1, 3, none⟩ (I 1)).heap.size = w8.heap.size := by simp [World.setCell]
  generalize (w8.setCell ⟨m + 1 + 1 + 1 + 1, 3, none⟩ (I 1)) = w9 at S2b kk hss ⊢
  have kz : New w9 (w9.alloc (.cells #[.string ⟨#[103]⟩, .slice (some ⟨m + 1 + 1, 0, none⟩) 2 2, .slice (some ⟨m + 1 + 1 + 1 + 1, 0, none⟩) 1 1, .slice (some ⟨m + 1 + 1 + 1 + 1 + 1, 0, none⟩) 1 1, .slice (some ⟨m + 1 + 1 + 1 + 1 + 1 + 1, 0, none⟩) 1 1] 26)) := (New.refl w9).alloc _
  have hz : (w9.alloc (.cells #[.string ⟨#[103]⟩, .slice (some ⟨m + 1 + 1, 0, none⟩) 2 2, .slice (some ⟨m + 1 + 1 + 1 + 1, 0, none⟩) 1 1, .slice (some ⟨m + 1 + 1 + 1 + 1 + 1, 0, none⟩) 1 1, .slice (some ⟨m + 1 + 1 + 1 + 1 + 1 + 1, 0, none⟩) 1 1] 26)).heap[w9.heap.size]? = some (.cells #[.string ⟨#[103]⟩, .slice (some ⟨m + 1 + 1, 0, none⟩) 2 2, .slice (some ⟨m + 1 + 1 + 1 + 1, 0, none⟩) 1 1, .slice (some ⟨m + 1 + 1 + 1 + 1 + 1, 0, none⟩) 1 1, .slice (some ⟨m + 1 + 1 + 1 + 1 + 1 + 1, 0, none⟩) 1 1] 26 (0, 0)) := heap_alloc_new w9 _
  rw [hss] at hz
  generalize (w9.alloc (.cells #[.string ⟨#[103]⟩, .slice (some ⟨m + 1 + 1, 0, none⟩) 2 2, .slice (some ⟨m + 1 + 1 + 1 + 1, 0, none⟩) 1 1, .slice (some ⟨m + 1 + 1 + 1 + 1 + 1, 0, none⟩) 1 1, .slice (some ⟨m + 1 + 1 + 1 + 1 + 1 + 1, 0, none⟩) 1 1] 26)) = w10 at kz hz ⊢
  replace S2 := S2b.new kz
  generalize w8.heap.size = B6 at hz ⊢
  have HB6 := Lib.hid hz
  replace kk := kk.trans kz
  clear S2b kz hz hss k8 HM
  replace S1 := S1.new kk
  replace HB1 := Lib.hid (Keeps.heap kk HB1.out (fun h => h))
  replace HB2 := Lib.hid (Keeps.heap kk HB2.out (fun h => h))
  replace HB3 := Lib.hid (Keeps.heap kk HB3.out (fun h => h))
  replace HB4 := Lib.hid (Keeps.heap kk HB4.out (fun h => h))
  replace hso2 := Lib.hid (hso2.out.new kk)
  replace hqo2 := Lib.hid (hqo2.out.new kk)
  replace k1 := k1.trans kk
  clear kk
  refine (small_lit w10).mono ?_
  rintro e w11 ⟨rfl, S3, k11⟩
  obtain ⟨r, hr⟩ : ∃ r, r = w10.heap.size := ⟨_, rfl⟩
  rw [← hr] at S3 ⊢
  clear hr
  have HN11 := k11
  replace S1 := S1.new k11
  replace S2 := S2.new k11
  replace HB6 := Lib.hid (Keeps.heap k11 HB6.out (fun h => h))
  replace HB1 := Lib.hid (Keeps.heap k11 HB1.out (fun h => h))
  replace HB2 := Lib.hid (Keeps.heap k11 HB2.out (fun h => h))
  replace HB3 := Lib.hid (Keeps.heap k11 HB3.out (fun h => h))
  replace HB4 := Lib.hid (Keeps.heap k11 HB4.out (fun h => h))
  replace hso2 := Lib.hid (hso2.out.new k11)
  replace hqo2 := Lib.hid (hqo2.out.new k11)
  replace k1 := k1.trans k11
  clear k11 HN11
  obtain ⟨g0, g1, g2, g3, g4, hGl⟩ := gr_cells HB1.out
  go_wp2_with fail
  clear g0 g1 g2 g3 g4 hGl
  have kz : New w11 (w11.alloc (.cells #[.string ⟨#[103]⟩, .slice (some ⟨r + 1 + 1, 0, none⟩) 2 2, .slice (some ⟨r + 1 + 1 + 1 + 1, 0, none⟩) 1 1, .slice (some ⟨r + 1 + 1 + 1 + 1 + 1, 0, none⟩) 1 1, .slice none 0 0] 26)) := (New.refl w11).alloc _
  have hz : (w11.alloc (.cells #[.string ⟨#[103]⟩, .slice (some ⟨r + 1 + 1, 0, none⟩) 2 2, .slice (some ⟨r + 1 + 1 + 1 + 1, 0, none⟩) 1 1, .slice (some ⟨r + 1 + 1 + 1 + 1 + 1, 0, none⟩) 1 1, .slice none 0 0] 26)).heap[w11.heap.size]? = some (.cells #[.string ⟨#[103]⟩, .slice (some ⟨r + 1 + 1, 0, none⟩) 2 2, .slice (some ⟨r + 1 + 1 + 1 + 1, 0, none⟩) 1 1, .slice (some ⟨r + 1 + 1 + 1 + 1 + 1, 0, none⟩) 1 1, .slice none 0 0] 26 (0, 0)) := heap_alloc_new w11 _
  generalize (w11.alloc (.cells #[.string ⟨#[103]⟩, .slice (some ⟨r + 1 + 1, 0, none⟩) 2 2, .slice (some ⟨r + 1 + 1 + 1 + 1, 0, none⟩) 1 1, .slice (some ⟨r + 1 + 1 + 1 + 1 + 1, 0, none⟩) 1 1, .slice none 0 0] 26)) = w12 at kz hz ⊢
  generalize w11.heap.size = B7 at hz ⊢
  have HB7 := Lib.hid hz
  replace S1 := S1.new kz
  replace S2 := S2.new kz
  replace S3 := S3.new kz
  replace HB6 := Lib.hid (Keeps.heap kz HB6.out (fun h => h))
  replace HB1 := Lib.hid (Keeps.heap kz HB1.out (fun h => h))
  replace HB2 := Lib.hid (Keeps.heap kz HB2.out (fun h => h))
  replace HB3 := Lib.hid (Keeps.heap kz HB3.out (fun h => h))
  replace HB4 := Lib.hid (Keeps.heap kz HB4.out (fun h => h))
  replace hso2 := Lib.hid (hso2.out.new kz)
  replace hqo2 := Lib.hid (hqo2.out.new kz)
  replace k1 := k1.trans kz
  clear kz hz
  have hc1 := ccheck_any w12 (sm n 0) S1.at (sm_len n 0)
  rw [sm_find] at hc1
  refine hc1.mono ?_
  rintro e w13 ⟨rfl, kc⟩
  replace S1 := S1.new kc
  replace S2 := S2.new kc
  replace S3 := S3.new kc
  replace HB6 := Lib.hid (Keeps.heap kc HB6.out (fun h => h))
  replace HB7 := Lib.hid (Keeps.heap kc HB7.out (fun h => h))
  replace HB1 := Lib.hid (Keeps.heap kc HB1.out (fun h => h))
  replace HB2 := Lib.hid (Keeps.heap kc HB2.out (fun h => h))
  replace HB3 := Lib.hid (Keeps.heap kc HB3.out (fun h => h))
  replace HB4 := Lib.hid (Keeps.heap kc HB4.out (fun h => h))
  replace hso2 := Lib.hid (hso2.out.new kc)
  replace hqo2 := Lib.hid (hqo2.out.new kc)
  replace k1 := k1.trans kc
  clear kc hc1
  obtain ⟨g0, g1, g2, g3, g4, hGl⟩ := gr_cells HB6.out
  go_wp2_with fail
  clear g0 g1 g2 g3 g4 hGl
  have hc2 := ccheck_any w13 (sm m 1) S2.at (sm_len m 1)
  rw [sm_bad] at hc2
  refine hc2.mono ?_
  rintro e w14 ⟨rfl, kc⟩
  replace S1 := S1.new kc
  replace S3 := S3.new kc
  replace HB7 := Lib.hid (Keeps.heap kc HB7.out (fun h => h))
  replace HB1 := Lib.hid (Keeps.heap kc HB1.out (fun h => h))
  replace HB2 := Lib.hid (Keeps.heap kc HB2.out (fun h => h))
  replace HB3 := Lib.hid (Keeps.heap kc HB3.out (fun h => h))
  replace HB4 := Lib.hid (Keeps.heap kc HB4.out (fun h => h))
  replace hso2 := Lib.hid (hso2.out.new kc)
  replace hqo2 := Lib.hid (hqo2.out.new kc)
  replace k1 := k1.trans kc
  clear kc hc2 HB6 S2
  obtain ⟨g0, g1, g2, g3, g4, hGl⟩ := gr_cells HB7.out
  go_wp2_with fail
  clear g0 g1 g2 g3 g4 hGl
  have hc3 := ccheck_any w14 (smO r) S3.atO (smO_len r)
  rw [sm_open] at hc3
  refine hc3.mono ?_
  rintro e w15 ⟨rfl, kc⟩
  replace S1 := S1.new kc
  replace HB1 := Lib.hid (Keeps.heap kc HB1.out (fun h => h))
  replace HB2 := Lib.hid (Keeps.heap kc HB2.out (fun h => h))
  replace HB3 := Lib.hid (Keeps.heap kc HB3.out (fun h => h))
  replace HB4 := Lib.hid (Keeps.heap kc HB4.out (fun h => h))
  replace hso2 := Lib.hid (hso2.out.new kc)
  replace hqo2 := Lib.hid (hqo2.out.new kc)
  replace k1 := k1.trans kc
  clear kc hc3 HB7 S3
  have hlen5 := HIL.out
  have h0l : 0 < s.items.length := by omega
  obtain ⟨b, off, hab, q0, q1, q2, -, -, -, -, -, -, -, -⟩ := items_row hso2.out.at.sl h0l
  rw [it_first HSB.out h0l] at q2
  have hbw : b < w15.heap.size := World.block_lt_of_cell? w15 _ q0
  obtain ⟨p0, p1, -, -, hPl⟩ := sk_cells HB2.out
  rw [hab] at p1
  obtain ⟨g0, g1, g2, g3, g4, hGl⟩ := gr_cells HB1.out
  obtain ⟨h0, h1, h2, h3, h4, hHl⟩ := gr_cells HB3.out
  obtain ⟨f0, f1, -, -, hFl⟩ := fault_cells HB4.out
  have d5 : ((s.items.length : Int) == 5) = true := by rw [hlen5]; rfl
  have d5' : decide (s.items.length = 5) = true := decide_eq_true hlen5
  have hpos : (0 : Int) < (s.items.length : Int) := by omega
  simp only [Nat.zero_mul, Nat.add_zero] at q2
  have hsg := sameGraph_yes w15 (sm n 0) q S1.at hqo2.out (by rw [sm_bare, HQB.out]) (sm_len n 0)
  clear hlen5 hab q0 q1 HIL HSB HQB
  go_wp2_with fail
  refine hsg.mono ?_
  rintro e w16 ⟨rfl, k16⟩
  go_wp2_with fail
  go_ret
  exact ⟨rfl, k1.trans k16⟩
end Go.Proofs.Ytpljnapglbmdlaa
