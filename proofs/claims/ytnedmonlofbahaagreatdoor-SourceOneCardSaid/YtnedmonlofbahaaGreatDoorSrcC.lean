/-
  Layer 9: what the laws share: Parse of any text, Build of what was read, an error's fault, awake.
-/
import Derived.Test.YtnedmonlofbahaaGreatDoorSrcB
namespace Go.Proofs.YtnedmonlofbahaaGreatDoor
open Go Go.RowKit Go.Joins
set_option linter.all false

abbrev zG0 : Gr := ⟨⟨#[]⟩, none, 0, [], none, 0, [], none, 0, [], none, 0, []⟩
theorem zG0_at (w : World) : GrAt w zG0 := ⟨SlAt.nil _ _, SlAt.nil _ _, SlAt.nil _ _, SlAt.nil _ _, (fun x hx => by cases hx), (fun x hx => by cases hx)⟩
theorem zG0_len : GLen zG0 := ⟨by decide, by decide, by decide, by decide, (fun x hx => by cases hx), (fun x hx => by cases hx), (fun x hx => by cases hx), (fun x hx => by cases hx), by decide⟩
def srcH (l : List UInt8) : Gr := if (srcF l).1 = 0 then srcG l else zG0
def errV (f : Int × Int) : Value := if f.1 = 0 then .nilIface else .iface 33 (.agg #[I f.1, I f.2])
theorem fault_any (w : World) (f : Int × Int) (hz : f.1 = 0 → f.2 = 0) (he : EtIs w) : Calls Tryz.prog 12 #[errV f] w fun e w' => e = .returned (.tuple #[.agg #[I f.1, I f.2], .bool true]) ∧ New w w' := by
  unfold errV
  by_cases h : f.1 = 0
  · rw [if_pos h, h, hz h]
    exact fault_nil w
  · rw [if_neg h]
    exact fault_err w f.1 f.2 h he
theorem src_zero {l : List UInt8} (h : (srcF l).1 = 0) : (srcF l).2 = 0 := by rw [(src_good h).1]
theorem glen_src {l : List UInt8} {q : Gr} (h : (srcF l).1 = 0) (hq : q.bare = srcG l) : (findG q).1 = 0 ∧ GNum q ∧ Fair q ∧ q.bare = (srcG l).bare := by
  obtain ⟨_, h2, h3, h4⟩ := src_good h
  have e : q.bare = (srcG l).bare := by rw [h4]; exact hq
  have e1 : (findG q).1 = 0 := by rw [findG_same e]; exact h2
  exact ⟨e1, h3.same e.symm, (find_fair e1).1, e⟩
theorem sparse_uni (w : World) (s : ByteArray) (he : Env w) (hs : s.size ≤ 9223372036854775807) :
    Calls Tryz.prog 10 #[.string s] w fun e w' => ∃ q, e = .returned (.tuple #[q.v, errV (srcF s.data.toList)]) ∧ GrAt w' q ∧ GLen q ∧ q.bare = srcH s.data.toList ∧ New w w' := by
  refine (sparse_any w s he hs).mono ?_
  intro e w' h
  unfold SParsed at h
  unfold srcH errV
  rcases h with ⟨h1, rfl, hn⟩ | ⟨h1, B, q, _, rfl, hq, hqb, hn⟩
  · rw [if_neg h1, if_neg h1]
    exact ⟨zG0, rfl, zG0_at _, zG0_len, rfl, hn⟩
  · rw [if_pos h1, if_pos h1]
    exact ⟨q, rfl, hq.at, gr_len (glen_src h1 hqb).2.2.1, hqb, hn⟩
theorem build_uni (w : World) (l : List UInt8) (x : LSk) (t : Sk) (hA : parseA l = .ok x) (ht : t.bare = x.mem) (hat : SkAt w t) :
    Calls Tryz.prog 24 #[t.v] w fun e w' => ∃ q, e = .returned (.tuple #[q.v, .agg #[I (srcF l).1, I (srcF l).2]]) ∧ GrAt w' q ∧ q.bare = srcH l ∧ New w w' := by
  obtain ⟨hok, hlen⟩ := read_ok hA
  obtain ⟨q1, q2, q3, q4⟩ := sk_room hok hlen ht
  have e1 : srcF l = buildF t := by unfold srcF; rw [hA]; rw [← buildF_bare t, ht]
  have e2 : srcG l = buildG t := by unfold srcG; rw [hA]; rw [← buildG_bare t, ht]
  refine (cbuild_any w t hat q1 q2 q3 q4).mono ?_
  intro e w' hB
  unfold Built at hB
  unfold srcH
  rw [e1, e2]
  by_cases hf : (buildF t).1 ≠ 0
  · rw [if_pos hf] at hB
    obtain ⟨rfl, hn⟩ := hB
    rw [if_neg hf]
    exact ⟨zG0, rfl, zG0_at _, rfl, hn⟩
  · rw [if_neg hf] at hB
    obtain ⟨q, rfl, hq, hqb, hn⟩ := hB
    have hf0 : (buildF t).1 = 0 := by simpa using hf
    rw [if_pos hf0, buildF_zero2 hf0]
    exact ⟨q, rfl, hq.at, hqb, hn⟩
def awA : ByteArray := ⟨#[103, 114, 97, 112, 104, 32, 103, 32, 123, 32, 105, 110, 32, 120, 32, 45, 62, 32, 97, 46, 48, 59, 32, 111, 117, 116, 32, 97, 46, 48, 32, 45, 62, 32, 121, 59, 32, 97, 99, 116, 111, 114, 32, 97, 32, 61, 32, 117, 112, 32, 50, 32, 59, 32, 125]⟩
def awB : ByteArray := ⟨#[103, 114, 97, 112, 104, 32, 103, 32, 123, 32, 97, 99, 116, 111, 114, 32, 97, 32, 61, 32, 117, 112, 32, 48, 59, 32, 125]⟩
def awW : ByteArray := ⟨#[103, 114, 97, 112, 104, 32, 103, 32, 123, 10, 32, 32, 97, 99, 116, 111, 114, 32, 97, 32, 61, 32, 117, 112, 32, 50, 59, 10, 32, 32, 105, 110, 32, 120, 32, 45, 62, 32, 97, 46, 48, 59, 10, 32, 32, 111, 117, 116, 32, 97, 46, 48, 32, 45, 62, 32, 121, 59, 10, 125, 10]⟩
theorem aw_a : srcF awA.data.toList = (0, 0) := by kernel_rfl
theorem aw_b : srcF awB.data.toList = (61, 10) := by kernel_rfl
theorem aw_w : (⟨(printW (drawS (srcG awA.data.toList))).toArray⟩ : ByteArray) = awW := by kernel_rfl
set_option maxRecDepth 100000 in
set_option maxHeartbeats 8000000 in
theorem awake_src (w : World) (he : EnvS w) : Calls Tryz.prog 14 #[] w fun e w' => e = .returned (.bool true) ∧ New w w' := by
  have h1 : ∀ W, Env W → Calls Tryz.prog 10 #[.string ⟨#[103, 114, 97, 112, 104, 32, 103, 32, 123, 32, 105, 110, 32, 120, 32, 45, 62, 32, 97, 46, 48, 59, 32, 111, 117, 116, 32, 97, 46, 48, 32, 45, 62, 32, 121, 59, 32, 97, 99, 116, 111, 114, 32, 97, 32, 61, 32, 117, 112, 32, 50, 32, 59, 32, 125]⟩] W _ := fun W e => sparse_any W awA e (by decide)
  have h2 : ∀ W, Env W → Calls Tryz.prog 10 #[.string ⟨#[103, 114, 97, 112, 104, 32, 103, 32, 123, 32, 97, 99, 116, 111, 114, 32, 97, 32, 61, 32, 117, 112, 32, 48, 59, 32, 125]⟩] W _ := fun W e => sparse_any W awB e (by decide)
  have HE := Lib.hid he
  go_enter Tryz.func14, Tryz.ntmps14
  go_wp2_with fail
  refine (h1 _ HE.out.env).mono ?_
  intro e w1 hP
  have a0 : (srcF awA.data.toList).1 = 0 := by rw [aw_a]
  rcases hP with ⟨hne, _⟩ | ⟨_, B, q, _, rfl, hown, hqb, n1⟩
  · exact absurd a0 hne
  obtain ⟨f1, f2, f3, f4⟩ := glen_src a0 hqb
  have n2 : New w1 (w1.alloc (.cells q.cs 26)) := (New.refl _).alloc _
  have hpr := sprint_ok (w1.alloc (.cells q.cs 26)) q (HE.out.env.new (n1.trans n2)) (hown.at.new n2) f1 f2
  have eW : (⟨(printW (drawS q)).toArray⟩ : ByteArray) = awW := by rw [draw_bare f4]; exact aw_w
  rw [eW] at hpr
  have N2 := Lib.hid (n1.trans n2)
  simp only [Gr.v, Gr.cs] at hpr ⊢
  clear h1 n1 n2 a0 hown hqb f1 f2 f3 f4 eW he
  go_wp2_with fail
  refine hpr.mono ?_
  rintro e w2 ⟨rfl, n3⟩
  have hp2 := h2 w2 (HE.out.env.new (N2.out.trans n3))
  have N3 := Lib.hid (N2.out.trans n3)
  clear hpr n3 h2
  go_wp2_with fail
  refine hp2.mono ?_
  intro e w3 hP
  have b1 : srcF awB.data.toList = (61, 10) := aw_b
  unfold SParsed at hP
  rw [b1] at hP
  rcases hP with ⟨_, rfl, n4⟩ | ⟨h0, _⟩
  rotate_left
  · simp at h0
  have n5 : New w3 (w3.alloc (.cells zG0.cs 26)) := (New.refl _).alloc _
  have hf := fault_err (w3.alloc (.cells zG0.cs 26)) 61 10 (by decide) (HE.out.et.new ((N3.out.trans n4).trans n5))
  have N4 := Lib.hid ((N3.out.trans n4).trans n5)
  simp only [Gr.cs, zG0, List.length_nil] at hf
  unfold awW
  clear hp2 b1 n4 n5
  go_wp2_with fail
  refine hf.mono ?_
  rintro e w4 ⟨rfl, n6⟩
  have N5 := Lib.hid (N4.out.trans n6)
  clear hf n6
  go_wp2_with fail
  (try go_ret)
  exact ⟨rfl, N5.out.alloc _⟩
theorem sparse_again (g : Gr) (h0 : (findG g).1 = 0) (hn : GNum g) (w : World) (he : Env w) :
    Calls Tryz.prog 10 #[.string ⟨(printW (drawS g)).toArray⟩] w fun e w' => ∃ q, e = .returned (.tuple #[q.v, .nilIface]) ∧ GrAt w' q ∧ q.bare = g.bare ∧ New w w' := by
  have hl := draw_len (find_fair h0).1 hn
  have hd : (⟨(printW (drawS g)).toArray⟩ : ByteArray).data.toList = printW (drawS g) := by simp
  have hs : (⟨(printW (drawS g)).toArray⟩ : ByteArray).size ≤ 9223372036854775807 := by rw [arr_size]; omega
  obtain ⟨s1, s2⟩ := src_print h0 hn
  refine (sparse_any w _ he hs).mono ?_
  intro e w' h
  unfold SParsed at h
  rw [hd, s1, s2] at h
  rcases h with ⟨h1, _⟩ | ⟨_, B, q, _, rfl, hq, hqb, hk⟩
  · exact absurd rfl h1
  · exact ⟨q, rfl, hq.at, hqb, hk⟩
end Go.Proofs.YtnedmonlofbahaaGreatDoor
