/-
  Layer 20, plain: bytes as strings and back; what is read are ints.
-/
import Derived.Test.YtfmpjbiaamkobaaCodeY
namespace Go.Proofs.Ytfmpjbiaamkobaa
open Go Go.RowKit
set_option linter.all false

theorem unsB_rng {n : Nat} (h : n < 18446744073709551616) : ∀ b ∈ unsB n, 0 ≤ b ∧ b ≤ 255 :=
  unsF_rng 9 n (Nat.lt_trans h (by decide))
theorem zig_lt {x : Int} (h : i64B x) : zig x < 18446744073709551616 := by
  obtain ⟨a, b⟩ := h
  unfold zig; split <;> omega
theorem intsB_rng {l : List Int} (hl : l.length < 18446744073709551616) (h : ∀ x ∈ l, i64B x) : ∀ b ∈ intsB l, 0 ≤ b ∧ b ≤ 255 := by
  intro b hb
  unfold intsB at hb
  rcases List.mem_append.1 hb with hb | hb
  · exact unsB_rng hl b hb
  · obtain ⟨x, hx, hb⟩ := List.mem_flatMap.1 hb
    exact unsB_rng (zig_lt (h x hx)) b hb
theorem progB_rng {p : Pg} (h : Fits p) (ht : ∀ x ∈ p.parts, 0 ≤ x.tag ∧ x.tag ≤ 255) (hk : ∀ x ∈ p.ops, 0 ≤ x.kind ∧ x.kind ≤ 255) : ∀ b ∈ progB p, 0 ≤ b ∧ b ≤ 255 := by
  obtain ⟨m, c, i, o, np, nl, no, ps, ls, os⟩ := h
  intro b hb
  unfold progB at hb
  simp only [List.mem_append] at hb
  rcases hb with (((((((((hb | hb) | hb) | hb) | hb) | hb) | hb) | hb) | hb) | hb) | hb
  · simp only [List.mem_cons, List.not_mem_nil, or_false] at hb; omega
  · exact unsB_rng (by omega) b hb
  · exact unsB_rng (by omega) b hb
  · exact unsB_rng (by omega) b hb
  · exact unsB_rng (by omega) b hb
  · exact unsB_rng (by omega) b hb
  · obtain ⟨x, hx, hb⟩ := List.mem_flatMap.1 hb
    have h1 := ps x hx
    have h2 := ht x hx
    unfold partB at hb
    rcases List.mem_cons.1 hb with rfl | hb
    · exact h2
    · exact intsB_rng (by omega) h1.2 b hb
  · exact unsB_rng (by omega) b hb
  · obtain ⟨x, hx, hb⟩ := List.mem_flatMap.1 hb
    have h1 := ls x hx
    unfold lineB at hb
    simp only [List.mem_append] at hb
    rcases hb with (hb | hb) | hb
    · exact unsB_rng (by omega) b hb
    · exact unsB_rng (by omega) b hb
    · exact intsB_rng (by omega) h1.2.2.2.2.2 b hb
  · exact unsB_rng (by omega) b hb
  · obtain ⟨x, hx, hb⟩ := List.mem_flatMap.1 hb
    have h1 := os x hx
    have h2 := hk x hx
    unfold opB at hb
    rcases List.mem_cons.1 hb with rfl | hb
    · exact h2
    · rcases List.mem_append.1 hb with hb | hb
      · exact unsB_rng (by omega) b hb
      · exact unsB_rng (by omega) b hb
theorem bytes_back {xs : List Int} (h : ∀ b ∈ xs, 0 ≤ b ∧ b ≤ 255) : bytesOf (strOfNums xs) = xs := by
  unfold bytesOf
  rw [strOfNums_data, List.map_map]
  have : xs.map ((fun b : UInt8 => (b.toNat : Int)) ∘ fun n => UInt8.ofNat n.toNat) = xs.map id := by
    apply List.map_congr_left
    intro b hb
    have := h b hb
    simp only [Function.comp, id]
    have e : (UInt8.ofNat b.toNat).toNat = b.toNat % 256 := by simp
    rw [e]
    omega
  rw [this, List.map_id]
theorem str_back (s : ByteArray) : strOfNums (bytesOf s) = s := by
  have h : (strOfNums (bytesOf s)).data.toList = s.data.toList := by
    rw [strOfNums_data]
    unfold bytesOf
    rw [List.map_map]
    have : s.data.toList.map ((fun n : Int => UInt8.ofNat n.toNat) ∘ fun b => (b.toNat : Int)) = s.data.toList.map id := by
      apply List.map_congr_left
      intro b _
      simp
    rw [this, List.map_id]
  have h2 : (strOfNums (bytesOf s)).data = s.data := Array.toList_inj.1 h
  cases s
  cases hh : strOfNums (bytesOf _)
  rw [hh] at h2
  simp only at h2
  rw [h2]
theorem bytes_app (s t : ByteArray) : bytesOf (s ++ t) = bytesOf s ++ bytesOf t := by
  unfold bytesOf
  rw [← List.map_append]
  congr 1
  try simp

/-! What is read are ints. -/
def Wr {α : Type} (f : List Int → Rd α) (V : α → Prop) : Prop := ∀ L x r, (∀ b ∈ L, 0 ≤ b ∧ b ≤ 255) → f L = .ok x r → V x ∧ ∀ b ∈ r, 0 ≤ b ∧ b ≤ 255
theorem Wr.of {α : Type} {f : List Int → Rd α} {enc : α → List Int} (h : Back f enc) : Wr f (fun _ => True) := fun L x r hb hf => ⟨trivial, Back.sub (h L x r hb hf) hb⟩
theorem wr_sint : Wr sintR i64B := by
  intro L x r hb h
  refine ⟨?_, Back.sub (back_sint L x r hb h) hb⟩
  obtain ⟨n, r', h1, h2⟩ := rd_bind_ok h
  cases h2
  have := whole10_lt hb h1
  unfold i64B unzig
  split <;> omega
theorem wr_times {α : Type} {f : List Int → Rd α} {V : α → Prop} (hf : Wr f V) : ∀ (n : Nat), Wr (timesR f n) (fun l => ∀ x ∈ l, V x) := by
  intro n
  induction n with
  | zero => intro L l r hb h; cases h; exact ⟨by simp, hb⟩
  | succ n ih =>
    intro L l r hb h
    obtain ⟨x, r1, h1, h2⟩ := rd_bind_ok h
    obtain ⟨l', r2, h3, h4⟩ := rd_bind_ok h2
    cases h4
    have a := hf _ _ _ hb h1
    have b := ih _ _ _ a.2 h3
    refine ⟨fun y hy => ?_, b.2⟩
    rcases List.mem_cons.1 hy with rfl | hy
    · exact a.1
    · exact b.1 y hy
theorem wr_list {α : Type} {f : List Int → Rd α} {V : α → Prop} (hf : Wr f V) (most : Nat) : Wr (listR f most) (fun l => ∀ x ∈ l, V x) := by
  intro L l r hb h
  obtain ⟨n, r1, h1, h2⟩ := rd_bind_ok h
  exact wr_times hf n _ _ _ (Back.sub (back_many most L n r1 hb h1) hb) h2
theorem wr_part : Wr partR (fun x => ∀ y ∈ x.xs, i64B y) := by
  intro L x r hb h
  refine ⟨?_, Back.sub (back_part L x r hb h) hb⟩
  obtain ⟨t, r1, h1, h2⟩ := rd_bind_ok h
  obtain ⟨xs, r2, h3, h4⟩ := rd_bind_ok h2
  cases h4
  cases L with
  | nil => cases h1
  | cons b L => cases h1; exact (wr_list wr_sint 16 _ _ _ (fun x hx => hb x (by simp [hx])) h3).1
theorem wr_line : Wr lineR (fun x => ∀ y ∈ x.xs, i64B y) := by
  intro L x r hb h
  refine ⟨?_, Back.sub (back_line L x r hb h) hb⟩
  obtain ⟨b, r1, h1, h2⟩ := rd_bind_ok h
  obtain ⟨s, r2, h3, h4⟩ := rd_bind_ok h2
  obtain ⟨xs, r3, h5, h6⟩ := rd_bind_ok h4
  cases h6
  have hb1 := Back.sub (back_count _ _ _ hb h1) hb
  have hb2 := Back.sub (back_count _ _ _ hb1 h3) hb1
  exact (wr_list wr_sint 1024 _ _ _ hb2 h5).1
theorem prog_wf {L : List Int} {p : Pg} {r : List Int} (hb : ∀ b ∈ L, 0 ≤ b ∧ b ≤ 255) (h : progR L = .ok p r) : PgWf p := by
  obtain ⟨m, r1, h1, h⟩ := rd_bind_ok h
  obtain ⟨c, r2, h2, h⟩ := rd_bind_ok h
  obtain ⟨i, r3, h3, h⟩ := rd_bind_ok h
  obtain ⟨o, r4, h4, h⟩ := rd_bind_ok h
  obtain ⟨ps, r5, h5, h⟩ := rd_bind_ok h
  obtain ⟨ls, r6, h6, h⟩ := rd_bind_ok h
  obtain ⟨ops, r7, h7, h⟩ := rd_bind_ok h
  cases h
  have b1 := Back.sub (back_count _ _ _ hb h1) hb
  have b2 := Back.sub (back_count _ _ _ b1 h2) b1
  have b3 := Back.sub (back_count _ _ _ b2 h3) b2
  have b4 := Back.sub (back_count _ _ _ b3 h4) b3
  have w5 := wr_list wr_part 32 _ _ _ b4 h5
  have w6 := wr_list wr_line 96 _ _ _ w5.2 h6
  exact ⟨w5.1, w6.1⟩
theorem decode_wf {L : List Int} (hb : ∀ b ∈ L, 0 ≤ b ∧ b ≤ 255) {p : Pg} (h : decodeR L = .ok p) : PgWf p := by
  unfold decodeR at h
  split at h
  · cases h
  · split at h
    · cases h
    · rename_i q r e
      split at h
      · cases h
      · split at h
        · cases h
        · cases h; exact prog_wf (fun b hx => hb b (List.mem_of_mem_drop hx)) e
theorem wf_same {p q : Pg} (h : p.bare = q.bare) (hw : PgWf p) : PgWf q := by
  obtain ⟨_, _, _, _, h5, h6, _⟩ := bare_parts h
  refine ⟨fun x hx => ?_, fun x hx => ?_⟩
  · have : x.bare ∈ q.parts.map PartD.bare := List.mem_map.2 ⟨x, hx, rfl⟩
    rw [← h5] at this
    obtain ⟨y, hy, he⟩ := List.mem_map.1 this
    have e : y.xs = x.xs := by have := congrArg PartD.xs he; simpa [PartD.bare] using this
    rw [← e]; exact hw.px y hy
  · have : x.bare ∈ q.lines.map LineD.bare := List.mem_map.2 ⟨x, hx, rfl⟩
    rw [← h6] at this
    obtain ⟨y, hy, he⟩ := List.mem_map.1 this
    have e : y.xs = x.xs := by have := congrArg LineD.xs he; simpa [LineD.bare] using this
    rw [← e]; exact hw.lx y hy
theorem bare_bare (p : Pg) : p.bare.bare = p.bare := by
  unfold Pg.bare
  simp only [List.map_map]
  rfl
/-- The bytes of a sound program, as a string, and what Decode tells of them. -/
theorem sound_bytes {p : Pg} (h0 : (stepsR p).2 = 0) (hw : PgWf p) : bytesOf (strOfNums (progB p)) = progB p ∧ (strOfNums (progB p)).size ≤ 10000000 := by
  have hf := fits_of h0 hw
  refine ⟨bytes_back (progB_rng hf (tags_of h0) (kinds_of h0)), ?_⟩
  rw [strOfNums_size]
  exact progB_len hf
end Go.Proofs.Ytfmpjbiaamkobaa
