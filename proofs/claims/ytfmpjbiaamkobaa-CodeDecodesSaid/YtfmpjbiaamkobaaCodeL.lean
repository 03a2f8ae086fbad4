/-
  Layer 20: bytes that a call makes: the document's unsigned, counted, integer.
-/
import Derived.Test.YtfmpjbiaamkobaaCodeJ
import Derived.Laws.BitsAllLaws
namespace Go.Proofs.Ytfmpjbiaamkobaa
open Go Go.RowKit
set_option linter.all false

abbrev Bs (xs : List Int) : List Value := xs.map (Value.int .u8)
theorem Try.infoU8 : (Try.prog.info? 5).map (fun i => (i.zero, i.size, i.bytes)) = some (some (.int .u8 0), 1, 1) := by kernel_rfl
/-- An owned row of bytes. -/
def OwnB (w : World) (B : Nat) (ao : Option Addr) (c : Nat) (xs : List Int) : Prop := w.ownsRow B 5 1 (.slice ao xs.length c) xs.length (Bs xs)
theorem OwnB.sl {w : World} {B : Nat} {ao : Option Addr} {c : Nat} {xs : List Int} (h : OwnB w B ao c xs) : SlAt w ao (Bs xs) := SlAt.of_owns h
theorem OwnB.new {w w' : World} {B : Nat} {ao : Option Addr} {c : Nat} {xs : List Int} (h : OwnB w B ao c xs) (k : New w w') : OwnB w' B ao c xs := k.owns h
theorem OwnB.nil (w : World) (B : Nat) : OwnB w B Option.none 0 [] := World.ownsRow_nil _ _ _ _
theorem oneCell_bs (xs : List Int) : ∀ u ∈ Bs xs, u.oneCell' = true := ints_oneCell .u8 xs
theorem bs_len (xs : List Int) : (Bs xs).length = xs.length := by simp
theorem bs_app (xs ys : List Int) : Bs xs ++ Bs ys = Bs (xs ++ ys) := by simp

theorem unsF_len : ∀ (f n : Nat), 0 < (unsF f n).length ∧ (unsF f n).length ≤ f + 1 := by
  intro f
  induction f with
  | zero => intro n; simp [unsF]
  | succ f ih =>
    intro n
    by_cases h : n < 128
    · rw [unsF_small h]; simp
    · rw [unsF_big h]; have := ih (n / 128); simp; omega

/-- Bytes as a call hands them out. -/
def BytesOut (w : World) (bs : List Int) (e : Ending) (w' : World) : Prop := ∃ a c, e = .returned (.slice a bs.length c) ∧ OwnB w' w.heap.size a c bs ∧ New w w'

set_option maxRecDepth 100000 in
set_option maxHeartbeats 2000000 in
theorem unsigned_any (n0 : Nat) (hn0 : n0 < 128 ^ 10) (h64 : n0 < 18446744073709551616) (w : World) :
    Calls Try.prog 56 #[.int .u64 n0] w (BytesOut w (unsB n0)) := by
  obtain ⟨i0, hi, hz0, hz1, hz2⟩ := info_parts Try.infoU8
  have hstart : [] ++ unsF 9 n0 = unsB n0 := rfl
  have HS := Lib.hid hstart
  generalize unsB n0 = bs at HS ⊢
  clear hstart
  go_enter Try.func56, Try.ntmps56
  go_wp2_with fail
  go_loopw [0, 3] (fun n v wr => ∃ (m f : Nat) (acc : List Int) (a : Option Addr) (c : Nat), n = .int .u64 m ∧ m < 18446744073709551616 ∧ m < 128 ^ (f + 1) ∧ v = .slice a acc.length c ∧ OwnB wr w.heap.size a c acc ∧ acc.length + f = 9 ∧ acc ++ unsF f m = bs ∧ New w wr) (fun n _ _ => (intOf n).toNat)
  case atStart => exact ⟨n0, 9, [], none, 0, rfl, h64, hn0, rfl, OwnB.nil _ _, rfl, HS.out, New.refl _⟩
  case round =>
    obtain ⟨m, f, acc, a, c, rfl, hm, hmf, rfl, hown, hlen, hacc, hnew⟩ := hrel
    have HL := Lib.hid hlen
    have hl9 : acc.length ≤ 9 := by omega
    have HM := Lib.hid hmf
    clear hlen hmf
    have hbase := hnew.size
    by_cases h128 : m < 128
    · rw [unsF_small h128] at hacc
      have HA := Lib.hid hacc
      clear hacc
      have hm0 : (m : Int) % 256 = m := by omega
      have HM0 := Lib.hid hm0
      clear hm0
      go_wp2_with (at_builtin; refine wpList_app rfl _ _ 65 rfl w.heap.size 5 i0 (.int .u8 0) 1 1 Try.underlying65 hi hz0 hz1 hz2 rfl (by decide) a acc.length c (Bs acc) rfl (OwnB.new hown (Keeps.alloc _ _)) _ 1 1 [.int .u8 m] rfl rfl (SlAt.lit _ _ _) (oneCell_bs [(m : Int)]) (by unfold maxLen; omega) (by omega) (Nat.le_trans hbase (by simp)) ?_)
      intro a' c' w' hown' hk hmv _
      have hnew' : New w w' := (hnew.alloc _).keeps hk (fun i hi ⟨x, hx, hb⟩ => by subst hx; have := (World.ownsRow.lt hown x.block rfl).1; omega)
      go_wp2
      go_ret
      refine ⟨a', c', ?_, ?_, hnew'⟩
      · rw [← HA.out]; simp
      · rw [← HA.out]; unfold OwnB; simpa using hown'
    · obtain ⟨f, rfl⟩ : ∃ g, f = g + 1 := by
        refine ⟨f - 1, ?_⟩
        rcases Nat.eq_zero_or_pos f with rfl | h0
        · have := HM.out; simp at this; omega
        · omega
      rw [unsF_big h128] at hacc
      have HA := Lib.hid hacc
      clear hacc
      go_wp2_with (at_builtin; refine wpList_app rfl _ _ 65 rfl w.heap.size 5 i0 (.int .u8 0) 1 1 Try.underlying65 hi hz0 hz1 hz2 rfl (by decide) a acc.length c (Bs acc) rfl (OwnB.new hown (Keeps.alloc _ _)) _ 1 1 [.int .u8 ((m : Int) % 128 + 128)] rfl rfl (SlAt.lit _ _ _) (oneCell_bs [(m : Int) % 128 + 128]) (by unfold maxLen; omega) (by omega) (Nat.le_trans hbase (by simp)) ?_)
      intro a' c' w' hown' hk hmv _
      have hnew' : New w w' := (hnew.alloc _).keeps hk (fun i hi ⟨x, hx, hb⟩ => by subst hx; have := (World.ownsRow.lt hown x.block rfl).1; omega)
      go_wp2
      go_roundw
      case rel =>
        refine ⟨m / 128, f, acc ++ [(m : Int) % 128 + 128], a', c', by go_num, by omega, ?_, by simp, ?_, ?_, ?_, hnew'⟩
        · have := HM.out; rw [Nat.pow_succ] at this; exact Nat.div_lt_of_lt_mul (by rw [Nat.mul_comm]; exact this)
        · unfold OwnB; simpa using hown'
        · have := HL.out; simp; omega
        · rw [← HA.out]; simp
      case measure => simp [intOf]; omega

/-- A number's bytes lie in their range. -/
theorem unsF_rng : ∀ (f n : Nat), n < 128 ^ (f + 1) → ∀ b ∈ unsF f n, 0 ≤ b ∧ b ≤ 255 := by
  intro f
  induction f with
  | zero => intro n h b hb; simp [unsF] at hb; omega
  | succ f ih =>
    intro n h b hb
    by_cases h1 : n < 128
    · rw [unsF_small h1] at hb; simp at hb; omega
    · rw [unsF_big h1] at hb
      rcases List.mem_cons.1 hb with rfl | hb
      · omega
      · exact ih (n / 128) (by rw [Nat.pow_succ] at h; exact Nat.div_lt_of_lt_mul (by rw [Nat.mul_comm]; exact h)) b hb

theorem counted_any (n : Int) (h0 : 0 ≤ n) (h1 : n ≤ 9223372036854775807) (w : World) :
    Calls Try.prog 35 #[I n] w (BytesOut w (unsB n.toNat)) := by
  have hu := unsigned_any n.toNat (by have : (9223372036854775808 : Nat) < 128 ^ 10 := by decide
                                      omega) (by omega) w
  have e : ((n.toNat : Nat) : Int) = n := by omega
  rw [e] at hu
  generalize unsB n.toNat = bs at hu ⊢
  clear e
  go_enter Try.func35, Try.ntmps35
  go_wp2_with fail
  refine hu.mono ?_
  rintro e w' ⟨a, c, rfl, ho, hn⟩
  go_wp2
  go_ret
  exact ⟨a, c, rfl, ho, hn⟩

theorem integer_any (n : Int) (hn : -9223372036854775808 ≤ n ∧ n ≤ 9223372036854775807) (w : World) :
    Calls Try.prog 36 #[I n] w (BytesOut w (unsB (zig n))) := by
  obtain ⟨n0, n1⟩ := hn
  have hz : zig n < 18446744073709551616 := by unfold zig; split <;> omega
  have hu := unsigned_any (zig n) (by have : (18446744073709551616 : Nat) < 128 ^ 10 := by decide
                                      omega) hz w
  by_cases h : 0 ≤ n
  · have e : ((zig n : Nat) : Int) = 2 * n := by unfold zig; rw [if_pos h]; omega
    rw [e] at hu
    generalize unsB (zig n) = bs at hu ⊢
    clear e hz
    go_enter Try.func36, Try.ntmps36
    go_wp2_with fail
    refine hu.mono ?_
    rintro e w' ⟨a, c, rfl, ho, hn⟩
    go_wp2
    go_ret
    exact ⟨a, c, rfl, ho, hn⟩
  · have e : ((zig n : Nat) : Int) = 2 * -(n + 1) + 1 := by unfold zig; rw [if_neg h]; omega
    rw [e] at hu
    generalize unsB (zig n) = bs at hu ⊢
    clear e hz
    go_enter Try.func36, Try.ntmps36
    go_wp2_with fail
    refine hu.mono ?_
    rintro e w' ⟨a, c, rfl, ho, hn⟩
    go_wp2
    go_ret
    exact ⟨a, c, rfl, ho, hn⟩
end Go.Proofs.Ytfmpjbiaamkobaa
