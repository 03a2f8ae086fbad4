/-
  Layer 20: bytes that a call makes: the document's unsigned, counted, integer.
-/
import Derived.Test.YtfmpjbiaamkobaaDoorCodeJ
import Derived.Laws.BitsAllLaws
namespace Go.Proofs.YtfmpjbiaamkobaaDoor
open Go Go.RowKit
set_option linter.all false

abbrev Bs (xs : List Int) : List Value := xs.map (Value.int .u8)
theorem Tryd.infoU8 : (Tryd.prog.info? 5).map (fun i => (i.zero, i.size, i.bytes)) = some (some (.int .u8 0), 1, 1) := by kernel_rfl
/-- An owned row of bytes. -/
def OwnB (w : World) (B : Nat) (ao : Option Addr) (c : Nat) (xs : List Int) : Prop := w.ownsRow B 5 1 (.slice ao xs.length c) xs.length (Bs xs)
theorem OwnB.sl {w : World} {B : Nat} {ao : Option Addr} {c : Nat} {xs : List Int} (h : OwnB w B ao c xs) : SlAt w ao (Bs xs) := SlAt.of_owns h
theorem OwnB.new {w w' : World} {B : Nat} {ao : Option Addr} {c : Nat} {xs : List Int} (h : OwnB w B ao c xs) (k : New w w') : OwnB w' B ao c xs := k.owns h
theorem OwnB.nil (w : World) (B : Nat) : OwnB w B Option.none 0 [] := World.ownsRow_nil _ _ _ _
theorem oneCell_bs (xs : List Int) : ∀ u ∈ Bs xs, u.oneCell' = true := ints_oneCell .u8 xs
theorem bs_len (xs : List Int) : (Bs xs).length = xs.length := by simp
theorem bs_app (xs ys : List Int) : Bs xs ++ Bs ys = Bs (xs ++ ys) := by simp

theorem unsF_len : ∀ (f n : Nat), 0 < (unsF f n).length ∧ (unsF f n).length ≤ f + 1 := by
  intro f
  induction f with
  | zero => intro n; simp [unsF]
  | succ f ih =>
    intro n
    by_cases h : n < 128
    · rw [unsF_small h]; simp
    · rw [unsF_big h]; have := ih (n / 128); simp; omega

/-- Bytes as a call hands them out. -/
def BytesOut (w : World) (bs : List Int) (e : Ending) (w' : World) : Prop := ∃ a c, e = .returned (.slice a bs.length c) ∧ OwnB w' w.heap.size a c bs ∧ New w w'

/-- A number's bytes lie in their range. -/
theorem unsF_rng : ∀ (f n : Nat), n < 128 ^ (f + 1) → ∀ b ∈ unsF f n, 0 ≤ b ∧ b ≤ 255 := by
  intro f
  induction f with
  | zero => intro n h b hb; simp [unsF] at hb; omega
  | succ f ih =>
    intro n h b hb
    by_cases h1 : n < 128
    · rw [unsF_small h1] at hb; simp at hb; omega
    · rw [unsF_big h1] at hb
      rcases List.mem_cons.1 hb with rfl | hb
      · omega
      · exact ih (n / 128) (by rw [Nat.pow_succ] at h; exact Nat.div_lt_of_lt_mul (by rw [Nat.mul_comm]; exact h)) b hb

end Go.Proofs.YtfmpjbiaamkobaaDoor
