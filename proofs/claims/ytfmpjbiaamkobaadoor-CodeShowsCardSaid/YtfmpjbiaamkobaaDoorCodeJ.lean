/-
  Layer 20, plain: a program's bytes.
-/
import Derived.Test.YtfmpjbiaamkobaaDoorCodeI
namespace Go.Proofs.YtfmpjbiaamkobaaDoor
open Go Go.RowKit
set_option linter.all false

/-- A whole number's bytes, seven bits each, the low ones first. -/
def unsF : Nat → Nat → List Int
  | 0, n => [(n : Int)]
  | f + 1, n => if n < 128 then [(n : Int)] else ((n % 128 + 128 : Nat) : Int) :: unsF f (n / 128)
def unsB (n : Nat) : List Int := unsF 9 n
def zig (n : Int) : Nat := if 0 ≤ n then 2 * n.toNat else 2 * (-(n + 1)).toNat + 1
def intsB (l : List Int) : List Int := unsB l.length ++ l.flatMap (fun n => unsB (zig n))
def partB (x : PartD) : List Int := x.tag :: intsB x.xs
def lineB (l : LineD) : List Int := unsB l.base.toNat ++ unsB l.size.toNat ++ intsB l.xs
def opB (o : OpD) : List Int := o.kind :: (unsB o.a.toNat ++ unsB o.b.toNat)
def progB (p : Pg) : List Int :=
  [80, 78, 76, 49] ++ unsB p.mem.toNat ++ unsB p.ctr.toNat ++ unsB p.ins.toNat ++ unsB p.outs.toNat
    ++ unsB p.parts.length ++ p.parts.flatMap partB ++ unsB p.lines.length ++ p.lines.flatMap lineB ++ unsB p.ops.length ++ p.ops.flatMap opB

theorem unsF_small {f n : Nat} (h : n < 128) : unsF f n = [(n : Int)] := by
  cases f with
  | zero => rfl
  | succ f => unfold unsF; rw [if_pos h]
theorem unsF_big {f n : Nat} (h : ¬ n < 128) : unsF (f + 1) n = ((n % 128 + 128 : Nat) : Int) :: unsF f (n / 128) := by
  show (if n < 128 then [(n : Int)] else ((n % 128 + 128 : Nat) : Int) :: unsF f (n / 128)) = _
  rw [if_neg h]
/-- More fuel changes nothing. -/
theorem unsF_more : ∀ (f n : Nat), n < 128 ^ (f + 1) → unsF (f + 1) n = unsF f n := by
  intro f
  induction f with
  | zero => intro n h; rw [unsF_small (by simpa using h), unsF_small (by simpa using h)]
  | succ f ih =>
    intro n h
    by_cases hn : n < 128
    · rw [unsF_small hn, unsF_small hn]
    · rw [unsF_big hn, unsF_big hn, ih (n / 128) (by rw [Nat.div_lt_iff_lt_mul (by omega)]; rw [Nat.pow_succ] at h; exact h)]

end Go.Proofs.YtfmpjbiaamkobaaDoor
