/-
  Layer 20: the document's Encode at any program.
-/
import Derived.Test.YtfmpjbiaamkobaaDoorCodeL
import Derived.Test.YtfmpjbiaamkobaaDoorCodeN
import Derived.Lib.AppendStr
import Derived.Laws.BytesArg
namespace Go.Proofs.YtfmpjbiaamkobaaDoor
open Go Go.RowKit
set_option linter.all false

abbrev OwnN (w : World) (B : Nat) (ao : Option Addr) (n c : Nat) (xs : List Int) : Prop := w.ownsRow B 5 1 (.slice ao n c) n (Bs xs)

theorem own_slice {w : World} {B : Nat} {e : TypeId} {size n : Nat} {v : Value} {xs : List Value} (h : w.ownsRow B e size v n xs) : ∃ a c, v = .slice a n c := by
  rcases h.2 with ⟨h0, h1⟩ | ⟨g, cap, cur, h0, _⟩
  · subst h1; exact ⟨none, 0, h0⟩
  · exact ⟨_, _, h0⟩

/-- What a part of a whole is, told by what is left. -/
structure Part (tot acc rest : List Int) : Prop where
  eq : acc ++ rest = tot
theorem Part.step {tot acc bs rest : List Int} (h : Part tot acc (bs ++ rest)) : Part tot (acc ++ bs) rest := ⟨by rw [List.append_assoc]; exact h.eq⟩
theorem Part.le {tot acc rest : List Int} (h : Part tot acc rest) : acc.length + rest.length = tot.length := by rw [← h.eq]; simp

/-- Bytes appended to a row of the call's own. -/
theorem wpList_appB {W w : World} {ops : Array Oper} {rest : List Oper} {o : Oper} {a : Act} {Q : Exit → Act → World → Prop} {tot left : List Int} (hgd : o.guard = none) (s x : Operand)
    (ho : o.op = .call { callee := .builtin .append, args := #[s, x], argTypes := #[47, 47] }) (het : o.type = 47)
    (hN : New W w) (ao : Option Addr) (n c : Nat) (xs : List Int) (hs : a.eval s = .slice ao n c) (hown : OwnN w W.heap.size ao n c xs)
    (ad : Option Addr) (m cc : Nat) (bs : List Int) (hx : a.eval x = .slice ad m cc) (hl : bs.length = m) (hat : SlAt w ad (Bs bs)) (hP : Part tot xs (bs ++ left)) (hT : tot.length ≤ 100000000)
    (h : ∀ ao' n' c' xs' w', OwnN w' W.heap.size ao' n' c' xs' → New W w' → Part tot xs' left → wpList Tryd.prog ops Q rest (a.put o.dst (.slice ao' n' c')) w') : wpList Tryd.prog ops Q (o :: rest) a w := by
  obtain ⟨i0, hi, hz0, hz1, hz2⟩ := info_parts Tryd.infoU8
  have hle := hP.le
  have hn : n = xs.length := by have := hown.1; simpa using this.symm
  rw [List.length_append] at hle
  refine wpList_app hgd s x 47 ho W.heap.size 5 i0 (.int .u8 0) 1 1 Tryd.underlying47 hi hz0 hz1 hz2 rfl (by decide) ao n c (Bs xs) hs hown ad m cc (Bs bs) hx (by simp [hl]) hat (oneCell_bs _) (by unfold maxLen; omega) (by omega) hN.size ?_
  intro ao' c' w' h1 hk _ _
  refine h ao' (n + m) c' (xs ++ bs) w' (by simpa [OwnN] using h1) (hN.keeps hk (fun i hi ⟨y, hy, hb⟩ => ?_)) hP.step
  subst hy
  have := (World.ownsRow.lt hown y.block rfl).1
  omega

/-- The first four bytes, appended to nil. -/
theorem wpList_magic {W : World} {ops : Array Oper} {rest : List Oper} {o : Oper} {a : Act} {Q : Exit → Act → World → Prop} (hgd : o.guard = none) (s x : Operand)
    (ho : o.op = .call { callee := .builtin .append, args := #[s, x], argTypes := #[47, 9] })
    (hs : a.eval s = .slice none 0 0) (hx : a.eval x = .string ⟨#[80, 78, 76, 49]⟩)
    (h : ∀ ao' c' w', OwnN w' W.heap.size ao' 4 c' [80, 78, 76, 49] → New W w' → wpList Tryd.prog ops Q rest (a.put o.dst (.slice ao' 4 c')) w') : wpList Tryd.prog ops Q (o :: rest) a W := by
  obtain ⟨i0, hi, hz0, hz1, hz2⟩ := info_parts Tryd.infoU8
  refine Lib.wpList_append_own_string W hgd s x 47 9 ho W.heap.size 5 i0 Tryd.underlying47 Tryd.underlying9 hi hz0 hz1 hz2 (.slice none 0 0) 0 [] hs (World.ownsRow_nil _ _ _ _) ⟨#[80, 78, 76, 49]⟩ hx (by decide) (by decide) (Nat.le_refl _) ?_
  intro v' w' h1 hg _
  obtain ⟨a', c', rfl⟩ := own_slice h1
  have hl : (0 + (⟨#[80, 78, 76, 49]⟩ : ByteArray).size) = 4 := rfl
  rw [hl] at h1
  have h2 : Value.slice a' 4 c' = Value.slice a' 4 c' := rfl
  rcases h1.2 with ⟨h0, h3⟩ | ⟨g, cap, cur, h0, _⟩
  · omega
  · cases h0
    exact h _ _ _ h1 (Keeps.grown hg (fun k h => by cases h))

theorem length_flatMap_le {α : Type} (f : α → List Int) (k : Nat) : ∀ (l : List α), (∀ x ∈ l, (f x).length ≤ k) → (l.flatMap f).length ≤ l.length * k := by
  intro l
  induction l with
  | nil => intro _; simp
  | cons x r ih =>
    intro h
    rw [List.flatMap_cons, List.length_append, List.length_cons, Nat.succ_mul]
    have := h x (by simp)
    have := ih (fun y hy => h y (by simp [hy]))
    omega
theorem unsB_len (n : Nat) : (unsB n).length ≤ 10 := (unsF_len 9 n).2
theorem intsB_len (l : List Int) : (intsB l).length ≤ 10 + l.length * 10 := by
  unfold intsB
  rw [List.length_append]
  have := unsB_len l.length
  have := length_flatMap_le (fun n => unsB (zig n)) 10 l (fun x _ => unsB_len _)
  omega
theorem progB_len {p : Pg} (h : Fits p) : (progB p).length ≤ 10000000 := by
  have h1 := length_flatMap_le partB 200 p.parts (fun x hx => by
    have := (h.ps x hx).1
    have := intsB_len x.xs
    simp only [partB, List.length_cons]; omega)
  have h2 := length_flatMap_le lineB 20000 p.lines (fun x hx => by
    have := (h.ls x hx).2.2.2.2.1
    have := intsB_len x.xs
    have := unsB_len x.base.toNat
    have := unsB_len x.size.toNat
    simp only [lineB, List.length_append]; omega)
  have h3 := length_flatMap_le opB 30 p.ops (fun x hx => by
    have := unsB_len x.a.toNat
    have := unsB_len x.b.toNat
    simp only [opB, List.length_cons, List.length_append]; omega)
  have a1 := h.np
  have a2 := h.nl
  have a3 := h.no
  have b1 := unsB_len p.mem.toNat
  have b2 := unsB_len p.ctr.toNat
  have b3 := unsB_len p.ins.toNat
  have b4 := unsB_len p.outs.toNat
  have b5 := unsB_len p.parts.length
  have b6 := unsB_len p.lines.length
  have b7 := unsB_len p.ops.length
  unfold progB
  simp only [List.length_append, List.length_cons, List.length_nil]
  have c1 : p.parts.length * 200 ≤ 32 * 200 := Nat.mul_le_mul_right _ a1
  have c2 : p.lines.length * 20000 ≤ 96 * 20000 := Nat.mul_le_mul_right _ a2
  have c3 : p.ops.length * 30 ≤ 131072 * 30 := Nat.mul_le_mul_right _ a3
  omega

theorem run_string {w : World} {B : Nat} {ao : Option Addr} {n c : Nat} {xs : List Int} (h : OwnN w B ao n c xs) : (convert 47 9 (.slice ao n c)).run Tryd.prog w = .ok (.string (strOfNums xs)) w := by
  have hn : xs.length = n := by have := h.1; simpa using this
  rcases h.2 with ⟨h0, h1⟩ | ⟨g, cap, cur, h0, hb, hg, hnc, hcm, hcs, htake⟩
  · cases h0
    obtain rfl : xs = [] := List.eq_nil_of_length_eq_zero (by omega)
    rw [run_convert_bytes_nil w _ _ Tryd.underlying47 Tryd.underlying5 _ _ _ Tryd.underlying9]
    rfl
  · cases h0
    refine run_convert_bytes_arg w _ _ Tryd.underlying47 Tryd.underlying5 g 0 n c xs hn (fun i hi => ?_) _ Tryd.underlying9
    rw [Nat.zero_add, h.cellAt i (by omega)]
    simp [List.getD, show i < xs.length by omega]
theorem ints_drop {l : List Int} {j : Nat} (hj : j < l.length) (tl : List Int) : (l.drop j).flatMap (fun n => unsB (zig n)) ++ tl = unsB (zig l[j]) ++ ((l.drop (j + 1)).flatMap (fun n => unsB (zig n)) ++ tl) := by
  rw [List.drop_eq_getElem_cons hj, List.flatMap_cons, List.append_assoc]
theorem part_drop {l : List PartD} {k : Nat} (hk : k < l.length) (tl : List Int) : (l.drop k).flatMap partB ++ tl = [l[k].tag] ++ (unsB l[k].xs.length ++ ((l[k].xs.drop 0).flatMap (fun n => unsB (zig n)) ++ ((l.drop (k + 1)).flatMap partB ++ tl))) := by
  rw [List.drop_eq_getElem_cons hk, List.flatMap_cons]
  simp only [partB, intsB, List.append_assoc, List.cons_append, List.nil_append, List.drop_zero]
theorem line_drop {l : List LineD} {k : Nat} (hk : k < l.length) (tl : List Int) : (l.drop k).flatMap lineB ++ tl = unsB l[k].base.toNat ++ (unsB l[k].size.toNat ++ (unsB l[k].xs.length ++ ((l[k].xs.drop 0).flatMap (fun n => unsB (zig n)) ++ ((l.drop (k + 1)).flatMap lineB ++ tl)))) := by
  rw [List.drop_eq_getElem_cons hk, List.flatMap_cons]
  simp only [lineB, intsB, List.append_assoc, List.cons_append, List.nil_append, List.drop_zero]
theorem op_drop {l : List OpD} {k : Nat} (hk : k < l.length) (tl : List Int) : (l.drop k).flatMap opB ++ tl = [l[k].kind] ++ (unsB l[k].a.toNat ++ (unsB l[k].b.toNat ++ ((l.drop (k + 1)).flatMap opB ++ tl))) := by
  rw [List.drop_eq_getElem_cons hk, List.flatMap_cons]
  simp only [opB, List.append_assoc, List.cons_append, List.nil_append]

end Go.Proofs.YtfmpjbiaamkobaaDoor
