/-
  A list of tokens that came in.
-/
import Derived.Test.YtmmoocbnmjmfeaaDoorRead
import Derived.Test.YtmmoocbnmjmfeaaDoorMem3
import Derived.Test.YtmmoocbnmjmfeaaDoorLexA
namespace Go.Proofs.YtmmoocbnmjmfeaaDoor
open Go Go.RowKit Go.ChangeShapes Go.WideShapes Go.ChangeAt Go.Deep Go.Joins
set_option linter.all false

/-- A token that came in: its place may be any number. -/
structure ATok where
  sort : Int
  text : ByteArray
  num : Int
  at_ : Int
def atokCells (t : ATok) : List Value := [.int .u8 t.sort, .string t.text, I t.num, I t.at_]
theorem bytesTok : Tryd.prog.bytesOf 33 = 40 := by kernel_rfl
theorem read_toks {H : Type} {enc : TypeId × Value → H} {W : World} {fuel : Nat} {v : Value} {y : DataW H × List MemPlace}
    (h : DataW.trod enc Tryd.prog W 0 (fun _ => true) true fuel 22 [v] = some y) :
    ∃ (ao : Option Addr) (c : Nat) (l : List ATok), v = .slice ao l.length c ∧ SlAt W ao (l.flatMap atokCells) ∧ (∀ x ∈ l, x.text.size ≤ maxLen ∧ -9223372036854775808 ≤ x.num ∧ x.num ≤ 9223372036854775807) ∧ l.length ≤ maxLen ∧
      ∀ B, (∀ m ∈ y.1.weights Tryd.prog 22, m ≤ B) → l.length * 40 ≤ B := by
  rcases open_slice_fields Tryd.underlying22 Tryd.underlying33 (by kernel_rfl) (by kernel_rfl) h with ⟨hcs, hx⟩ | ⟨a, len, cap, m, D, Pl, hcs, _, hl, hm, hmm, hx, hi⟩
  · simp only [List.cons.injEq, and_true] at hcs
    subst hcs
    exact ⟨none, 0, [], rfl, SlAt.nil _ _, by simp, by simp, by simp⟩
  · simp only [List.cons.injEq, and_true] at hcs
    simp only [if_true] at hmm
    subst hcs; subst hmm
    have hone : ∀ i, i < len → ∃ x : ATok, (∀ j, j < 4 → W.cell? (a.add (i * 4 + j)) = (atokCells x)[j]?) ∧ (x.text.size ≤ maxLen ∧ -9223372036854775808 ≤ x.num ∧ x.num ≤ 9223372036854775807) := by
      intro i hil
      obtain ⟨ys, n, hD, _, hyl, hf⟩ := hi i (by omega)
      obtain ⟨v0, y0, c0, g0, t0⟩ := hf 0 _ rfl
      obtain ⟨v1, y1, c1, g1, t1⟩ := hf 1 _ rfl
      obtain ⟨v2, y2, c2, g2, t2⟩ := hf 2 _ rfl
      obtain ⟨v3, y3, c3, g3, t3⟩ := hf 3 _ rfl
      obtain ⟨n0, e0, -, r0⟩ := DataW.trod_int Tryd.underlying31 t0
      simp only [List.cons.injEq, and_true] at e0
      subst e0
      replace r0 := wf_u8 r0
      obtain ⟨n1, e1, -, r1⟩ := DataW.trod_string Tryd.underlying9 t1
      simp only [List.cons.injEq, and_true] at e1
      subst e1
      obtain ⟨n2, e2, -, r2⟩ := DataW.trod_int Tryd.underlying3 t2
      simp only [List.cons.injEq, and_true] at e2
      subst e2
      replace r2 := wf_i64 r2
      obtain ⟨n3, e3, -, r3⟩ := DataW.trod_int Tryd.underlying3 t3
      simp only [List.cons.injEq, and_true] at e3
      subst e3
      replace r3 := wf_i64 r3
      refine ⟨⟨n0, n1, n2, n3⟩, fun j hj => ?_, r1, r2.1, r2.2⟩
      match j, hj with
      | 0, _ => exact c0
      | 1, _ => exact c1
      | 2, _ => exact c2
      | 3, _ => exact c3
    obtain ⟨l, hlen, hat⟩ := choose_list len hone
    subst hlen
    refine ⟨some a, _, l, rfl, sl_rows atokCells 4 (fun _ => rfl) l (fun i hi j hj => (hat i hi).1 j hj), fun x hx => ?_, by omega, fun B hB => ?_⟩
    · obtain ⟨i, hi, rfl⟩ := List.getElem_of_mem hx
      exact (hat i hi).2
    · rw [hx] at hB
      simp only [DataW.weights, Tryd.underlying22, bytesTok, List.mem_cons, List.mem_append] at hB
      have := hB _ (.inl rfl)
      simp only [List.length_map, List.length_range] at this
      omega
    end Go.Proofs.YtmmoocbnmjmfeaaDoor
