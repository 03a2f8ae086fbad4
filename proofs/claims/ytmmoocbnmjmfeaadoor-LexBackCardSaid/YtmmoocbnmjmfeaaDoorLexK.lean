/-
  Layer 4: a text that is put together token by token; bytes in memory.
-/
import Derived.Test.YtmmoocbnmjmfeaaDoorLexJ
import Derived.Test.YtmmoocbnmjmfeaaDoorReadTok
import Derived.Lib.AppendStr
namespace Go.Proofs.YtmmoocbnmjmfeaaDoor
open Go Go.RowKit Go.Joins
set_option linter.all false

/-- How far a text has come: these bytes are read as these tokens, whatever follows. -/
def BackSt (Bs : List UInt8) (Ws : List LTok) : Prop := ∀ rest, lexL 0 (Bs ++ rest) = (Ws ++ (lexL Bs.length rest).1, (lexL Bs.length rest).2)
theorem BackSt.nil : BackSt [] [] := fun rest => rfl
theorem BackSt.step {Bs : List UInt8} {Ws : List LTok} (h : BackSt Bs Ws) (t : LTok) (hr : t.right = true) (hn : -9223372036854775808 ≤ t.num ∧ t.num ≤ 9223372036854775807) (k : Nat) :
    BackSt (Bs ++ t.spelt ++ gapU k) (Ws ++ [{ t with at_ := Bs.length }]) := by
  intro rest
  have h1 := h (t.spelt ++ gapU k ++ rest)
  rw [lexL_back t hr hn k Bs.length rest] at h1
  rw [List.append_assoc, List.append_assoc, ← List.append_assoc t.spelt, h1]
  simp only [List.length_append, List.append_assoc, List.singleton_append, Nat.add_assoc]
theorem BackSt.done {Bs : List UInt8} {Ws : List LTok} (h : BackSt Bs Ws) (hl : Bs.length ≤ 1048576) : lexA Bs = (Ws ++ [⟨0, [], 0, Bs.length⟩], 0, 0) := by
  have h1 := h []
  rw [List.append_nil, lexL_nil, List.append_nil] at h1
  unfold lexA
  rw [if_neg (by omega), h1]
theorem right_len {t : LTok} (h : t.right = true) (hn : -9223372036854775808 ≤ t.num ∧ t.num ≤ 9223372036854775807) : t.spelt.length ≤ 21 ∧ 1 ≤ t.spelt.length := by
  obtain ⟨c, r, hs, _, _, _⟩ := tokR_back t h hn
  refine ⟨?_, by rw [hs]; simp⟩
  unfold LTok.right at h
  split at h
  · rename_i e
    unfold LTok.spelt
    rw [if_neg (by omega)]
    simp only [Bool.and_eq_true] at h
    cases hx : t.text with
    | nil => simp
    | cons c r =>
      rw [hx] at h
      simp only [nameU, Bool.and_eq_true, decide_eq_true_iff] at h
      have := h.2.2.2
      simp only [List.length_cons]; omega
  · split at h
    · rename_i e
      unfold LTok.spelt
      rw [if_pos e]
      exact Lib.itoa_length_le t.num hn.1 hn.2
    · split at h
      · rename_i e
        unfold LTok.spelt
        rw [if_neg (by omega)]
        simp only [Bool.and_eq_true] at h
        have := h.2
        unfold markU at this
        rw [decide_eq_true_iff] at this
        rcases this with e | e | e | e | e | e <;> (rw [e]; decide)
      · cases h
def bCells (l : List UInt8) : List Value := l.map fun b => Value.int .u8 (b.toNat : Int)
theorem lx_slice {w : World} {B : Nat} {e : TypeId} {size n : Nat} {v : Value} {xs : List Value} (h : w.ownsRow B e size v n xs) : ∃ a c, v = .slice a n c := by
  rcases h.2 with ⟨h0, h1⟩ | ⟨g, cap, cur, h0, _⟩
  · subst h1; exact ⟨none, 0, h0⟩
  · exact ⟨_, _, h0⟩
theorem infoByte : (Tryd.prog.info? 5).map (fun i => (i.zero, i.size, i.bytes)) = some (some (.int .u8 0), 1, 1) := by kernel_rfl
/-- A string appended to bytes of the call's own. -/
theorem wpList_appS {w : World} {ops : Array Oper} {rest : List Oper} {o : Oper} {a : Act} {Q : Exit → Act → World → Prop} (hgd : o.guard = none) (sl x : Operand)
    (ho : o.op = .call { callee := .builtin .append, args := #[sl, x], argTypes := #[34, 9] })
    (base : Nat) (ab : Option Addr) (cb : Nat) (Bs : List UInt8) (n : Nat) (hn : Bs.length = n) (hs : a.eval sl = .slice ab n cb) (hown : w.ownsRow base 5 1 (.slice ab n cb) n (bCells Bs)) (s : ByteArray) (hx : a.eval x = .string s)
    (hb : n + s.size ≤ 2000000) (hbase : base ≤ w.heap.size)
    (h : ∀ a' c' w', w'.ownsRow base 5 1 (.slice a' (n + s.size) c') (n + s.size) (bCells (Bs ++ s.data.toList)) → Keeps (blk ab) w w' → wpList Tryd.prog ops Q rest (a.put o.dst (.slice a' (n + s.size) c')) w') : wpList Tryd.prog ops Q (o :: rest) a w := by
  obtain ⟨i0, hi, hz0, hz1, hz2⟩ := info_parts infoByte
  refine Lib.wpList_append_own_string w hgd sl x 34 9 ho base 5 i0 Tryd.underlying34 Tryd.underlying9 hi hz0 hz1 hz2 (.slice ab n cb) n (bCells Bs) hs hown s hx (by unfold maxLen; omega) (by omega) hbase ?_
  intro v' w' h1 hg _
  obtain ⟨a', c', rfl⟩ := lx_slice h1
  refine h a' c' w' ?_ (Keeps.grown hg (fun k h => blk_of_own h.symm))
  unfold bCells
  rw [List.map_append]
  exact h1
theorem conv_bytes (w : World) (base : Nat) (ab : Option Addr) (cb : Nat) (Bs : List UInt8) (n : Nat) (hn : Bs.length = n) (hown : w.ownsRow base 5 1 (.slice ab n cb) n (bCells Bs)) (X : ByteArray) (hX : X.data.toList = Bs) :
    (convert 34 9 (.slice ab n cb)).run Tryd.prog w = .ok (.string X) w := by
  have hsl := SlAt.of_owns hown
  have hXe : strOfNums (Bs.map fun b => (b.toNat : Int)) = X := by
    apply ByteArray.ext
    apply Array.toList_inj.1
    rw [hX]
    show (Bs.map fun b => (b.toNat : Int)).map (fun n => UInt8.ofNat n.toNat) = Bs
    rw [List.map_map]
    conv => rhs; rw [← List.map_id Bs]
    apply List.map_congr_left
    intro b _
    simp
  cases ab with
  | none =>
    have hz : Bs = [] := by
      cases Bs with
      | nil => rfl
      | cons b r =>
        obtain ⟨x, y, e, _⟩ := hsl.at (i := 0) (by simp [bCells])
        cases e
    subst hz
    have : X = ByteArray.empty := by
      apply ByteArray.ext
      apply Array.toList_inj.1
      rw [hX]; rfl
    rw [this]
    exact run_convert_bytes_nil w 34 5 Tryd.underlying34 Tryd.underlying5 n cb 9 Tryd.underlying9
  | some ad =>
    rcases hown.2 with ⟨h0, _⟩ | ⟨g, cap, cur, h0, _⟩
    · cases h0
    · cases h0
      rw [← hXe]
      refine run_convert_bytes_arg w 34 5 Tryd.underlying34 Tryd.underlying5 g 0 n cb (Bs.map fun b => (b.toNat : Int)) (by rw [List.length_map]; exact hn) (fun i hi => ?_) 9 Tryd.underlying9
      obtain ⟨b, off, e, hc⟩ := hsl.at (i := i) (by unfold bCells; rw [List.length_map]; omega)
      cases e
      rw [hc]
      unfold bCells
      rw [List.getElem_map, List.getD_eq_getElem?_getD, List.getElem?_map, List.getElem?_eq_getElem (by omega)]
      rfl
theorem atoks_at {w : World} {ao : Option Addr} {l : List ATok} (h : SlAt w ao (l.flatMap atokCells)) {i : Nat} (hi : i < l.length) :
    ∃ b off, ao = some ⟨b, off, none⟩ ∧ w.cell? ⟨b, off + i * 4, none⟩ = some (.int .u8 l[i].sort) ∧ w.cell? ⟨b, off + i * 4 + 1, none⟩ = some (.string l[i].text) ∧
      w.cell? ⟨b, off + i * 4 + 2, none⟩ = some (I l[i].num) ∧ w.cell? ⟨b, off + i * 4 + 3, none⟩ = some (I l[i].at_) := by
  have hl := flat_len atokCells 4 (fun _ => rfl) l
  obtain ⟨b, off, e, _⟩ := h.at (i := i * 4) (by omega)
  have key : ∀ j, j < 4 → w.cell? ⟨b, off + i * 4 + j, none⟩ = (atokCells l[i])[j]? := fun j hj => by
    obtain ⟨b2, off2, e2, hc⟩ := h.at (i := i * 4 + j) (by omega)
    rw [e] at e2
    cases e2
    rw [Nat.add_assoc, hc]
    have := flat_at atokCells 4 (fun _ => rfl) l i j hi hj
    rw [← this, List.getElem?_eq_getElem (by omega)]
  exact ⟨b, off, e, key 0 (by omega), key 1 (by omega), key 2 (by omega), key 3 (by omega)⟩
end Go.Proofs.YtmmoocbnmjmfeaaDoor
