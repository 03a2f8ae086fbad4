/-
  Layer 4: the document's Same; the law's moved.
-/
import Derived.Test.YtmmoocbnmjmfeaaDoorLexF
namespace Go.Proofs.YtmmoocbnmjmfeaaDoor
open Go Go.RowKit Go.Joins
set_option linter.all false

theorem toks_at {w : World} {ao : Option Addr} {l : List LTok} (h : SlAt w ao (l.flatMap tokCells)) {i : Nat} (hi : i < l.length) :
    ∃ b off, ao = some ⟨b, off, none⟩ ∧ w.cell? ⟨b, off + i * 4, none⟩ = some (.int .u8 l[i].sort) ∧ w.cell? ⟨b, off + i * 4 + 1, none⟩ = some (.string ⟨l[i].text.toArray⟩) ∧
      w.cell? ⟨b, off + i * 4 + 2, none⟩ = some (I l[i].num) ∧ w.cell? ⟨b, off + i * 4 + 3, none⟩ = some (I l[i].at_) := by
  obtain ⟨b, off, e, hc⟩ := lx_row h (by intro e; rw [e] at hi; simp at hi)
  exact ⟨b, off, e, hc i hi 0 (by omega), hc i hi 1 (by omega), hc i hi 2 (by omega), hc i hi 3 (by omega)⟩
set_option maxRecDepth 100000 in
set_option maxHeartbeats 4000000 in
theorem same_yes (w : World) (a b : Option Addr) (c d : Nat) (l : List LTok) (ha : SlAt w a (l.flatMap tokCells)) (hb : SlAt w b (l.flatMap tokCells)) (n : Nat) (hn : l.length = n) (hl : n ≤ 9223372036854775807) :
    Calls Tryd.prog 13 #[.slice a n c, .slice b n d] w fun e w' => e = .returned (.bool true) ∧ New w w' := by
  subst hn
  have HA := Lib.hid ha
  have HB := Lib.hid hb
  clear ha hb
  go_enter Tryd.func13, Tryd.ntmps13
  go_wp2_with fail
  go_loopw [5] (fun i wr => ∃ k : Nat, k ≤ l.length ∧ i = .int .i64 k ∧ New w wr) (fun i _ => l.length - (intOf i).toNat)
  case atStart => exact ⟨0, by omega, rfl, New.refl _⟩
  case round =>
    obtain ⟨k, hk, rfl, hN⟩ := hrel
    by_cases hk1 : k < l.length
    · obtain ⟨b1, o1, e1, q0, q1, q2, q3⟩ := toks_at (HA.out.new hN) hk1
      obtain ⟨b2, o2, e2, p0, p1, p2, p3⟩ := toks_at (HB.out.new hN) hk1
      subst e1 e2
      have hb1 : b1 < wr.heap.size := World.block_lt_of_cell? wr _ q0
      have hb2 : b2 < wr.heap.size := World.block_lt_of_cell? wr _ p0
      have hk0 : (k : Int) < (l.length : Int) := by omega
      have hkd : decide (k < l.length) = true := decide_eq_true hk1
      generalize l[k] = x at q0 q1 q2 q3 p0 p1 p2 p3
      obtain ⟨T, hT⟩ : ∃ T : ByteArray, (⟨x.text.toArray⟩ : ByteArray) = T := ⟨_, rfl⟩
      rw [hT] at q1 p1
      have hs := lx_yes T
      clear hT
      go_wp2_with fail
      go_quiet (fail)
      go_wp2_with fail
      go_roundw
      case rel => exact ⟨k + 1, by omega, by go_num, by first | exact hN | exact hN.drewN _ | (repeat (first | exact hN | refine New.alloc ?_ _ | refine New.drew ?_))⟩
      case measure => simp [intOf]; omega
    · have hkd : decide (k < l.length) = false := decide_eq_false hk1
      go_wp2_with fail
      go_ret
      exact ⟨rfl, hN⟩
/-- Tokens further on in a text. -/
def movedL (l : List LTok) (d : Nat) : List LTok := l.map fun t => { t with at_ := t.at_ + d }
theorem movedL_take (l : List LTok) (d k : Nat) : (movedL l d).take k = movedL (l.take k) d := by unfold movedL; rw [List.map_take]
set_option maxRecDepth 100000 in
set_option maxHeartbeats 4000000 in
theorem moved_any (w : World) (a : Option Addr) (c : Nat) (l : List LTok) (ha : SlAt w a (l.flatMap tokCells)) (n : Nat) (hn : l.length = n) (hl : n ≤ 2000000) (d : Nat) (hd : d ≤ 2000000) (hat : ∀ t ∈ l, t.at_ ≤ 2000000) :
    Calls Tryd.prog 21 #[.slice a n c, I d] w fun e w' => ∃ a' c', e = .returned (.slice a' n c') ∧ New w w' ∧ SlAt w' a' ((movedL l d).flatMap tokCells) := by
  subst hn
  obtain ⟨i0, hi, hz0, hz1, hz2⟩ := info_parts infoTok
  have HA := Lib.hid ha
  have HAT := Lib.hid hat
  have h0 : w.ownsRow w.heap.size 33 4 (.slice none 0 0) 0 [] := World.ownsRow_nil _ _ _ _
  clear ha hat
  go_enter Tryd.func21, Tryd.ntmps21
  go_wp2_with fail
  go_loopw [5, 6] (fun x i wr => ∃ (k : Nat) (a' : Option Addr) (c' : Nat), k ≤ l.length ∧ i = .int .i64 k ∧ x = .slice a' k c' ∧ New w wr ∧ Hid (wr.ownsRow w.heap.size 33 4 (.slice a' k c') k ((movedL (l.take k) d).flatMap tokCells))) (fun _ i _ => l.length - (intOf i).toNat)
  case atStart => exact ⟨0, none, 0, by omega, rfl, rfl, New.refl _, Lib.hid h0⟩
  case round =>
    clear h0
    obtain ⟨k, a', c', hk, rfl, rfl, hN, HO⟩ := hrel
    by_cases hk1 : k < l.length
    · obtain ⟨b1, o1, e1, q0, q1, q2, q3⟩ := toks_at (HA.out.new hN) hk1
      subst e1
      have hb1 : b1 < wr.heap.size := World.block_lt_of_cell? wr _ q0
      have hk0 : (k : Int) < (l.length : Int) := by omega
      have hkd : decide (k < l.length) = true := decide_eq_true hk1
      have hxt := HAT.out l[k] (List.getElem_mem hk1)
      have htk : (movedL (l.take (k + 1)) d).flatMap tokCells = (movedL (l.take k) d).flatMap tokCells ++ [.int .u8 l[k].sort, .string ⟨l[k].text.toArray⟩, I l[k].num, I ((l[k].at_ + d : Nat) : Int)] := by
        rw [List.take_succ, List.getElem?_eq_getElem hk1]
        unfold movedL
        rw [List.map_append, List.flatMap_append]
        rfl
      have HTK := Lib.hid htk
      generalize l[k] = x at q0 q1 q2 q3 hxt HTK
      obtain ⟨so, tx, nu, at_⟩ := x
      simp only at q0 q1 q2 q3 hxt HTK
      obtain ⟨T, hT⟩ : ∃ T : ByteArray, (⟨tx.toArray⟩ : ByteArray) = T := ⟨_, rfl⟩
      rw [hT] at q1 HTK
      clear htk hT
      have hsz := hN.size
      have hw : IntKind.i64.wrap ((at_ : Int) + (d : Int)) = ((at_ + d : Nat) : Int) := by rw [IntWalk.i64_in _ (by omega)]; omega
      have ka : New wr ((wr.alloc (.cells #[.int .u8 so, .string T, I nu, I ((at_ + d : Nat) : Int)] 33)).alloc (.cells #[.int .u8 so, .string T, I nu, I ((at_ + d : Nat) : Int)] 33)) := ((New.refl wr).alloc _).alloc _
      obtain ⟨m, hm⟩ : ∃ m : Nat, at_ + d = m := ⟨_, rfl⟩
      rw [hm] at hw ka HTK
      clear hm
      go_wp2_with (at_builtin; refine wpList_app rfl _ _ 22 rfl w.heap.size 33 i0 _ 4 40 Tryd.underlying22 hi hz0 hz1 hz2 rfl (by decide) a' k c' ((movedL (l.take k) d).flatMap tokCells) rfl ?own _ 1 1 [.int .u8 so, .string T, I nu, I m] rfl rfl ?lit ?one ?c1 ?c2 ?c3 ?_)
      case own => exact ka.owns HO.out
      case lit =>
        have h := SlAt.lit (wr.alloc (.cells #[.int .u8 so, .string T, I nu, I m] 33)) #[.int .u8 so, .string T, I nu, I m] 33
        have e : (wr.alloc (.cells #[.int .u8 so, .string T, I nu, I m] 33)).heap.size = wr.heap.size + 1 := by simp
        rw [e] at h
        exact h
      case one => intro u hu; simp only [List.mem_cons, List.not_mem_nil, or_false] at hu; rcases hu with rfl | rfl | rfl | rfl <;> rfl
      case c1 => unfold maxLen; omega
      case c2 => omega
      case c3 => exact Nat.le_trans hsz ka.size
      intro a2 c2 w2 hown hkp hmv _
      have hown2 : Hid (w2.ownsRow w.heap.size 33 4 (.slice a2 (k + 1) c2) (k + 1) ((movedL (l.take (k + 1)) d).flatMap tokCells)) := Lib.hid (by rw [HTK.out]; exact hown)
      have hN2 := Lib.hid (New.keeps (hN.trans ka) hkp (fun i hi hx => by have := (own_of_blk HO.out hx).1; omega))
      clear hown hkp hmv ka
      go_wp2_with fail
      go_roundw
      case rel => exact ⟨k + 1, a2, c2, by omega, by go_num, by first | rfl | (congr 1; omega), hN2.out, hown2⟩
      case measure => simp [intOf]; omega
    · have hkd : decide (k < l.length) = false := decide_eq_false hk1
      have hkl : k = l.length := by omega
      have HF : Hid (SlAt wr a' ((movedL l d).flatMap tokCells)) := Lib.hid (by
        have := SlAt.of_owns HO.out
        rwa [List.take_of_length_le (by omega)] at this)
      go_wp2_with fail
      go_ret
      exact ⟨a', c', by rw [hkl]; rfl, hN, HF.out⟩
end Go.Proofs.YtmmoocbnmjmfeaaDoor
