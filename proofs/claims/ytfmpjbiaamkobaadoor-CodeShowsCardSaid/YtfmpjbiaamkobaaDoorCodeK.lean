/-
  Layer 20, plain: reading a program's bytes; there and back.
-/
import Derived.Test.YtfmpjbiaamkobaaDoorCodeJ
namespace Go.Proofs.YtfmpjbiaamkobaaDoor
open Go Go.RowKit
set_option linter.all false

/-- What was read and what is left; or what is wrong, and how many bytes are left where it is. -/
inductive Rd (α : Type) where
  | bad (c : Int) (k : Nat)
  | ok (x : α) (r : List Int)

def Rd.bind {α β : Type} (m : Rd α) (f : α → List Int → Rd β) : Rd β := match m with
  | .bad c k => .bad c k
  | .ok x r => f x r
@[simp] theorem Rd.bind_bad {α β : Type} (c : Int) (k : Nat) (f : α → List Int → Rd β) : (Rd.bad c k : Rd α).bind f = .bad c k := rfl
@[simp] theorem Rd.bind_ok {α β : Type} (x : α) (r : List Int) (f : α → List Int → Rd β) : (Rd.ok x r).bind f = f x r := rfl
theorem Rd.bind_assoc {α β γ : Type} (m : Rd α) (f : α → List Int → Rd β) (g : β → List Int → Rd γ) : (m.bind f).bind g = m.bind (fun x r => (f x r).bind g) := by
  cases m <;> rfl

def nextR : List Int → Rd Int
  | [] => .bad 203 0
  | b :: r => .ok b r
/-- k bytes may come yet; the next is the i-th; n has been read so far. -/
def wholeG (last : Int) (frm : Nat) : Nat → Nat → Nat → List Int → Rd Nat
  | 0, _, _, _ => .bad 41 frm
  | k + 1, i, n, r => (nextR r).bind fun b r' =>
    if 128 ≤ b then wholeG last frm k (i + 1) (n + (b.toNat % 128) * 128 ^ i) r'
    else if (b = 0 ∧ 0 < i) ∨ (k = 0 ∧ last < b) then .bad 41 frm
    else .ok (n + b.toNat * 128 ^ i) r'
theorem wholeG_cons (last : Int) (frm k i n : Nat) (b : Int) (r : List Int) : wholeG last frm (k + 1) i n (b :: r) = if 128 ≤ b then wholeG last frm k (i + 1) (n + (b.toNat % 128) * 128 ^ i) r
    else if (b = 0 ∧ 0 < i) ∨ (k = 0 ∧ last < b) then .bad 41 frm else .ok (n + b.toNat * 128 ^ i) r := rfl
def wholeR (bytes : Nat) (last : Int) (r : List Int) : Rd Nat := wholeG last r.length bytes 0 0 r
def countR (r : List Int) : Rd Nat := wholeR 3 127 r
def manyR (most : Nat) (r : List Int) : Rd Nat := (countR r).bind fun n r' => if most < n then .bad 81 r.length else .ok n r'
def unzig (n : Nat) : Int := if n % 2 = 0 then ((n / 2 : Nat) : Int) else -((n / 2 : Nat) : Int) - 1
def sintR (r : List Int) : Rd Int := (wholeR 10 1 r).bind fun n r' => .ok (unzig n) r'
def timesR {α : Type} (f : List Int → Rd α) : Nat → List Int → Rd (List α)
  | 0, r => .ok [] r
  | n + 1, r => (f r).bind fun x r' => (timesR f n r').bind fun l r'' => .ok (x :: l) r''
def listR {α : Type} (f : List Int → Rd α) (most : Nat) (r : List Int) : Rd (List α) := (manyR most r).bind fun n r' => timesR f n r'
def intsR (most : Nat) (r : List Int) : Rd (List Int) := listR sintR most r
def partR (r : List Int) : Rd PartD := (nextR r).bind fun t r1 => (intsR 16 r1).bind fun xs r2 => .ok ⟨t, none, 0, xs⟩ r2
def lineR (r : List Int) : Rd LineD := (countR r).bind fun b r1 => (countR r1).bind fun s r2 => (intsR 1024 r2).bind fun xs r3 => .ok ⟨b, s, none, 0, xs⟩ r3
def opR (r : List Int) : Rd OpD := (nextR r).bind fun k r1 => (countR r1).bind fun a r2 => (countR r2).bind fun b r3 => .ok ⟨k, a, b⟩ r3
def progR (r : List Int) : Rd Pg := (countR r).bind fun m r1 => (countR r1).bind fun c r2 => (countR r2).bind fun i r3 => (countR r3).bind fun o r4 =>
  (listR partR 32 r4).bind fun ps r5 => (listR lineR 96 r5).bind fun ls r6 => (listR opR 131072 r6).bind fun ops r7 =>
  .ok ⟨m, c, i, o, none, 0, ps, none, 0, ls, none, 0, ops⟩ r7

/-- The program without its places in memory. -/
def PartD.bare (x : PartD) : PartD := ⟨x.tag, none, 0, x.xs⟩
def LineD.bare (l : LineD) : LineD := ⟨l.base, l.size, none, 0, l.xs⟩
def Pg.bare (p : Pg) : Pg := ⟨p.mem, p.ctr, p.ins, p.outs, none, 0, p.parts.map PartD.bare, none, 0, p.lines.map LineD.bare, none, 0, p.ops⟩

/-- What Decode tells: the fault and its place, or the program. -/
def decodeR (L : List Int) : Except (Int × Int) Pg :=
  if L.take 4 ≠ [80, 78, 76, 49] then .error (202, 0)
  else match progR (L.drop 4) with
    | .bad c k => .error (c, (L.length : Int) - k)
    | .ok p r => if r ≠ [] then .error (204, (L.length : Int) - r.length) else if (stepsR p).2 ≠ 0 then .error ((stepsR p).2, (L.length : Int)) else .ok p

/-! What is written is read. -/
def Reads {α : Type} (f : List Int → Rd α) (bs : List Int) (x : α) : Prop := (∀ r, f (bs ++ r) = .ok x r) ∧ ∀ j, j < bs.length → f (bs.take j) = .bad 203 0

theorem Reads.bind {α β : Type} {f : List Int → Rd α} {g : α → List Int → Rd β} {bs cs : List Int} {x : α} {y : β} (h : Reads f bs x) (k : Reads (g x) cs y) : Reads (fun r => (f r).bind g) (bs ++ cs) y := by
  refine ⟨fun r => ?_, fun j hj => ?_⟩
  · simp only [List.append_assoc, h.1, Rd.bind_ok, k.1]
  · by_cases hjb : j < bs.length
    · rw [List.take_append_of_le_length (by omega)]
      simp only [h.2 j hjb, Rd.bind_bad]
    · have e : (bs ++ cs).take j = bs ++ cs.take (j - bs.length) := by
        rw [List.take_append]
        rw [List.take_of_length_le (by omega)]
      simp only [e, h.1, Rd.bind_ok]
      exact k.2 _ (by simp at hj; omega)
theorem Reads.pure {α : Type} (x : α) : Reads (fun r => Rd.ok x r) [] x := ⟨fun _ => rfl, fun j hj => by simp at hj⟩
theorem Reads.map {α β : Type} {f : List Int → Rd α} {bs : List Int} {x : α} (g : α → β) (h : Reads f bs x) : Reads (fun r => (f r).bind fun x r' => .ok (g x) r') bs (g x) := by
  have := h.bind (Reads.pure (g x)) (g := fun x r' => .ok (g x) r')
  simpa using this
theorem reads_next (b : Int) : Reads nextR [b] b := ⟨fun r => rfl, fun j hj => by
  obtain rfl : j = 0 := by simpa using hj
  rfl⟩

theorem pow_split (k : Nat) (c : Nat) : 128 ^ (k + 1) * c = 128 * (128 ^ k * c) := by rw [Nat.pow_succ]; simp only [Nat.mul_comm, Nat.mul_left_comm]

theorem read_uns (last : Int) (frm : Nat) (hl : 0 ≤ last ∧ last ≤ 127) : ∀ (f n k i m : Nat), 0 < k → n < 128 ^ (k - 1) * (last.toNat + 1) → n < 128 ^ (f + 1) → (i = 0 ∨ 0 < n) →
    (∀ r, wholeG last frm k i m (unsF f n ++ r) = .ok (m + n * 128 ^ i) r) ∧ ∀ j, j < (unsF f n).length → wholeG last frm k i m ((unsF f n).take j) = .bad 203 0 := by
  intro f
  have small : ∀ (f n k i m : Nat), 0 < k → n < 128 ^ (k - 1) * (last.toNat + 1) → n < 128 → (i = 0 ∨ 0 < n) → 
      (∀ r, wholeG last frm k i m (unsF f n ++ r) = .ok (m + n * 128 ^ i) r) ∧ ∀ j, j < (unsF f n).length → wholeG last frm k i m ((unsF f n).take j) = .bad 203 0 := by
    intro f n k i m hk hn hs hi
    obtain ⟨k, rfl⟩ : ∃ q, k = q + 1 := ⟨k - 1, by omega⟩
    rw [unsF_small hs]
    refine ⟨fun r => ?_, fun j hj => ?_⟩
    · show (if 128 ≤ (n : Int) then _ else if ((n : Int) = 0 ∧ 0 < i) ∨ (k = 0 ∧ last < (n : Int)) then _ else _) = _
      have h2 : ¬ (((n : Int) = 0 ∧ 0 < i) ∨ (k = 0 ∧ last < (n : Int))) := by
        rintro (⟨h1, h2⟩ | ⟨rfl, h2⟩)
        · omega
        · simp at hn; omega
      rw [if_neg (by omega), if_neg h2]
      rfl
    · obtain rfl : j = 0 := by simpa using hj
      rfl
  induction f with
  | zero => intro n k i m hk hn hs hi; exact small 0 n k i m hk hn (by simpa using hs) hi
  | succ f ih =>
    intro n k i m hk hn hs hi
    by_cases h : n < 128
    · exact small _ n k i m hk hn h hi
    · obtain ⟨k, rfl⟩ : ∃ q, k = q + 1 := ⟨k - 1, by omega⟩
      have hk0 : 0 < k := by
        rcases Nat.eq_zero_or_pos k with rfl | h0
        · simp at hn; omega
        · exact h0
      obtain ⟨q, rfl⟩ : ∃ q, k = q + 1 := ⟨k - 1, by omega⟩
      have hn2 : n / 128 < 128 ^ (q + 1 - 1) * (last.toNat + 1) := by
        simp only [Nat.add_sub_cancel] at hn ⊢
        rw [pow_split] at hn
        exact Nat.div_lt_of_lt_mul hn
      have hs2 : n / 128 < 128 ^ (f + 1) := by
        rw [Nat.pow_succ] at hs
        exact Nat.div_lt_of_lt_mul (by rw [Nat.mul_comm]; exact hs)
      obtain ⟨a, b⟩ := ih (n / 128) (q + 1) (i + 1) (m + (n % 128) * 128 ^ i) (by omega) hn2 hs2 (.inr (by omega))
      rw [unsF_big h]
      have hb : ((n % 128 + 128 : Nat) : Int).toNat % 128 = n % 128 := by rw [Int.toNat_natCast]; omega
      have hval : m + n % 128 * 128 ^ i + n / 128 * 128 ^ (i + 1) = m + n * 128 ^ i := by
        have e : n * 128 ^ i = (n % 128 + 128 * (n / 128)) * 128 ^ i := by rw [Nat.mod_add_div]
        rw [e, Nat.add_mul, Nat.pow_succ, Nat.add_assoc]
        congr 2
        rw [Nat.mul_comm (128 ^ i) 128, ← Nat.mul_assoc, Nat.mul_comm (n / 128) 128]
      refine ⟨fun r => ?_, fun j hj => ?_⟩
      · rw [List.cons_append, wholeG_cons, if_pos (by omega), hb, a, hval]
      · cases j with
        | zero => rfl
        | succ j =>
          rw [List.take_succ_cons, wholeG_cons, if_pos (by omega), hb]
          exact b j (by simpa using hj)

theorem reads_whole (bytes n : Nat) (last : Int) (hl : 0 ≤ last ∧ last ≤ 127) (hb : 0 < bytes) (hn : n < 128 ^ (bytes - 1) * (last.toNat + 1)) (h9 : n < 128 ^ 10) : Reads (wholeR bytes last) (unsB n) n := by
  refine ⟨fun r => ?_, fun j hj => ?_⟩
  · have := (read_uns last (unsB n ++ r).length hl 9 n bytes 0 0 hb hn h9 (.inl rfl)).1 r
    unfold wholeR unsB at *
    rw [this]; simp
  · have := (read_uns last ((unsB n).take j).length hl 9 n bytes 0 0 hb hn h9 (.inl rfl)).2 j hj
    exact this
theorem reads_count (n : Nat) (hn : n < 2097152) : Reads countR (unsB n) n :=
  reads_whole 3 n 127 (by decide) (by decide) (by simpa using hn) (Nat.lt_trans hn (by decide))
theorem reads_many (most n : Nat) (hn : n < 2097152) (hm : n ≤ most) : Reads (manyR most) (unsB n) n := by
  obtain ⟨a, b⟩ := reads_count n hn
  refine ⟨fun r => ?_, fun j hj => ?_⟩
  · unfold manyR; rw [a, Rd.bind_ok, if_neg (by omega)]
  · unfold manyR; rw [b j hj]; rfl
theorem unzig_zig (x : Int) : unzig (zig x) = x := by
  unfold unzig zig
  by_cases h : 0 ≤ x
  · rw [if_pos h, if_pos (by omega)]; omega
  · rw [if_neg h, if_neg (by omega)]; omega
theorem zig_unzig (n : Nat) : zig (unzig n) = n := by
  unfold unzig zig
  by_cases h : n % 2 = 0
  · rw [if_pos h, if_pos (by omega)]; omega
  · rw [if_neg h, if_neg (by omega)]; omega
/-- An int's range. -/
def i64B (x : Int) : Prop := -9223372036854775808 ≤ x ∧ x ≤ 9223372036854775807
theorem reads_sint (x : Int) (hx : i64B x) : Reads sintR (unsB (zig x)) x := by
  have hz : zig x < 18446744073709551616 := by
    obtain ⟨a, b⟩ := hx
    unfold zig; split <;> omega
  have := (reads_whole 10 (zig x) 1 (by decide) (by decide) (by simpa using hz) (Nat.lt_trans hz (by decide))).map unzig
  rw [unzig_zig] at this
  exact this
theorem reads_times {α : Type} {f : List Int → Rd α} {enc : α → List Int} : ∀ (l l' : List α) (hl : l.length = l'.length), (∀ i (hi : i < l.length), Reads f (enc l[i]) (l'[i]'(by omega))) → Reads (timesR f l.length) (l.flatMap enc) l'
  | [], [], _, _ => Reads.pure []
  | x :: l, y :: l', hl, h => by
    have h0 := h 0 (by simp)
    have h1 := reads_times l l' (by simpa using hl) (fun i hi => by have := h (i + 1) (by simp; omega); simpa using this)
    simp only [List.getElem_cons_zero] at h0
    rw [List.flatMap_cons]
    exact h0.bind (g := fun x r' => (timesR f l.length r').bind fun l r'' => .ok (x :: l) r'') (by simpa using h1.map (fun l => y :: l))
theorem reads_list {α : Type} {f : List Int → Rd α} {enc : α → List Int} (most : Nat) (l l' : List α) (hl : l.length = l'.length) (hm : l.length ≤ most) (hm2 : most < 2097152) (h : ∀ i (hi : i < l.length), Reads f (enc l[i]) (l'[i]'(by omega))) :
    Reads (listR f most) (unsB l.length ++ l.flatMap enc) l' :=
  (reads_many most l.length (by omega) hm).bind (g := fun n r' => timesR f n r') (reads_times l l' hl h)
theorem reads_ints (most : Nat) (l : List Int) (hm : l.length ≤ most) (hm2 : most < 2097152) (h : ∀ x ∈ l, i64B x) : Reads (intsR most) (intsB l) l :=
  reads_list most l l rfl hm hm2 (fun i hi => reads_sint _ (h _ (List.getElem_mem hi)))
theorem reads_part (x : PartD) (hm : x.xs.length ≤ 16) (h : ∀ y ∈ x.xs, i64B y) : Reads partR (partB x) x.bare :=
  (reads_next x.tag).bind (g := fun (t : Int) r1 => (intsR 16 r1).bind fun xs r2 => .ok (⟨t, none, 0, xs⟩ : PartD) r2) ((reads_ints 16 x.xs hm (by decide) h).map (fun xs => (⟨x.tag, none, 0, xs⟩ : PartD)))
theorem reads_line (x : LineD) (b1 : 0 ≤ x.base) (b2 : x.base < 2097152) (s1 : 0 ≤ x.size) (s2 : x.size < 2097152) (hm : x.xs.length ≤ 1024) (h : ∀ y ∈ x.xs, i64B y) : Reads lineR (lineB x) x.bare := by
  have e1 : ((x.base.toNat : Nat) : Int) = x.base := by omega
  have e2 : ((x.size.toNat : Nat) : Int) = x.size := by omega
  unfold lineB
  rw [List.append_assoc]
  refine (reads_count x.base.toNat (by omega)).bind (g := fun (b : Nat) r1 => (countR r1).bind fun s r2 => (intsR 1024 r2).bind fun xs r3 => .ok (⟨b, s, none, 0, xs⟩ : LineD) r3) ?_
  refine (reads_count x.size.toNat (by omega)).bind (g := fun (s : Nat) r2 => (intsR 1024 r2).bind fun xs r3 => .ok (⟨(x.base.toNat : Nat), s, none, 0, xs⟩ : LineD) r3) ?_
  have := (reads_ints 1024 x.xs hm (by decide) h).map (fun xs => (⟨(x.base.toNat : Nat), (x.size.toNat : Nat), none, 0, xs⟩ : LineD))
  rw [e1, e2] at this ⊢
  exact this
theorem reads_op (x : OpD) (b1 : 0 ≤ x.a) (b2 : x.a < 2097152) (s1 : 0 ≤ x.b) (s2 : x.b < 2097152) : Reads opR (opB x) x := by
  have e1 : ((x.a.toNat : Nat) : Int) = x.a := by omega
  have e2 : ((x.b.toNat : Nat) : Int) = x.b := by omega
  have h1 := (reads_count x.b.toNat (by omega)).map (fun b : Nat => (⟨x.kind, (x.a.toNat : Nat), (b : Int)⟩ : OpD))
  have h2 := (reads_count x.a.toNat (by omega)).bind (g := fun (a : Nat) r2 => (countR r2).bind fun b r3 => .ok (⟨x.kind, (a : Int), (b : Int)⟩ : OpD) r3) h1
  have h3 := (reads_next x.kind).bind (g := fun (k : Int) r1 => (countR r1).bind fun a r2 => (countR r2).bind fun b r3 => .ok (⟨k, (a : Int), (b : Int)⟩ : OpD) r3) h2
  rw [e1, e2] at h3
  exact h3

/-- Small enough to be written so that it can be read. -/
structure Fits (p : Pg) : Prop where
  m : 0 ≤ p.mem ∧ p.mem ≤ 1024
  c : 0 ≤ p.ctr ∧ p.ctr ≤ 17
  i : 0 ≤ p.ins ∧ p.ins ≤ 16
  o : 0 ≤ p.outs ∧ p.outs ≤ 16
  np : p.parts.length ≤ 32
  nl : p.lines.length ≤ 96
  no : p.ops.length ≤ 131072
  ps : ∀ x ∈ p.parts, x.xs.length ≤ 16 ∧ ∀ y ∈ x.xs, i64B y
  ls : ∀ x ∈ p.lines, 0 ≤ x.base ∧ x.base ≤ 1024 ∧ 0 ≤ x.size ∧ x.size ≤ 1024 ∧ x.xs.length ≤ 1024 ∧ ∀ y ∈ x.xs, i64B y
  os : ∀ x ∈ p.ops, 0 ≤ x.a ∧ x.a ≤ 131072 ∧ 0 ≤ x.b ∧ x.b ≤ 131072

/-- A program's bytes, behind the first four. -/
def restB (p : Pg) : List Int := unsB p.mem.toNat ++ (unsB p.ctr.toNat ++ (unsB p.ins.toNat ++ (unsB p.outs.toNat ++ ((unsB p.parts.length ++ p.parts.flatMap partB) ++ ((unsB p.lines.length ++ p.lines.flatMap lineB) ++ (unsB p.ops.length ++ p.ops.flatMap opB))))))
theorem progB_rest (p : Pg) : progB p = [80, 78, 76, 49] ++ restB p := by unfold progB restB; simp only [List.append_assoc]

theorem reads_prog (p : Pg) (h : Fits p) : Reads progR (restB p) p.bare := by
  obtain ⟨hm, hc, hi, ho, np, nl, no, hps, hls, hos⟩ := h
  have e1 : ((p.mem.toNat : Nat) : Int) = p.mem := by omega
  have e2 : ((p.ctr.toNat : Nat) : Int) = p.ctr := by omega
  have e3 : ((p.ins.toNat : Nat) : Int) = p.ins := by omega
  have e4 : ((p.outs.toNat : Nat) : Int) = p.outs := by omega
  have ko : Reads (listR opR 131072) (unsB p.ops.length ++ p.ops.flatMap opB) p.ops := reads_list 131072 p.ops p.ops rfl no (by decide) (fun i hi => by have := hos _ (List.getElem_mem hi); exact reads_op _ (by omega) (by omega) (by omega) (by omega))
  have kl : Reads (listR lineR 96) (unsB p.lines.length ++ p.lines.flatMap lineB) (p.lines.map LineD.bare) := reads_list 96 p.lines _ (by simp) nl (by decide) (fun i hi => by
    have := hls _ (List.getElem_mem hi)
    rw [List.getElem_map]
    exact reads_line _ (by omega) (by omega) (by omega) (by omega) this.2.2.2.2.1 this.2.2.2.2.2)
  have kp : Reads (listR partR 32) (unsB p.parts.length ++ p.parts.flatMap partB) (p.parts.map PartD.bare) := reads_list 32 p.parts _ (by simp) np (by decide) (fun i hi => by
    have := hps _ (List.getElem_mem hi)
    rw [List.getElem_map]
    exact reads_part _ this.1 this.2)
  have k7 := ko.map (fun ops => (⟨(p.mem.toNat : Nat), (p.ctr.toNat : Nat), (p.ins.toNat : Nat), (p.outs.toNat : Nat), none, 0, p.parts.map PartD.bare, none, 0, p.lines.map LineD.bare, none, 0, ops⟩ : Pg))
  have k6 := kl.bind (g := fun (ls : List LineD) r6 => (listR opR 131072 r6).bind fun ops r7 => .ok (⟨(p.mem.toNat : Nat), (p.ctr.toNat : Nat), (p.ins.toNat : Nat), (p.outs.toNat : Nat), none, 0, p.parts.map PartD.bare, none, 0, ls, none, 0, ops⟩ : Pg) r7) k7
  have k5 := kp.bind (g := fun (ps : List PartD) r5 => (listR lineR 96 r5).bind fun ls r6 => (listR opR 131072 r6).bind fun ops r7 => .ok (⟨(p.mem.toNat : Nat), (p.ctr.toNat : Nat), (p.ins.toNat : Nat), (p.outs.toNat : Nat), none, 0, ps, none, 0, ls, none, 0, ops⟩ : Pg) r7) k6
  have k4 := (reads_count p.outs.toNat (by omega)).bind (g := fun (o : Nat) r4 => (listR partR 32 r4).bind fun ps r5 => (listR lineR 96 r5).bind fun ls r6 => (listR opR 131072 r6).bind fun ops r7 => .ok (⟨(p.mem.toNat : Nat), (p.ctr.toNat : Nat), (p.ins.toNat : Nat), o, none, 0, ps, none, 0, ls, none, 0, ops⟩ : Pg) r7) k5
  have k3 := (reads_count p.ins.toNat (by omega)).bind (g := fun (i : Nat) r3 => (countR r3).bind fun o r4 => (listR partR 32 r4).bind fun ps r5 => (listR lineR 96 r5).bind fun ls r6 => (listR opR 131072 r6).bind fun ops r7 => .ok (⟨(p.mem.toNat : Nat), (p.ctr.toNat : Nat), i, o, none, 0, ps, none, 0, ls, none, 0, ops⟩ : Pg) r7) k4
  have k2 := (reads_count p.ctr.toNat (by omega)).bind (g := fun (c : Nat) r2 => (countR r2).bind fun i r3 => (countR r3).bind fun o r4 => (listR partR 32 r4).bind fun ps r5 => (listR lineR 96 r5).bind fun ls r6 => (listR opR 131072 r6).bind fun ops r7 => .ok (⟨(p.mem.toNat : Nat), c, i, o, none, 0, ps, none, 0, ls, none, 0, ops⟩ : Pg) r7) k3
  have k1 := (reads_count p.mem.toNat (by omega)).bind (g := fun (m : Nat) r1 => (countR r1).bind fun c r2 => (countR r2).bind fun i r3 => (countR r3).bind fun o r4 => (listR partR 32 r4).bind fun ps r5 => (listR lineR 96 r5).bind fun ls r6 => (listR opR 131072 r6).bind fun ops r7 => .ok (⟨m, c, i, o, none, 0, ps, none, 0, ls, none, 0, ops⟩ : Pg) r7) k2
  rw [e1, e2, e3, e4] at k1
  exact k1

/-! What is read is what would be written. -/
def Back {α : Type} (f : List Int → Rd α) (enc : α → List Int) : Prop := ∀ L x r, (∀ b ∈ L, 0 ≤ b ∧ b ≤ 255) → f L = .ok x r → L = enc x ++ r
theorem rd_bind_ok {α β : Type} {m : Rd α} {f : α → List Int → Rd β} {y : β} {r : List Int} (h : m.bind f = .ok y r) : ∃ x r', m = .ok x r' ∧ f x r' = .ok y r := by
  cases m with
  | bad c k => cases h
  | ok x r' => exact ⟨x, r', rfl, h⟩

theorem back_whole (last : Int) (frm : Nat) : ∀ (k i m : Nat) (L : List Int) (v : Nat) (r : List Int), (∀ b ∈ L, 0 ≤ b ∧ b ≤ 255) → wholeG last frm k i m L = .ok v r →
    ∃ n, v = m + n * 128 ^ i ∧ n < 128 ^ k ∧ (i = 0 ∨ 0 < n) ∧ ∀ f, k ≤ f + 1 → L = unsF f n ++ r := by
  intro k
  induction k with
  | zero => intro i m L v r _ h; cases h
  | succ k ih =>
    intro i m L v r hb h
    cases L with
    | nil => cases h
    | cons b L =>
      have hb0 := hb b (by simp)
      have h' : (if 128 ≤ b then wholeG last frm k (i + 1) (m + (b.toNat % 128) * 128 ^ i) L else if (b = 0 ∧ 0 < i) ∨ (k = 0 ∧ last < b) then .bad 41 frm else .ok (m + b.toNat * 128 ^ i) L) = Rd.ok v r := h
      by_cases h1 : 128 ≤ b
      · rw [if_pos h1] at h'
        obtain ⟨n, hv, hn, h0, hL⟩ := ih _ _ _ _ _ (fun x hx => hb x (by simp [hx])) h'
        have hn0 : 0 < n := by omega
        have hk1 : 0 < k := by
          rcases Nat.eq_zero_or_pos k with rfl | h0
          · simp at hn; omega
          · exact h0
        refine ⟨b.toNat % 128 + 128 * n, ?_, ?_, .inr (by omega), fun f hf => ?_⟩
        · rw [hv, Nat.add_mul, Nat.pow_succ, Nat.add_assoc]
          congr 2
          rw [Nat.mul_comm (128 ^ i) 128, ← Nat.mul_assoc, Nat.mul_comm n 128]
        · rw [Nat.pow_succ]; omega
        · obtain ⟨g, rfl⟩ : ∃ g, f = g + 1 := ⟨f - 1, by omega⟩
          rw [unsF_big (by omega)]
          have e1 : (((b.toNat % 128 + 128 * n) % 128 + 128 : Nat) : Int) = b := by omega
          have e2 : (b.toNat % 128 + 128 * n) / 128 = n := by omega
          rw [e1, e2, hL g (by omega)]; rfl
      · rw [if_neg h1] at h'
        by_cases h2 : (b = 0 ∧ 0 < i) ∨ (k = 0 ∧ last < b)
        · rw [if_pos h2] at h'; cases h'
        · rw [if_neg h2] at h'
          cases h'
          refine ⟨b.toNat, rfl, ?_, ?_, fun f hf => ?_⟩
          · rw [Nat.pow_succ]
            have : 0 < 128 ^ k := Nat.pow_pos (by decide)
            omega
          · by_cases hi : i = 0
            · exact .inl hi
            · right
              have : ¬ b = 0 := fun e => h2 (.inl ⟨e, by omega⟩)
              omega
          · rw [unsF_small (by omega)]
            have : ((b.toNat : Nat) : Int) = b := by omega
            rw [this]; rfl
theorem back_wholeR (bytes : Nat) (last : Int) (h10 : bytes ≤ 10) : Back (wholeR bytes last) unsB := by
  intro L x r hb h
  obtain ⟨n, hv, _, _, hL⟩ := back_whole last _ _ _ _ _ _ _ hb h
  obtain rfl : x = n := by simpa using hv
  exact hL 9 (by omega)
theorem Back.sub {L r : List Int} {e : List Int} (h : L = e ++ r) (hb : ∀ b ∈ L, 0 ≤ b ∧ b ≤ 255) : ∀ b ∈ r, 0 ≤ b ∧ b ≤ 255 := fun b hx => hb b (by rw [h]; simp [hx])
theorem back_count : Back countR unsB := back_wholeR 3 127 (by decide)
theorem back_many (most : Nat) : Back (manyR most) unsB := by
  intro L x r hb h
  obtain ⟨n, r', h1, h2⟩ := rd_bind_ok h
  by_cases hm : most < n
  · rw [if_pos hm] at h2; cases h2
  · rw [if_neg hm] at h2; cases h2; exact back_count _ _ _ hb h1
theorem many_le {most : Nat} {L : List Int} {n : Nat} {r : List Int} (h : manyR most L = .ok n r) : n ≤ most := by
  obtain ⟨n', r', h1, h2⟩ := rd_bind_ok h
  by_cases hm : most < n'
  · rw [if_pos hm] at h2; cases h2
  · rw [if_neg hm] at h2; cases h2; omega
theorem back_sint : Back sintR (fun x => unsB (zig x)) := by
  intro L x r hb h
  obtain ⟨n, r', h1, h2⟩ := rd_bind_ok h
  cases h2
  show L = unsB (zig (unzig n)) ++ r
  rw [zig_unzig]
  exact back_wholeR 10 1 (by decide) _ _ _ hb h1
theorem back_times {α : Type} {f : List Int → Rd α} {enc : α → List Int} (hf : Back f enc) : ∀ (n : Nat) (L : List Int) (l : List α) (r : List Int), (∀ b ∈ L, 0 ≤ b ∧ b ≤ 255) → timesR f n L = .ok l r → L = l.flatMap enc ++ r ∧ l.length = n := by
  intro n
  induction n with
  | zero => intro L l r _ h; cases h; exact ⟨rfl, rfl⟩
  | succ n ih =>
    intro L l r hb h
    obtain ⟨x, r1, h1, h2⟩ := rd_bind_ok h
    obtain ⟨l', r2, h3, h4⟩ := rd_bind_ok h2
    cases h4
    have e1 := hf _ _ _ hb h1
    obtain ⟨e2, e3⟩ := ih _ _ _ (Back.sub e1 hb) h3
    exact ⟨by rw [e1, e2, List.flatMap_cons, List.append_assoc], by simp [e3]⟩
theorem back_list {α : Type} {f : List Int → Rd α} {enc : α → List Int} (hf : Back f enc) (most : Nat) : ∀ (L : List Int) (l : List α) (r : List Int), (∀ b ∈ L, 0 ≤ b ∧ b ≤ 255) → listR f most L = .ok l r → L = unsB l.length ++ l.flatMap enc ++ r ∧ l.length ≤ most := by
  intro L l r hb h
  obtain ⟨n, r1, h1, h2⟩ := rd_bind_ok h
  have e1 := back_many most _ _ _ hb h1
  obtain ⟨e2, e3⟩ := back_times hf _ _ _ _ (Back.sub e1 hb) h2
  exact ⟨by rw [e1, e2, e3, List.append_assoc], by rw [e3]; exact many_le h1⟩
theorem back_ints (most : Nat) : Back (intsR most) intsB := fun L l r hb h => (back_list back_sint most L l r hb h).1
theorem back_part : Back partR partB := by
  intro L x r hb h
  obtain ⟨t, r1, h1, h2⟩ := rd_bind_ok h
  obtain ⟨xs, r2, h3, h4⟩ := rd_bind_ok h2
  cases h4
  cases L with
  | nil => cases h1
  | cons b L =>
    cases h1
    have e := back_ints 16 _ _ _ (fun x hx => hb x (by simp [hx])) h3
    rw [e]; rfl
theorem back_line : Back lineR lineB := by
  intro L x r hb h
  obtain ⟨b, r1, h1, h2⟩ := rd_bind_ok h
  obtain ⟨s, r2, h3, h4⟩ := rd_bind_ok h2
  obtain ⟨xs, r3, h5, h6⟩ := rd_bind_ok h4
  cases h6
  have e1 := back_count _ _ _ hb h1
  have hb1 := Back.sub e1 hb
  have e2 := back_count _ _ _ hb1 h3
  have e3 := back_ints 1024 _ _ _ (Back.sub e2 hb1) h5
  rw [e1, e2, e3]
  simp [lineB]
theorem back_op : Back opR opB := by
  intro L x r hb h
  obtain ⟨b, r1, h1, h2⟩ := rd_bind_ok h
  obtain ⟨s, r2, h3, h4⟩ := rd_bind_ok h2
  obtain ⟨xs, r3, h5, h6⟩ := rd_bind_ok h4
  cases h6
  cases L with
  | nil => cases h1
  | cons b L =>
    cases h1
    have hb1 : ∀ x ∈ r1, 0 ≤ x ∧ x ≤ 255 := fun x hx => hb x (by simp [hx])
    have e2 := back_count _ _ _ hb1 h3
    have e3 := back_count _ _ _ (Back.sub e2 hb1) h5
    rw [e2, e3]
    simp [opB]
theorem back_prog : Back progR restB := by
  intro L x r hb h
  obtain ⟨m, r1, h1, h⟩ := rd_bind_ok h
  obtain ⟨c, r2, h2, h⟩ := rd_bind_ok h
  obtain ⟨i, r3, h3, h⟩ := rd_bind_ok h
  obtain ⟨o, r4, h4, h⟩ := rd_bind_ok h
  obtain ⟨ps, r5, h5, h⟩ := rd_bind_ok h
  obtain ⟨ls, r6, h6, h⟩ := rd_bind_ok h
  obtain ⟨ops, r7, h7, h⟩ := rd_bind_ok h
  cases h
  have e1 := back_count _ _ _ hb h1
  have b1 := Back.sub e1 hb
  have e2 := back_count _ _ _ b1 h2
  have b2 := Back.sub e2 b1
  have e3 := back_count _ _ _ b2 h3
  have b3 := Back.sub e3 b2
  have e4 := back_count _ _ _ b3 h4
  have b4 := Back.sub e4 b3
  have e5 := (back_list back_part 32 _ _ _ b4 h5).1
  have b5 := Back.sub e5 b4
  have e6 := (back_list back_line 96 _ _ _ b5 h6).1
  have b6 := Back.sub e6 b5
  have e7 := (back_list back_op 131072 _ _ _ b6 h7).1
  rw [e1, e2, e3, e4, e5, e6, e7]
  simp [restB]
end Go.Proofs.YtfmpjbiaamkobaaDoor
