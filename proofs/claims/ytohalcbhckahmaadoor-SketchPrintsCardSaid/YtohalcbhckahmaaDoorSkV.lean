/-
  Layer 5, plain: what is printed is read as the same.
-/
import Derived.Test.YtohalcbhckahmaaDoorSkQ
import Derived.Test.YtohalcbhckahmaaDoorSkH
namespace Go.Proofs.YtohalcbhckahmaaDoor
open Go
set_option linter.all false

/-- A text is read as these tokens, their places left out. -/
def Lx (s : List UInt8) (ts : List LTok) : Prop := ∀ p, ∃ us, lexL p s = (us, none) ∧ us.map LTok.bare0 = ts
theorem Lx.nil : Lx [] [] := fun p => ⟨[], lexL_nil p, rfl⟩
theorem Lx.blank {c : UInt8} {s : List UInt8} {ts : List LTok} (h : Lx s ts) (hc : isBlk c = true) : Lx (c :: s) ts := fun p => by
  rw [lexL_blank p c s hc]; exact h (p + 1)
theorem Lx.tok {t : LTok} {b : UInt8} {r : List UInt8} {ts : List LTok} (h : Lx (b :: r) ts) (hr : t.right = true) (hn : -9223372036854775808 ≤ t.num ∧ t.num ≤ 9223372036854775807) (hb : stops b) : Lx (t.spelt ++ b :: r) (t.bare0 :: ts) := fun p => by
  obtain ⟨c, q, hs, h1, h2, ht⟩ := tokR_back t hr hn
  have ha := tokR_append c q b hb r
  rw [ht, List.cons_append] at ha
  obtain ⟨us, hu, hts⟩ := h (p + (q.length + 1))
  refine ⟨⟨t.sort, t.text, t.num, p⟩ :: us, ?_, by rw [List.map_cons, hts]; rfl⟩
  rw [hs, List.cons_append, lexL_good _ _ _ h1 h2 ha]
  have hd : (c :: (q ++ b :: r)).drop (q.length + 1) = b :: r := by rw [List.drop_succ_cons, List.drop_left]
  rw [hd, hu]
/-- The marks of one byte, whatever follows. -/
theorem Lx.mark {c : UInt8} {r : List UInt8} {ts : List LTok} (h : Lx r ts) (hc : c = 123 ∨ c = 125 ∨ c = 61 ∨ c = 59 ∨ c = 46) : Lx (c :: r) (⟨3, [c], 0, 0⟩ :: ts) := fun p => by
  have ht : tokR (c :: r) = .good 3 [c] 0 1 := by
    rw [tokR_cons]
    rcases hc with rfl | rfl | rfl | rfl | rfl <;> rfl
  obtain ⟨us, hu, hts⟩ := h (p + 1)
  refine ⟨⟨3, [c], 0, p⟩ :: us, ?_, by rw [List.map_cons, hts]; rfl⟩
  rw [lexL_good _ _ _ (by rcases hc with rfl | rfl | rfl | rfl | rfl <;> rfl) (by rcases hc with rfl | rfl | rfl | rfl | rfl <;> decide) ht]
  rw [List.drop_succ_cons, List.drop_zero, hu]
def wT (s : List UInt8) : LTok := ⟨1, s, 0, 0⟩
def mT (s : List UInt8) : LTok := ⟨3, s, 0, 0⟩
def nT (n : Int) : LTok := ⟨2, [], n, 0⟩
theorem Lx.word {s r : List UInt8} {b : UInt8} {ts : List LTok} (h : Lx (b :: r) ts) (hs : nameU s = true) (hb : stops b) : Lx (s ++ b :: r) (wT s :: ts) := by
  have := h.tok (t := wT s) (by unfold LTok.right wT; simp [hs]) (by unfold wT; simp only; omega) hb
  exact this
theorem Lx.num {n : Int} {r : List UInt8} {b : UInt8} {ts : List LTok} (h : Lx (b :: r) ts) (hn : -9223372036854775808 ≤ n ∧ n ≤ 9223372036854775807) (hb : stops b) : Lx (Lib.itoa n ++ b :: r) (nT n :: ts) := by
  have := h.tok (t := nT n) (by unfold LTok.right nT; simp) hn hb
  exact this
theorem Lx.arrow {r : List UInt8} {ts : List LTok} (h : Lx (32 :: r) ts) : Lx (45 :: 62 :: 32 :: r) (mT [45, 62] :: ts) := by
  have := h.tok (t := mT [45, 62]) (by unfold LTok.right mT; decide) (by unfold mT; simp only; omega) (by unfold stops; decide)
  exact this
theorem stops32 : stops 32 := by unfold stops; decide
theorem stops46 : stops 46 := by unfold stops; decide
theorem stops59 : stops 59 := by unfold stops; decide
theorem Lx.place {n : ByteArray} {p : Int} {b : UInt8} {r : List UInt8} {ts : List LTok} (h : Lx (b :: r) ts) (hb : stops b) (hn : nameB n = true) (hp : -9223372036854775808 ≤ p ∧ p ≤ 9223372036854775807) :
    Lx (placeW n p ++ b :: r) (wT n.data.toList :: mT [46] :: nT p :: ts) := by
  have h1 := (h.num hp hb).mark (c := 46) (by decide)
  have h2 := h1.word (s := n.data.toList) (by rw [← nameB_eq]; exact hn) stops46
  unfold placeW
  rw [List.append_assoc, List.cons_append]
  exact h2
def numsT (xs : List Int) : List LTok := xs.map nT
theorem Lx.nums {r : List UInt8} {ts : List LTok} (h : Lx (59 :: r) ts) : ∀ xs : List Int, (∀ n ∈ xs, -9223372036854775808 ≤ n ∧ n ≤ 9223372036854775807) → Lx (numsW xs ++ 59 :: r) (numsT xs ++ ts) ∧ ∃ b q, numsW xs ++ 59 :: r = b :: q ∧ stops b := by
  intro xs
  induction xs with
  | nil => intro _; exact ⟨h, 59, r, rfl, stops59⟩
  | cons x xs ih =>
    intro hb
    obtain ⟨h1, b, q, e, hs⟩ := ih (fun n hn => hb n (List.mem_cons_of_mem _ hn))
    rw [e] at h1
    have h2 := (h1.num (hb x List.mem_cons_self) hs).blank (c := 32) (by decide)
    have e2 : numsW (x :: xs) ++ 59 :: r = 32 :: (Lib.itoa x ++ b :: q) := by
      rw [← e]; unfold numsW; simp
    rw [e2]
    exact ⟨h2, 32, _, rfl, stops32⟩
/-- An item's tokens. -/
def tkIt (x : SIt) : List LTok :=
  if x.kind = 1 then [wT actorW, wT x.name.data.toList, mT [61], wT x.tag.data.toList] ++ numsT x.xs ++ [mT [59]]
  else if x.kind = 2 then [wT edgeW, wT x.fn.data.toList, mT [46], nT x.fp, mT [45, 62], wT x.tn.data.toList, mT [46], nT x.tp] ++ (if x.xs = [] then [] else [wT withW]) ++ numsT x.xs ++ [mT [59]]
  else if x.kind = 3 then [wT inW, wT x.name.data.toList, mT [45, 62], wT x.tn.data.toList, mT [46], nT x.tp, mT [59]]
  else [wT outW, wT x.fn.data.toList, mT [46], nT x.fp, mT [45, 62], wT x.name.data.toList, mT [59]]
theorem Lx.line {r : List UInt8} {ts : List LTok} (h : Lx r ts) (x : SIt) (hr : rightB x = true) (hp : (-9223372036854775808 ≤ x.fp ∧ x.fp ≤ 9223372036854775807) ∧ (-9223372036854775808 ≤ x.tp ∧ x.tp ≤ 9223372036854775807) ∧ ∀ n ∈ x.xs, -9223372036854775808 ≤ n ∧ n ≤ 9223372036854775807) : Lx (lineW x ++ r) (tkIt x ++ ts) := by
  obtain ⟨kind, name, tag, sa, sc, xs, fn, fp, fa, tn, tp, ta, at_⟩ := x
  obtain ⟨hf, ht, hx⟩ := hp
  simp only at hf ht hx
  have h0 : Lx (59 :: 10 :: r) (mT [59] :: ts) := (h.blank (c := 10) (by decide)).mark (by decide)
  obtain ⟨h1, b, q, e, hb⟩ := h0.nums xs hx
  rw [e] at h1
  unfold rightB at hr
  simp only at hr
  split at hr
  · rename_i hk; subst hk
    simp only [Bool.and_eq_true] at hr
    obtain ⟨⟨⟨hn, ht⟩, -⟩, -⟩ := hr
    rw [nameB_eq] at hn ht
    have h2 := ((h1.word ht hb).blank (c := 32) (by decide)).mark (c := 61) (by decide)
    have h3 := ((((h2.blank (c := 32) (by decide)).word hn stops32).blank (c := 32) (by decide)).word (s := actorW) (by decide) stops32)
    have h4 := (h3.blank (c := 32) (by decide)).blank (c := 32) (by decide)
    have e1 : lineW ⟨1, name, tag, sa, sc, xs, fn, fp, fa, tn, tp, ta, at_⟩ ++ r = 32 :: 32 :: (actorW ++ 32 :: (name.data.toList ++ 32 :: 61 :: 32 :: (tag.data.toList ++ b :: q))) := by
      rw [← e]; unfold lineW headW actorW; simp
    rw [e1]
    have e2 : tkIt ⟨1, name, tag, sa, sc, xs, fn, fp, fa, tn, tp, ta, at_⟩ ++ ts = wT actorW :: wT name.data.toList :: ⟨3, [61], 0, 0⟩ :: wT tag.data.toList :: (numsT xs ++ mT [59] :: ts) := by
      unfold tkIt mT; simp
    rw [e2]
    exact h4
  · split at hr
    · rename_i hk; subst hk
      simp only [Bool.and_eq_true] at hr
      obtain ⟨⟨⟨-, -⟩, hn⟩, ho⟩ := hr
      have hT : ∃ b' q', (if xs = [] then [] else [32, 119, 105, 116, 104]) ++ b :: q = b' :: q' ∧ stops b' ∧ Lx (b' :: q') ((if xs = [] then [] else [wT withW]) ++ (numsT xs ++ mT [59] :: ts)) := by
        by_cases hx0 : xs = []
        · rw [if_pos hx0, if_pos hx0]; exact ⟨b, q, rfl, hb, h1⟩
        · rw [if_neg hx0, if_neg hx0]
          exact ⟨32, _, rfl, stops32, (h1.word (s := withW) (by decide) hb).blank (c := 32) (by decide)⟩
      obtain ⟨b', q', e', hb', h2⟩ := hT
      have h3 := ((h2.place hb' ho ht).blank (c := 32) (by decide)).arrow.blank (c := 32) (by decide)
      have h4 := (((h3.place stops32 hn hf).blank (c := 32) (by decide)).word (s := edgeW) (by decide) stops32)
      have h5 := (h4.blank (c := 32) (by decide)).blank (c := 32) (by decide)
      have e1 : lineW ⟨2, name, tag, sa, sc, xs, fn, fp, fa, tn, tp, ta, at_⟩ ++ r = 32 :: 32 :: (edgeW ++ 32 :: (placeW fn fp ++ 32 :: 45 :: 62 :: 32 :: (placeW tn tp ++ b' :: q'))) := by
        rw [← e', ← e]; unfold lineW headW edgeW; simp
      rw [e1]
      have e2 : tkIt ⟨2, name, tag, sa, sc, xs, fn, fp, fa, tn, tp, ta, at_⟩ ++ ts = wT edgeW :: wT fn.data.toList :: mT [46] :: nT fp :: mT [45, 62] :: wT tn.data.toList :: mT [46] :: nT tp :: ((if xs = [] then [] else [wT withW]) ++ (numsT xs ++ mT [59] :: ts)) := by
        unfold tkIt; simp
      rw [e2]
      exact h5
    · split at hr
      · rename_i hk; subst hk
        simp only [Bool.and_eq_true] at hr
        obtain ⟨⟨⟨⟨hn, -⟩, hx0⟩, -⟩, ho⟩ := hr
        have hx0 : xs = [] := by simpa using hx0
        subst hx0
        rw [nameB_eq] at hn
        have h3 := ((h0.place stops59 ho ht).blank (c := 32) (by decide)).arrow.blank (c := 32) (by decide)
        have h4 := (((h3.word hn stops32).blank (c := 32) (by decide)).word (s := inW) (by decide) stops32)
        have h5 := (h4.blank (c := 32) (by decide)).blank (c := 32) (by decide)
        have e1 : lineW ⟨3, name, tag, sa, sc, [], fn, fp, fa, tn, tp, ta, at_⟩ ++ r = 32 :: 32 :: (inW ++ 32 :: (name.data.toList ++ 32 :: 45 :: 62 :: 32 :: (placeW tn tp ++ 59 :: 10 :: r))) := by
          unfold lineW headW inW numsW; simp
        rw [e1]
        exact h5
      · split at hr
        · rename_i hk; subst hk
          simp only [Bool.and_eq_true] at hr
          obtain ⟨⟨⟨⟨hn, -⟩, hx0⟩, ho⟩, -⟩ := hr
          have hx0 : xs = [] := by simpa using hx0
          subst hx0
          rw [nameB_eq] at hn
          have h3 := ((h0.word hn stops59).blank (c := 32) (by decide)).arrow.blank (c := 32) (by decide)
          have h4 := (((h3.place stops32 ho hf).blank (c := 32) (by decide)).word (s := outW) (by decide) stops32)
          have h5 := (h4.blank (c := 32) (by decide)).blank (c := 32) (by decide)
          have e1 : lineW ⟨4, name, tag, sa, sc, [], fn, fp, fa, tn, tp, ta, at_⟩ ++ r = 32 :: 32 :: (outW ++ 32 :: (placeW fn fp ++ 32 :: 45 :: 62 :: 32 :: (name.data.toList ++ 59 :: 10 :: r))) := by
            unfold lineW headW outW numsW; simp
          rw [e1]
          exact h5
        · cases hr
/-- All a sketch's tokens, but the end. -/
def tkS (s : Sk) : List LTok := [wT graphW, wT s.name.data.toList, mT [123]] ++ s.items.flatMap tkIt ++ [mT [125]]
theorem Lx.sketch (s : Sk) (hn : nameB s.name = true) (hr : s.items.all rightB = true) (hb : ∀ x ∈ s.items, (-9223372036854775808 ≤ x.fp ∧ x.fp ≤ 9223372036854775807) ∧ (-9223372036854775808 ≤ x.tp ∧ x.tp ≤ 9223372036854775807) ∧ ∀ n ∈ x.xs, -9223372036854775808 ≤ n ∧ n ≤ 9223372036854775807) : Lx (printW s) (tkS s) := by
  have hend : Lx [125, 10] [mT [125]] := (Lx.nil.blank (c := 10) (by decide)).mark (by decide)
  have hit : ∀ l : List SIt, (∀ x ∈ l, rightB x = true ∧ ((-9223372036854775808 ≤ x.fp ∧ x.fp ≤ 9223372036854775807) ∧ (-9223372036854775808 ≤ x.tp ∧ x.tp ≤ 9223372036854775807) ∧ ∀ n ∈ x.xs, -9223372036854775808 ≤ n ∧ n ≤ 9223372036854775807)) → Lx (l.flatMap lineW ++ [125, 10]) (l.flatMap tkIt ++ [mT [125]]) := by
    intro l
    induction l with
    | nil => intro _; exact hend
    | cons x l ih =>
      intro h
      have h1 := ih (fun y hy => h y (List.mem_cons_of_mem _ hy))
      obtain ⟨h2, h3⟩ := h x List.mem_cons_self
      have h4 := h1.line x h2 h3
      simp only [List.flatMap_cons, List.append_assoc]
      exact h4
  have h1 := (hit s.items (fun x hx => ⟨List.all_eq_true.1 hr x hx, hb x hx⟩)).blank (c := 10) (by decide)
  rw [nameB_eq] at hn
  have h2 := ((h1.mark (c := 123) (by decide)).blank (c := 32) (by decide)).word hn stops32
  have h3 := (h2.blank (c := 32) (by decide)).word (s := graphW) (by decide) stops32
  have e1 : printW s = graphW ++ 32 :: (s.name.data.toList ++ 32 :: 123 :: 10 :: (s.items.flatMap lineW ++ [125, 10])) := by
    unfold printW graphW; simp
  rw [e1]
  have e2 : tkS s = wT graphW :: wT s.name.data.toList :: ⟨3, [123], 0, 0⟩ :: (s.items.flatMap tkIt ++ [mT [125]]) := by
    unfold tkS mT; simp
  rw [e2]
  exact h3
end Go.Proofs.YtohalcbhckahmaaDoor
