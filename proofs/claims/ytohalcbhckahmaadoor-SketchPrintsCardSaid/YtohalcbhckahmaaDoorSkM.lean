/-
  Layer 5, plain: what is read is right, and its one form is at most twice as long as the text.
-/
import Derived.Test.YtohalcbhckahmaaDoorSkX
import Derived.Test.YtohalcbhckahmaaDoorSkK
import Derived.Test.YtohalcbhckahmaaDoorSkL
namespace Go.Proofs.YtohalcbhckahmaaDoor
open Go
set_option linter.all false

abbrev BndZ (n : Int) : Prop := -9223372036854775808 ≤ n ∧ n ≤ 9223372036854775807
/-- Between two places stand these tokens. -/
def Span (l : List LTok) (k m : Nat) (ts : List LTok) : Prop := m = k + ts.length ∧ (l.map LTok.bare0).drop k = ts ++ (l.map LTok.bare0).drop m
theorem Span.refl (l : List LTok) (k : Nat) : Span l k k [] := ⟨rfl, rfl⟩
theorem Span.trans {l : List LTok} {k m n : Nat} {ts us : List LTok} (h : Span l k m ts) (g : Span l m n us) : Span l k n (ts ++ us) := by
  refine ⟨by rw [g.1, h.1, List.length_append]; omega, ?_⟩
  rw [h.2, g.2, List.append_assoc]
theorem Span.one {l : List LTok} {k : Nat} {t u : LTok} (h : l[k]? = some t) (e : t.bare0 = u) : Span l k (k + 1) [u] := by
  obtain ⟨hk, rfl⟩ := List.getElem?_eq_some_iff.1 h
  subst e
  refine ⟨rfl, ?_⟩
  rw [List.drop_eq_getElem_cons (by simpa using hk)]
  simp
theorem Span.le {l : List LTok} {k m : Nat} {ts : List LTok} (h : Span l k m ts) (hk : k ≤ l.length) : ts.length ≤ l.length := by
  have h1 := congrArg List.length h.2
  simp only [List.length_drop, List.length_map, List.length_append] at h1
  omega
section
variable {l : List LTok} (hg : TGood l)
include hg
theorem TGood.rt' {k : Nat} {t : LTok} (h : l[k]? = some t) (hs : t.sort ≠ 0) : t.right = true := by
  have hk := (List.getElem?_eq_some_iff.1 h).1
  rcases Nat.lt_or_ge (k + 1) l.length with h1 | h1
  · exact (hg.rt k t h h1).1
  · exact absurd (hg.en k t h (by omega)).1 hs
theorem sp_word {k m : Nat} {t : LTok} (h : takeP 1 l k = .good t m) : Span l k m [wT t.text] ∧ nameU t.text = true := by
  obtain ⟨h1, h2, rfl⟩ := takeP_inv h
  have hr := hg.rt' h1 (by omega)
  unfold LTok.right at hr
  rw [if_pos h2] at hr
  simp only [Bool.and_eq_true, decide_eq_true_iff] at hr
  refine ⟨Span.one h1 ?_, hr.2⟩
  unfold LTok.bare0 wT
  rw [h2, hr.1]
theorem sp_num {k m : Nat} {t : LTok} (h : takeP 2 l k = .good t m) : Span l k m [nT t.num] ∧ BndZ t.num := by
  obtain ⟨h1, h2, rfl⟩ := takeP_inv h
  have hr := hg.rt' h1 (by omega)
  unfold LTok.right at hr
  rw [if_neg (by omega), if_pos h2, decide_eq_true_iff] at hr
  refine ⟨Span.one h1 ?_, hg.nm k t h1⟩
  unfold LTok.bare0 nT
  rw [h2, hr]
theorem sp_must {b : List UInt8} {k m : Nat} {u : Unit} (h : mustP 3 b l k = .good u m) : Span l k m [mT b] := by
  obtain ⟨t, h1, h2, h3, rfl⟩ := mustP_inv h
  have hr := hg.rt' h1 (by omega)
  unfold LTok.right at hr
  rw [if_neg (by omega), if_neg (by omega), if_pos h2] at hr
  simp only [Bool.and_eq_true, decide_eq_true_iff] at hr
  refine Span.one h1 ?_
  unfold LTok.bare0 mT
  rw [h2, h3, hr.1]
theorem sp_key {b : List UInt8} {k : Nat} {t : LTok} (h1 : l[k]? = some t) (h2 : t.sort = 1) (h3 : t.text = b) : Span l k (k + 1) [wT b] := by
  have hr := hg.rt' h1 (by omega)
  unfold LTok.right at hr
  rw [if_pos h2] at hr
  simp only [Bool.and_eq_true, decide_eq_true_iff] at hr
  refine Span.one h1 ?_
  unfold LTok.bare0 wT
  rw [h2, h3, hr.1]
theorem sp_mustw {b : List UInt8} {k m : Nat} {u : Unit} (h : mustP 1 b l k = .good u m) : Span l k m [wT b] := by
  obtain ⟨t, h1, h2, h3, rfl⟩ := mustP_inv h
  exact sp_key hg h1 h2 h3
theorem sp_numsL : ∀ (n k : Nat), (numsL l k).length = n → Span l k (k + n) (numsT (numsL l k)) ∧ ∀ x ∈ numsL l k, BndZ x := by
  intro n
  induction n with
  | zero =>
    intro k hk
    rw [List.length_eq_zero_iff.1 hk]
    exact ⟨Span.refl _ _, fun x hx => by cases hx⟩
  | succ n ih =>
    intro k hk
    obtain ⟨t, h1, h2, _⟩ := numsL_get (l := l) (k := k) (i := 0) (by omega)
    rw [Nat.add_zero] at h1
    have e := numsL_some h1
    rw [if_pos h2] at e
    rw [e] at hk ⊢
    simp only [List.length_cons, Nat.add_right_cancel_iff] at hk
    obtain ⟨i1, i2⟩ := ih (k + 1) hk
    have ht : takeP 2 l k = .good t (k + 1) := by rw [takeP_some h1, if_pos h2]
    obtain ⟨j1, j2⟩ := sp_num hg ht
    refine ⟨?_, fun x hx => ?_⟩
    · have := j1.trans i1
      rw [show k + 1 + n = k + (n + 1) by omega] at this
      exact this
    · rcases List.mem_cons.1 hx with rfl | hx
      · exact j2
      · exact i2 x hx
theorem sp_nums {k m : Nat} {xs : List Int} (h : numsP l k = .good xs m) : Span l k m (numsT xs) ∧ ∀ x ∈ xs, BndZ x := by
  obtain ⟨rfl, rfl⟩ := numsP_inv h
  exact sp_numsL hg _ k rfl
theorem sp_place {k m : Nat} {p : LPl} (h : placeP l k = .good p m) : Span l k m [wT p.name, mT [46], nT p.port] ∧ nameU p.name = true ∧ BndZ p.port := by
  unfold placeP at h
  obtain ⟨t, k1, h1, h⟩ := PR.bind_inv h
  obtain ⟨_, k2, h2, h⟩ := PR.bind_inv h
  obtain ⟨n, k3, h3, h⟩ := PR.bind_inv h
  cases h
  obtain ⟨a1, a2⟩ := sp_word hg h1
  obtain ⟨b1, b2⟩ := sp_num hg h3
  exact ⟨(a1.trans (sp_must hg h2)).trans b1, a2, b2⟩
theorem sp_with {k m : Nat} {xs : List Int} (h : withP l k = .good xs m) : Span l k m ((if xs = [] then [] else [wT withW]) ++ numsT xs) ∧ ∀ x ∈ xs, BndZ x := by
  unfold withP at h
  split at h
  · rename_i hl
    obtain ⟨t, h1, h2, h3⟩ := lookP_inv hl
    obtain ⟨n, k1, h4, h⟩ := PR.bind_inv h
    obtain ⟨ys, k2, h5, h⟩ := PR.bind_inv h
    cases h
    obtain ⟨a1, a2⟩ := sp_num hg h4
    obtain ⟨b1, b2⟩ := sp_nums hg h5
    refine ⟨?_, fun x hx => ?_⟩
    · rw [if_neg (by simp)]
      exact (sp_key hg h1 h2 h3).trans (a1.trans b1)
    · rcases List.mem_cons.1 hx with rfl | hx
      · exact a2
      · exact b2 x hx
  · cases h
    exact ⟨Span.refl _ _, fun x hx => by cases hx⟩
end
abbrev IZ (x : LIt) : SIt := x.mem none 0
structure ItOk (x : LIt) : Prop where
  rt : rightB (IZ x) = true
  fp : BndZ x.fr.port
  tp : BndZ x.to.port
  xs : ∀ n ∈ x.xs, BndZ n
theorem nameB_arr {s : List UInt8} (h : nameU s = true) : nameB ⟨s.toArray⟩ = true := by rw [nameB_eq]; simpa using h
theorem empty_arr : emptyB (⟨([] : List UInt8).toArray⟩ : ByteArray) = true := by unfold emptyB; rw [ByteArray.toList_eq]; rfl
theorem bare_arr : bareB (⟨plZ.name.toArray⟩ : ByteArray) plZ.port = true := by
  unfold bareB
  rw [show emptyB (⟨plZ.name.toArray⟩ : ByteArray) = true from empty_arr]; rfl
theorem z_bnd : BndZ 0 := ⟨by decide, by decide⟩
theorem arr_back (s : List UInt8) : (⟨s.toArray⟩ : ByteArray).data.toList = s := by simp
section
variable {l : List LTok} (hg : TGood l)
include hg
theorem sp_item {k m : Nat} {x : LIt} (h : itemP l k = .good x m) : Span l k m (tkIt (IZ x)) ∧ ItOk x := by
  unfold itemP at h
  obtain ⟨y, kb, h0, h⟩ := PR.bind_inv h
  obtain ⟨_, ke, he, h⟩ := PR.bind_inv h
  cases h
  have he := sp_must hg he
  unfold bodyP at h0
  split at h0
  · cases h0
  · rename_i t ht
    split at h0
    · rename_i hs
      have hk := sp_key hg ht hs.1 hs.2
      unfold actorP at h0
      obtain ⟨n, k1, h1, h0⟩ := PR.bind_inv h0
      obtain ⟨_, k2, h2, h0⟩ := PR.bind_inv h0
      obtain ⟨g, k3, h3, h0⟩ := PR.bind_inv h0
      obtain ⟨xs, k4, h4, h0⟩ := PR.bind_inv h0
      cases h0
      obtain ⟨a1, a2⟩ := sp_word hg h1
      obtain ⟨b1, b2⟩ := sp_word hg h3
      obtain ⟨c1, c2⟩ := sp_nums hg h4
      refine ⟨?_, ⟨?_, z_bnd, z_bnd, c2⟩⟩
      · have := (((((hk.trans a1).trans (sp_must hg h2)).trans b1).trans c1).trans he)
        unfold tkIt IZ LIt.mem
        simp only [if_pos, arr_back]
        simpa using this
      · unfold rightB IZ LIt.mem
        simp only [if_pos]
        have e1 := bare_arr
        simp only [nameB_arr a2, nameB_arr b2, e1, Bool.and_true]
    · split at h0
      · rename_i hs
        have hk := sp_key hg ht hs.1 hs.2
        unfold edgeP at h0
        obtain ⟨p, k1, h1, h0⟩ := PR.bind_inv h0
        obtain ⟨_, k2, h2, h0⟩ := PR.bind_inv h0
        obtain ⟨q, k3, h3, h0⟩ := PR.bind_inv h0
        obtain ⟨xs, k4, h4, h0⟩ := PR.bind_inv h0
        cases h0
        obtain ⟨a1, a2, a3⟩ := sp_place hg h1
        obtain ⟨b1, b2, b3⟩ := sp_place hg h3
        obtain ⟨c1, c2⟩ := sp_with hg h4
        refine ⟨?_, ⟨?_, a3, b3, c2⟩⟩
        · have := (((((hk.trans a1).trans (sp_must hg h2)).trans b1).trans c1).trans he)
          unfold tkIt IZ LIt.mem
          simp only [if_neg (show ¬ (2 : Int) = 1 by decide), if_pos, arr_back]
          simpa using this
        · unfold rightB IZ LIt.mem
          simp only [if_neg (show ¬ (2 : Int) = 1 by decide), if_pos]
          have e1 := empty_arr
          simp only [nameB_arr a2, nameB_arr b2, e1, Bool.and_true]
      · split at h0
        · rename_i hs
          have hk := sp_key hg ht hs.1 hs.2
          unfold inP at h0
          obtain ⟨n, k1, h1, h0⟩ := PR.bind_inv h0
          obtain ⟨_, k2, h2, h0⟩ := PR.bind_inv h0
          obtain ⟨q, k3, h3, h0⟩ := PR.bind_inv h0
          cases h0
          obtain ⟨a1, a2⟩ := sp_word hg h1
          obtain ⟨b1, b2, b3⟩ := sp_place hg h3
          refine ⟨?_, ⟨?_, z_bnd, b3, fun n hn => by cases hn⟩⟩
          · have := ((((hk.trans a1).trans (sp_must hg h2)).trans b1).trans he)
            unfold tkIt IZ LIt.mem
            simp only [if_neg (show ¬ (3 : Int) = 1 by decide), if_neg (show ¬ (3 : Int) = 2 by decide), if_pos, arr_back]
            simpa using this
          · unfold rightB IZ LIt.mem
            simp only [if_neg (show ¬ (3 : Int) = 1 by decide), if_neg (show ¬ (3 : Int) = 2 by decide), if_pos]
            have e1 := bare_arr
            have e2 := empty_arr
            simp only [nameB_arr a2, nameB_arr b2, e1, e2, Bool.and_true, List.length_nil, beq_self_eq_true]
        · split at h0
          · rename_i hs
            have hk := sp_key hg ht hs.1 hs.2
            unfold outP at h0
            obtain ⟨p, k1, h1, h0⟩ := PR.bind_inv h0
            obtain ⟨_, k2, h2, h0⟩ := PR.bind_inv h0
            obtain ⟨n, k3, h3, h0⟩ := PR.bind_inv h0
            cases h0
            obtain ⟨a1, a2, a3⟩ := sp_place hg h1
            obtain ⟨b1, b2⟩ := sp_word hg h3
            refine ⟨?_, ⟨?_, a3, z_bnd, fun n hn => by cases hn⟩⟩
            · have := ((((hk.trans a1).trans (sp_must hg h2)).trans b1).trans he)
              unfold tkIt IZ LIt.mem
              simp only [if_neg (show ¬ (4 : Int) = 1 by decide), if_neg (show ¬ (4 : Int) = 2 by decide), if_neg (show ¬ (4 : Int) = 3 by decide), arr_back]
              simpa using this
            · unfold rightB IZ LIt.mem
              simp only [if_neg (show ¬ (4 : Int) = 1 by decide), if_neg (show ¬ (4 : Int) = 2 by decide), if_neg (show ¬ (4 : Int) = 3 by decide), if_pos]
              have e1 := bare_arr
              have e2 := empty_arr
              simp only [nameB_arr a2, nameB_arr b2, e1, e2, Bool.and_true, List.length_nil, beq_self_eq_true]
          · cases h0
theorem sp_items : ∀ (f k m : Nat) (xs : List LIt), itemsP f l k = .good xs m → Span l k m ((xs.map IZ).flatMap tkIt) ∧ ∀ x ∈ xs, ItOk x := by
  intro f
  induction f with
  | zero => intro k m xs h; cases h
  | succ f ih =>
    intro k m xs h
    unfold itemsP at h
    split at h
    · cases h; exact ⟨Span.refl _ _, fun x hx => by cases hx⟩
    · obtain ⟨x, k1, h1, h⟩ := PR.bind_inv h
      obtain ⟨ys, k2, h2, h⟩ := PR.bind_inv h
      cases h
      obtain ⟨a1, a2⟩ := sp_item hg h1
      obtain ⟨b1, b2⟩ := ih _ _ _ h2
      refine ⟨a1.trans b1, fun y hy => ?_⟩
      rcases List.mem_cons.1 hy with rfl | hy
      · exact a2
      · exact b2 y hy
theorem sp_parse {x : LSk} {m : Nat} (h : parseP l = .good x m) : (∃ k, Span l 0 k (tkS x.mem)) ∧ nameU x.name = true ∧ ∀ y ∈ x.items, ItOk y := by
  unfold parseP at h
  obtain ⟨_, k1, h1, h⟩ := PR.bind_inv h
  obtain ⟨n, k2, h2, h⟩ := PR.bind_inv h
  obtain ⟨_, k3, h3, h⟩ := PR.bind_inv h
  obtain ⟨xs, k4, h4, h⟩ := PR.bind_inv h
  obtain ⟨_, k5, h5, h⟩ := PR.bind_inv h
  obtain ⟨_, k6, h6, h⟩ := PR.bind_inv h
  cases h
  obtain ⟨a1, a2⟩ := sp_word hg h2
  obtain ⟨b1, b2⟩ := sp_items hg _ _ _ _ h4
  refine ⟨⟨k5, ?_⟩, a2, b2⟩
  have := ((((sp_mustw hg h1).trans a1).trans (sp_must hg h3)).trans b1).trans (sp_must hg h5)
  unfold tkS LSk.mem
  simp only [arr_back]
  simpa using this
end
/-- What tokens are spelt as, in bytes. -/
def slen (ts : List LTok) : Nat := (ts.map fun t => t.spelt.length).sum
theorem slen_append (a b : List LTok) : slen (a ++ b) = slen a + slen b := by unfold slen; simp
theorem slen_cons (t : LTok) (b : List LTok) : slen (t :: b) = t.spelt.length + slen b := by unfold slen; simp
theorem slen_nil : slen [] = 0 := rfl
theorem slen_bare0 (a : List LTok) : slen (a.map LTok.bare0) = slen a := by
  unfold slen; rw [List.map_map]; rfl
theorem slen_le {s : List UInt8} {l : List LTok} (h : lexA s = (l, 0, 0)) : slen l ≤ s.length := by
  obtain ⟨h1, h2, h3⟩ := places_plain h
  have key : ∀ i, i ≤ l.length → slen (l.take i) ≤ posL l i := by
    intro i
    induction i with
    | zero => intro _; simp [slen]
    | succ i ih =>
      intro hi
      have hl : i < l.length := by omega
      obtain ⟨p1, _⟩ := h1 i hl
      have h4 := ih (by omega)
      have e : posL l (i + 1) = l[i].at_ + l[i].spelt.length := by
        show (match l[i]? with | some t => t.at_ + t.spelt.length | none => 0) = _
        rw [List.getElem?_eq_getElem hl]
      rw [List.take_succ_eq_append_getElem hl, slen_append, slen_cons, slen_nil, e]
      omega
  have := key l.length (Nat.le_refl _)
  rw [List.take_length, h2] at this
  exact this
theorem wT_len (s : List UInt8) : (wT s).spelt.length = s.length := rfl
theorem mT_len (s : List UInt8) : (mT s).spelt.length = s.length := rfl
theorem nT_len (n : Int) : (nT n).spelt.length = (Lib.itoa n).length := rfl
theorem itoa_pos (n : Int) (h : BndZ n) : 1 ≤ (Lib.itoa n).length := by
  have := (right_len1 (t := nT n) (by unfold LTok.right nT; simp) h).2
  exact this
theorem nums_len2 : ∀ xs : List Int, (∀ n ∈ xs, BndZ n) → (numsW xs).length ≤ 2 * slen (numsT xs) ∧ (numsW xs).length = xs.length + slen (numsT xs) := by
  intro xs
  induction xs with
  | nil => intro _; exact ⟨Nat.le_refl _, rfl⟩
  | cons x xs ih =>
    intro h
    obtain ⟨i1, i2⟩ := ih (fun n hn => h n (List.mem_cons_of_mem _ hn))
    have h1 := itoa_pos x (h x List.mem_cons_self)
    have e : numsW (x :: xs) = 32 :: (Lib.itoa x ++ numsW xs) := by unfold numsW; simp
    have e2 : numsT (x :: xs) = nT x :: numsT xs := rfl
    rw [e, e2, slen_cons, nT_len]
    simp only [List.length_cons, List.length_append]
    omega
theorem line_len2 {x : SIt} (hr : rightB x = true) (hx : ∀ n ∈ x.xs, BndZ n) : (lineW x).length ≤ 2 * slen (tkIt x) := by
  obtain ⟨h1, _⟩ := nums_len2 x.xs hx
  unfold rightB at hr
  unfold lineW headW tkIt
  split at hr
  · rename_i hk
    rw [if_pos hk, if_pos hk]
    simp only [slen_append, slen_cons, slen_nil, wT_len, mT_len, List.length_append, List.length_cons, List.length_nil, actorW]
    omega
  · split at hr
    · rename_i h1' hk
      rw [if_neg h1', if_neg h1', if_pos hk, if_pos hk]
      unfold placeW
      by_cases hn : x.xs = []
      · rw [hn] at h1 ⊢
        simp only [slen_append, slen_cons, slen_nil, wT_len, mT_len, nT_len, List.length_append, List.length_cons, List.length_nil, edgeW, if_pos]
        omega
      · rw [if_neg hn, if_neg hn]
        simp only [slen_append, slen_cons, slen_nil, wT_len, mT_len, nT_len, List.length_append, List.length_cons, List.length_nil, edgeW, withW]
        omega
    · split at hr
      · rename_i h1' h2' hk
        rw [if_neg h1', if_neg h1', if_neg h2', if_neg h2', if_pos hk, if_pos hk]
        unfold placeW
        simp only [Bool.and_eq_true] at hr
        have hn : x.xs = [] := by have := hr.1.1.2; simpa using this
        rw [hn]
        simp only [slen_append, slen_cons, slen_nil, wT_len, mT_len, nT_len, List.length_append, List.length_cons, List.length_nil, inW, numsW, List.flatMap_nil]
        omega
      · split at hr
        · rename_i h1' h2' h3' hk
          rw [if_neg h1', if_neg h1', if_neg h2', if_neg h2', if_neg h3', if_neg h3', if_pos hk]
          unfold placeW
          simp only [Bool.and_eq_true] at hr
          have hn : x.xs = [] := by have := hr.1.1.2; simpa using this
          rw [hn]
          simp only [slen_append, slen_cons, slen_nil, wT_len, mT_len, nT_len, List.length_append, List.length_cons, List.length_nil, outW, numsW, List.flatMap_nil]
          omega
        · cases hr
theorem lines_len2 : ∀ l : List SIt, (∀ x ∈ l, rightB x = true ∧ ∀ n ∈ x.xs, BndZ n) → (l.flatMap lineW).length ≤ 2 * slen (l.flatMap tkIt) := by
  intro l
  induction l with
  | nil => intro _; exact Nat.le_refl _
  | cons x l ih =>
    intro h
    have h1 := ih (fun y hy => h y (List.mem_cons_of_mem _ hy))
    obtain ⟨a, b⟩ := h x List.mem_cons_self
    have h2 := line_len2 a b
    simp only [List.flatMap_cons, List.length_append, slen_append]
    omega
theorem item_toks {l : List SIt} {x : SIt} (h : x ∈ l) : (tkIt x).length ≤ (l.flatMap tkIt).length := by
  induction l with
  | nil => cases h
  | cons y l ih =>
    rw [List.flatMap_cons, List.length_append]
    rcases List.mem_cons.1 h with rfl | h
    · omega
    · have := ih h; omega
theorem xs_toks {x : SIt} (hr : rightB x = true) : x.xs.length ≤ (tkIt x).length ∧ 1 ≤ (tkIt x).length := by
  have e : (numsT x.xs).length = x.xs.length := by unfold numsT; simp
  unfold rightB at hr
  unfold tkIt
  split
  · simp only [List.length_append, List.length_cons, List.length_nil]; omega
  · split
    · simp only [List.length_append, List.length_cons, List.length_nil]; omega
    · rename_i h1 h2
      rw [if_neg h1, if_neg h2] at hr
      have hn : x.xs = [] := by
        split at hr
        · simp only [Bool.and_eq_true] at hr; have := hr.1.1.2; simpa using this
        · split at hr
          · simp only [Bool.and_eq_true] at hr; have := hr.1.1.2; simpa using this
          · cases hr
      rw [hn]
      split <;> simp
theorem items_toks : ∀ l : List SIt, (∀ x ∈ l, rightB x = true) → l.length ≤ (l.flatMap tkIt).length := by
  intro l
  induction l with
  | nil => intro _; exact Nat.le_refl _
  | cons x l ih =>
    intro h
    have h1 := ih (fun y hy => h y (List.mem_cons_of_mem _ hy))
    have h2 := (xs_toks (h x List.mem_cons_self)).2
    rw [List.flatMap_cons, List.length_append, List.length_cons]
    omega
/-- What is read: right, of bounded size, and its one form at most twice as long. -/
structure ReadOk (x : LSk) (n : Nat) : Prop where
  nm : nameB x.mem.name = true
  rt : x.mem.items.all rightB = true
  bd : ∀ y ∈ x.mem.items, BndZ y.fp ∧ BndZ y.tp ∧ ∀ m ∈ y.xs, BndZ m
  ln : (printW x.mem).length ≤ 2 * n
  it : x.items.length ≤ n + 1
  xl : ∀ y ∈ x.items, y.xs.length ≤ n + 1
theorem name_len16 {s : List UInt8} (h : nameU s = true) : s.length ≤ 16 := by
  cases s with
  | nil => simp
  | cons c r =>
    simp only [nameU, Bool.and_eq_true, decide_eq_true_iff] at h
    have := h.2.2
    simp only [List.length_cons]; omega
theorem read_ok {s : List UInt8} {x : LSk} (h : parseA s = .ok x) : ReadOk x s.length ∧ s.length ≤ 1048576 := by
  have hlen : s.length ≤ 1048576 := by
    unfold parseA at h
    obtain ⟨⟨l, c, k'⟩, hA⟩ : ∃ r, lexA s = r := ⟨_, rfl⟩
    rw [hA] at h
    simp only at h
    split at h
    · cases h
    · rename_i hc
      rcases lexA_code hA with ⟨_, _, _, e, _⟩ | ⟨⟨e, _⟩ | ⟨e, _⟩, _⟩ <;> omega
  refine ⟨?_, hlen⟩
  unfold parseA at h
  obtain ⟨⟨l, c, k'⟩, hA⟩ : ∃ r, lexA s = r := ⟨_, rfl⟩
  rw [hA] at h
  simp only at h
  split at h
  · cases h
  · rename_i hc
    have hA : lexA s = (l, 0, 0) := by
      rcases lexA_code hA with ⟨rfl, rfl, _⟩ | ⟨⟨e, _⟩ | ⟨e, _⟩, _⟩
      · exact hA
      · omega
      · omega
    split at h
    · rename_i z m hp
      cases h
      have hg := good_of hA
      obtain ⟨⟨k, hsp⟩, hn, hit⟩ := sp_parse hg hp
      have hs1 : slen (tkS x.mem) ≤ s.length := by
        have e := hsp.2
        rw [List.drop_zero] at e
        have := congrArg slen e
        rw [slen_bare0, slen_append] at this
        have h2 := slen_le hA
        omega
      have htl : (tkS x.mem).length ≤ s.length + 1 := by
        have h1 := hsp.le (Nat.zero_le _)
        have h2 := (lexA_count (l := s)).2
        rw [hA] at h2
        simp only at h2
        omega
      have hrt : ∀ y ∈ x.mem.items, rightB y = true ∧ ∀ n ∈ y.xs, BndZ n := by
        intro y hy
        obtain ⟨z, hz, rfl⟩ := List.mem_map.1 hy
        exact ⟨(hit z hz).rt, (hit z hz).xs⟩
      have hfl : (x.mem.items.flatMap tkIt).length ≤ s.length + 1 := by
        unfold tkS at htl
        simp only [List.length_append, List.length_cons, List.length_nil] at htl
        omega
      refine ⟨nameB_arr hn, ?_, ?_, ?_, ?_, ?_⟩
      · rw [List.all_eq_true]; exact fun y hy => (hrt y hy).1
      · intro y hy
        obtain ⟨z, hz, rfl⟩ := List.mem_map.1 hy
        exact ⟨(hit z hz).fp, (hit z hz).tp, (hit z hz).xs⟩
      · have h1 := lines_len2 x.mem.items hrt
        unfold tkS at hs1
        unfold printW
        simp only [slen_append, slen_cons, slen_nil, wT_len, mT_len, graphW, List.length_append, List.length_cons, List.length_nil] at hs1 ⊢
        have h2 : 1 ≤ x.mem.name.data.toList.length := by
          have e : x.mem.name.data.toList = x.name := by unfold LSk.mem; simp
          rw [e]
          cases hx : x.name with
          | nil => rw [hx] at hn; cases hn
          | cons c r => simp
        omega
      · have h1 := items_toks x.mem.items (fun y hy => (hrt y hy).1)
        have e : x.mem.items.length = x.items.length := by unfold LSk.mem; simp
        omega
      · intro y hy
        have hm : IZ y ∈ x.mem.items := List.mem_map.2 ⟨y, hy, rfl⟩
        have h1 := item_toks hm
        have h2 := (xs_toks (hrt _ hm).1).1
        have e : (IZ y).xs = y.xs := rfl
        rw [e] at h2
        omega
    · cases h
theorem ReadOk.bnd {x : LSk} {n : Nat} (h : ReadOk x n) (hn : n ≤ 1048576) : LBnd x := by
  have hsz : ∀ s : ByteArray, nameB s = true → s.data.toList.length ≤ 16 := fun s hs => name_len16 (by rw [← nameB_eq]; exact hs)
  have hem : ∀ s : ByteArray, emptyB s = true → s.data.toList.length ≤ 16 := fun s hs => by rw [emptyB_list0 hs]; simp
  have hba : ∀ (s : ByteArray) (p : Int), bareB s p = true → s.data.toList.length ≤ 16 := fun s p hs => by rw [(bare_zero hs).1]; simp
  refine ⟨?_, ?_, fun y hy => ?_, fun y hy => ?_⟩
  · have := hsz _ h.nm
    have e : x.mem.name.data.toList = x.name := by unfold LSk.mem; simp
    rw [e] at this; omega
  · have := h.it; omega
  · have hm : IZ y ∈ x.mem.items := List.mem_map.2 ⟨y, hy, rfl⟩
    have hr := List.all_eq_true.1 h.rt _ hm
    have hx := h.xl y hy
    have e1 : (IZ y).name.data.toList = y.name := by unfold IZ LIt.mem; simp
    have e2 : (IZ y).tag.data.toList = y.tag := by unfold IZ LIt.mem; simp
    have e3 : (IZ y).fn.data.toList = y.fr.name := by unfold IZ LIt.mem; simp
    have e4 : (IZ y).tn.data.toList = y.to.name := by unfold IZ LIt.mem; simp
    rw [← e1, ← e2, ← e3, ← e4]
    have key : (IZ y).name.data.toList.length ≤ 16 ∧ (IZ y).tag.data.toList.length ≤ 16 ∧ (IZ y).fn.data.toList.length ≤ 16 ∧ (IZ y).tn.data.toList.length ≤ 16 := by
      unfold rightB at hr
      split at hr
      · simp only [Bool.and_eq_true] at hr
        exact ⟨hsz _ hr.1.1.1, hsz _ hr.1.1.2, hba _ _ hr.1.2, hba _ _ hr.2⟩
      · split at hr
        · simp only [Bool.and_eq_true] at hr
          exact ⟨hem _ hr.1.1.1, hem _ hr.1.1.2, hsz _ hr.1.2, hsz _ hr.2⟩
        · split at hr
          · simp only [Bool.and_eq_true] at hr
            exact ⟨hsz _ hr.1.1.1.1, hem _ hr.1.1.1.2, hba _ _ hr.1.2, hsz _ hr.2⟩
          · split at hr
            · simp only [Bool.and_eq_true] at hr
              exact ⟨hsz _ hr.1.1.1.1, hem _ hr.1.1.1.2, hsz _ hr.1.2, hba _ _ hr.2⟩
            · cases hr
    omega
  · have hm : IZ y ∈ x.mem.items := List.mem_map.2 ⟨y, hy, rfl⟩
    obtain ⟨a, b, c⟩ := h.bd _ hm
    exact ⟨a, b, c⟩
end Go.Proofs.YtohalcbhckahmaaDoor
