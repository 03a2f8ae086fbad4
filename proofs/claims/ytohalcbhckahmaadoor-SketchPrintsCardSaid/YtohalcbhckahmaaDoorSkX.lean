/-
  Layer 5, plain: a sketch's tokens are read as that sketch; so is what is printed.
-/
import Derived.Test.YtohalcbhckahmaaDoorSkV
namespace Go.Proofs.YtohalcbhckahmaaDoor
open Go
set_option linter.all false

theorem get_d {l r : List LTok} {k : Nat} {t : LTok} (h : l.drop k = t :: r) : l[k]? = some t ∧ l.drop (k + 1) = r := by
  have h1 : (l.drop k)[0]? = some t := by rw [h]; rfl
  rw [List.getElem?_drop, Nat.add_zero] at h1
  refine ⟨h1, ?_⟩
  have h2 : (l.drop k).drop 1 = r := by rw [h]; rfl
  rw [List.drop_drop] at h2
  exact h2
theorem take_d {l r : List LTok} {k : Nat} {t : LTok} {so : Int} (h : l.drop k = t :: r) (hs : t.sort = so) : takeP so l k = .good t (k + 1) := by
  rw [takeP_some (get_d h).1, if_pos hs]
theorem look_d {l r : List LTok} {k : Nat} {t : LTok} {so : Int} {b : List UInt8} (h : l.drop k = t :: r) : lookP so b l k = decide (t.sort = so ∧ t.text = b) := lookP_some (get_d h).1
theorem must_d {l r : List LTok} {k : Nat} {t : LTok} {so : Int} {b : List UInt8} (h : l.drop k = t :: r) (hs : t.sort = so) (hb : t.text = b) : mustP so b l k = .good () (k + 1) := by
  unfold mustP
  rw [look_d h, if_pos (by simp [hs, hb])]
theorem takeW {l r : List LTok} {k : Nat} {s : List UInt8} (h : l.drop k = wT s :: r) : takeP 1 l k = .good (wT s) (k + 1) := take_d h rfl
theorem takeN {l r : List LTok} {k : Nat} {n : Int} (h : l.drop k = nT n :: r) : takeP 2 l k = .good (nT n) (k + 1) := take_d h rfl
theorem takeE {l r : List LTok} {k : Nat} (h : l.drop k = (⟨0, [], 0, 0⟩ : LTok) :: r) : takeP 0 l k = .good ⟨0, [], 0, 0⟩ (k + 1) := take_d h rfl
theorem mustM {l r : List LTok} {k : Nat} {s : List UInt8} (h : l.drop k = mT s :: r) : mustP 3 s l k = .good () (k + 1) := must_d h rfl rfl
theorem mustW {l r : List LTok} {k : Nat} {s : List UInt8} (h : l.drop k = wT s :: r) : mustP 1 s l k = .good () (k + 1) := must_d h rfl rfl
theorem nums_d {l r : List LTok} {k : Nat} {t : LTok} {xs : List Int} (h : l.drop k = numsT xs ++ t :: r) (ht : t.sort ≠ 2) : numsP l k = .good xs (k + xs.length) ∧ l.drop (k + xs.length) = t :: r := by
  have h1 : ∀ xs : List Int, numsF (numsT xs ++ t :: r) = xs := by
    intro xs
    induction xs with
    | nil => show numsF (t :: r) = []; unfold numsF; rw [if_neg ht]
    | cons x xs ih => show numsF (nT x :: (numsT xs ++ t :: r)) = x :: xs; unfold numsF; rw [if_pos (show (nT x).sort = 2 from rfl), ih]; rfl
  unfold numsP numsL
  rw [h, h1]
  refine ⟨rfl, ?_⟩
  rw [← List.drop_drop, h]
  have : (numsT xs).length = xs.length := by unfold numsT; rw [List.length_map]
  rw [← this, List.drop_left]
theorem place_d {l r : List LTok} {k : Nat} {n : List UInt8} {p : Int} (h : l.drop k = wT n :: mT [46] :: nT p :: r) : placeP l k = .good ⟨n, p, 0⟩ (k + 3) ∧ l.drop (k + 3) = r := by
  obtain ⟨_, h1⟩ := get_d h
  obtain ⟨_, h2⟩ := get_d h1
  obtain ⟨_, h3⟩ := get_d h2
  refine ⟨?_, h3⟩
  unfold placeP
  rw [takeW h, PR.bind_good, mustM h1, PR.bind_good, takeN h2, PR.bind_good]; rfl
def itL (x : SIt) : LIt := ⟨x.kind, x.name.data.toList, x.tag.data.toList, x.xs, ⟨x.fn.data.toList, x.fp, 0⟩, ⟨x.tn.data.toList, x.tp, 0⟩, 0⟩
theorem emptyB_list0 {s : ByteArray} (h : emptyB s = true) : s.data.toList = [] := by
  unfold emptyB at h
  rw [← ByteArray.toList_eq]; simpa using h
theorem bare_zero {n : ByteArray} {p : Int} (h : bareB n p = true) : n.data.toList = [] ∧ p = 0 := by
  unfold bareB at h
  simp only [Bool.and_eq_true] at h
  exact ⟨(emptyB_list0 h.1), by simpa using h.2⟩
theorem item_d {l r : List LTok} {k : Nat} {x : SIt} (hr : rightB x = true) (h : l.drop k = tkIt x ++ r) : itemP l k = .good (itL x) (k + (tkIt x).length) ∧ l.drop (k + (tkIt x).length) = r := by
  have hend : l.drop (k + (tkIt x).length) = r := by rw [← List.drop_drop, h, List.drop_left]
  refine ⟨?_, hend⟩
  clear hend
  obtain ⟨kind, name, tag, sa, sc, xs, fn, fp, fa, tn, tp, ta, at_⟩ := x
  unfold rightB at hr
  simp only at hr
  split at hr
  · rename_i hk; subst hk
    simp only [Bool.and_eq_true] at hr
    obtain ⟨⟨-, hf⟩, ht⟩ := hr
    obtain ⟨f1, rfl⟩ := bare_zero hf
    obtain ⟨t1, rfl⟩ := bare_zero ht
    have h : l.drop k = wT actorW :: wT name.data.toList :: mT [61] :: wT tag.data.toList :: (numsT xs ++ mT [59] :: r) := by rw [h]; unfold tkIt; simp
    obtain ⟨g, h1⟩ := get_d h
    obtain ⟨_, h2⟩ := get_d h1
    obtain ⟨_, h3⟩ := get_d h2
    obtain ⟨_, h4⟩ := get_d h3
    obtain ⟨h5, h6⟩ := nums_d h4 (by decide)
    unfold itemP bodyP
    rw [g]
    simp only
    rw [if_pos ⟨rfl, rfl⟩]
    unfold actorP
    rw [takeW h1, PR.bind_good, mustM h2, PR.bind_good, takeW h3, PR.bind_good, h5, PR.bind_good, PR.bind_good, mustM h6, PR.bind_good]
    unfold itL plZ
    simp only [f1, t1]
    have e : (tkIt ⟨1, name, tag, sa, sc, xs, fn, 0, fa, tn, 0, ta, at_⟩).length = 4 + xs.length + 1 := by unfold tkIt numsT; simp; omega
    rw [e]
    have e2 : k + 1 + 1 + 1 + 1 + xs.length + 1 = k + (4 + xs.length + 1) := by omega
    rw [e2]; rfl
  · split at hr
    · rename_i hk; subst hk
      simp only [Bool.and_eq_true] at hr
      obtain ⟨⟨⟨hn, ht⟩, -⟩, -⟩ := hr
      have n0 := emptyB_list0 hn
      have t0 := emptyB_list0 ht
      have h : l.drop k = wT edgeW :: wT fn.data.toList :: mT [46] :: nT fp :: mT [45, 62] :: wT tn.data.toList :: mT [46] :: nT tp :: ((if xs = [] then [] else [wT withW]) ++ (numsT xs ++ mT [59] :: r)) := by rw [h]; unfold tkIt; simp
      obtain ⟨g, h1⟩ := get_d h
      obtain ⟨p1, h2⟩ := place_d h1
      obtain ⟨_, h3⟩ := get_d h2
      obtain ⟨p3, h4⟩ := place_d h3
      have hw : withP l (k + 1 + 3 + 1 + 3) = .good xs (k + 8 + (if xs = [] then 0 else 1) + xs.length) ∧ l.drop (k + 8 + (if xs = [] then 0 else 1) + xs.length) = mT [59] :: r := by
        by_cases hx : xs = []
        · subst hx
          rw [if_pos rfl] at h4 ⊢
          have h4 : l.drop (k + 1 + 3 + 1 + 3) = mT [59] :: r := h4
          unfold withP
          rw [look_d h4, if_neg (by decide)]
          exact ⟨rfl, h4⟩
        · rw [if_neg hx] at h4 ⊢
          obtain ⟨z, zs, rfl⟩ : ∃ z zs, xs = z :: zs := by
            cases xs with
            | nil => exact absurd rfl hx
            | cons z zs => exact ⟨z, zs, rfl⟩
          have h4 : l.drop (k + 1 + 3 + 1 + 3) = wT withW :: nT z :: (numsT zs ++ mT [59] :: r) := h4
          obtain ⟨_, h5⟩ := get_d h4
          obtain ⟨_, h6⟩ := get_d h5
          obtain ⟨h7, h8⟩ := nums_d h6 (by decide)
          unfold withP
          rw [look_d h4, if_pos (by decide), takeN h5, PR.bind_good, h7, PR.bind_good]
          have e : k + 8 + 1 + (z :: zs).length = k + 1 + 3 + 1 + 3 + 1 + 1 + zs.length := by simp only [List.length_cons]; omega
          rw [e]
          exact ⟨rfl, h8⟩
      unfold itemP bodyP
      rw [g]
      simp only
      rw [if_neg (by decide), if_pos ⟨rfl, rfl⟩]
      unfold edgeP
      rw [p1, PR.bind_good, mustM h2, PR.bind_good, p3, PR.bind_good, hw.1, PR.bind_good, PR.bind_good, mustM hw.2, PR.bind_good]
      unfold itL
      simp only [n0, t0]
      have e : k + 8 + (if xs = [] then 0 else 1) + xs.length + 1 = k + (tkIt ⟨2, name, tag, sa, sc, xs, fn, fp, fa, tn, tp, ta, at_⟩).length := by unfold tkIt numsT; by_cases hx : xs = [] <;> simp [hx] <;> omega
      rw [e]; rfl
    · split at hr
      · rename_i hk; subst hk
        simp only [Bool.and_eq_true] at hr
        obtain ⟨⟨⟨⟨-, ht⟩, hx⟩, hf⟩, -⟩ := hr
        have t0 := emptyB_list0 ht
        have hx : xs = [] := by simpa using hx
        subst hx
        obtain ⟨f1, f2⟩ := bare_zero hf
        have h : l.drop k = wT inW :: wT name.data.toList :: mT [45, 62] :: wT tn.data.toList :: mT [46] :: nT tp :: mT [59] :: r := h
        obtain ⟨g, h1⟩ := get_d h
        obtain ⟨_, h2⟩ := get_d h1
        obtain ⟨_, h3⟩ := get_d h2
        obtain ⟨p3, h4⟩ := place_d h3
        unfold itemP bodyP
        rw [g]
        simp only
        rw [if_neg (by decide), if_neg (by decide), if_pos ⟨rfl, rfl⟩]
        unfold inP
        rw [takeW h1, PR.bind_good, mustM h2, PR.bind_good, p3, PR.bind_good, PR.bind_good, mustM h4, PR.bind_good]
        unfold itL plZ
        simp only [t0, f1, f2]
        rfl
      · split at hr
        · rename_i hk; subst hk
          simp only [Bool.and_eq_true] at hr
          obtain ⟨⟨⟨⟨-, ht⟩, hx⟩, -⟩, hf⟩ := hr
          have t0 := emptyB_list0 ht
          have hx : xs = [] := by simpa using hx
          subst hx
          obtain ⟨f1, f2⟩ := bare_zero hf
          have h : l.drop k = wT outW :: wT fn.data.toList :: mT [46] :: nT fp :: mT [45, 62] :: wT name.data.toList :: mT [59] :: r := h
          obtain ⟨g, h1⟩ := get_d h
          obtain ⟨p1, h2⟩ := place_d h1
          obtain ⟨_, h3⟩ := get_d h2
          obtain ⟨_, h4⟩ := get_d h3
          unfold itemP bodyP
          rw [g]
          simp only
          rw [if_neg (by decide), if_neg (by decide), if_neg (by decide), if_pos ⟨rfl, rfl⟩]
          unfold outP
          rw [p1, PR.bind_good, mustM h2, PR.bind_good, takeW h3, PR.bind_good, PR.bind_good, mustM h4, PR.bind_good]
          unfold itL plZ
          simp only [t0, f1, f2]
          rfl
        · cases hr
theorem items_d {l r : List LTok} : ∀ (its : List SIt) (k f : Nat), its.all rightB = true → its.length < f → l.drop k = its.flatMap tkIt ++ mT [125] :: r → itemsP f l k = .good (its.map itL) (k + (its.flatMap tkIt).length) ∧ l.drop (k + (its.flatMap tkIt).length) = mT [125] :: r := by
  intro its
  induction its with
  | nil =>
    intro k f _ hf h
    obtain ⟨f, rfl⟩ : ∃ f', f = f' + 1 := ⟨f - 1, by simp at hf; omega⟩
    have h : l.drop k = mT [125] :: r := h
    rw [itemsP, look_d h, if_pos (by decide)]
    exact ⟨rfl, h⟩
  | cons x its ih =>
    intro k f hr hf h
    obtain ⟨f, rfl⟩ : ∃ f', f = f' + 1 := ⟨f - 1, by simp at hf; omega⟩
    simp only [List.all_cons, Bool.and_eq_true] at hr
    rw [List.flatMap_cons, List.append_assoc] at h
    have hlk : lookP 3 [125] l k = false := by
      have hh : ∃ t q, tkIt x = t :: q ∧ t.sort = 1 := by
        unfold tkIt
        split
        · exact ⟨_, _, rfl, rfl⟩
        · split
          · exact ⟨_, _, rfl, rfl⟩
          · split
            · exact ⟨_, _, rfl, rfl⟩
            · exact ⟨_, _, rfl, rfl⟩
      obtain ⟨t, q, e, hs⟩ := hh
      rw [e, List.cons_append] at h
      rw [look_d h, hs]; rfl
    obtain ⟨h1, h2⟩ := item_d hr.1 h
    obtain ⟨h3, h4⟩ := ih _ f hr.2 (by simp at hf; omega) h2
    rw [itemsP, if_neg (by rw [hlk]; decide), h1, PR.bind_good, h3, PR.bind_good]
    rw [List.flatMap_cons, List.length_append, ← Nat.add_assoc]
    exact ⟨rfl, h4⟩
def skL (s : Sk) : LSk := ⟨s.name.data.toList, s.items.map itL⟩
def endT : LTok := ⟨0, [], 0, 0⟩
theorem sketch_d (s : Sk) (hr : s.items.all rightB = true) : parseP (tkS s ++ [endT]) = .good (skL s) (tkS s ++ [endT]).length := by
  have h : (tkS s ++ [endT]).drop 0 = wT graphW :: wT s.name.data.toList :: mT [123] :: (s.items.flatMap tkIt ++ mT [125] :: [endT]) := by unfold tkS; simp
  obtain ⟨_, h1⟩ := get_d h
  obtain ⟨_, h2⟩ := get_d h1
  obtain ⟨_, h3⟩ := get_d h2
  have hlen : s.items.length < (tkS s ++ [endT]).length := by
    have : s.items.length ≤ (s.items.flatMap tkIt).length := by
      induction s.items with
      | nil => simp
      | cons x l ih =>
        rw [List.flatMap_cons, List.length_append, List.length_cons]
        have : 1 ≤ (tkIt x).length := by
          unfold tkIt
          split
          · simp
          · split
            · simp
            · split <;> simp
        omega
    unfold tkS
    simp only [List.length_append, List.length_cons, List.length_nil]
    omega
  obtain ⟨h4, h5⟩ := items_d s.items (0 + 1 + 1 + 1) _ hr hlen h3
  obtain ⟨_, h6⟩ := get_d h5
  unfold parseP
  rw [mustW h, PR.bind_good, takeW h1, PR.bind_good, mustM h2, PR.bind_good, h4, PR.bind_good, mustM h5, PR.bind_good, takeE h6, PR.bind_good]
  have e : 0 + 1 + 1 + 1 + (s.items.flatMap tkIt).length + 1 + 1 = (tkS s ++ [endT]).length := by unfold tkS; simp; omega
  rw [e]; rfl
theorem len_bare0 {us ts : List LTok} (h : us.map LTok.bare0 = ts) : us.length = ts.length := by rw [← h, List.length_map]
/-- What is printed is read as the same, but for the places. -/
theorem printed_parse (s : Sk) (hn : nameB s.name = true) (hr : s.items.all rightB = true) (hb : ∀ x ∈ s.items, (-9223372036854775808 ≤ x.fp ∧ x.fp ≤ 9223372036854775807) ∧ (-9223372036854775808 ≤ x.tp ∧ x.tp ≤ 9223372036854775807) ∧ ∀ n ∈ x.xs, -9223372036854775808 ≤ n ∧ n ≤ 9223372036854775807) (hl : (printW s).length ≤ 1048576) : ∃ y, parseA (printW s) = .ok y ∧ y.bare = (skL s).bare := by
  obtain ⟨us, hu, hts⟩ := Lx.sketch s hn hr hb 0
  have hA : lexA (printW s) = (us ++ [⟨0, [], 0, (printW s).length⟩], 0, 0) := by
    unfold lexA; rw [if_neg (by omega), hu]
  have hlen := len_bare0 hts
  have hag : Agree (tkS s).length (tkS s ++ [endT]) (us ++ [⟨0, [], 0, (printW s).length⟩]) := by
    refine ⟨fun i hi => ?_, ⟨0, [], 0, (printW s).length⟩, ?_, .inl rfl⟩
    · have hiu : i < us.length := by omega
      refine ⟨(tkS s)[i], us[i], ?_, ?_, ?_⟩
      · rw [List.getElem?_append_left hi, List.getElem?_eq_getElem hi]
      · rw [List.getElem?_append_left hiu, List.getElem?_eq_getElem hiu]
      · have e : (tkS s)[i] = us[i].bare0 := by
          have h1 : (us.map LTok.bare0)[i]? = (tkS s)[i]? := by rw [hts]
          rw [List.getElem?_map, List.getElem?_eq_getElem hiu, List.getElem?_eq_getElem hi] at h1
          exact (Option.some.inj h1).symm
        rw [e]; exact ⟨rfl, rfl, rfl⟩
    · rw [← hlen, List.getElem?_append_right (Nat.le_refl _)]; simp
  have hs := sketch_d s hr
  have e : (tkS s ++ [endT]).length = (tkS s).length + 1 := by rw [List.length_append]; rfl
  rw [e] at hs
  obtain ⟨y, hy, hyb⟩ := hag.parse_good hs
  refine ⟨y, ?_, hyb.symm⟩
  unfold parseA
  rw [hA]
  simp only
  rw [if_neg (by simp), hy]
end Go.Proofs.YtohalcbhckahmaaDoor
