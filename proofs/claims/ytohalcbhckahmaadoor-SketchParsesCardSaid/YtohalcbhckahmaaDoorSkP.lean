/-
  Layer 5, plain: what a list of tokens is read as. No program text in sight.
-/
import Derived.Test.YtohalcbhckahmaaDoorLexQ
import Derived.Test.YtohalcbhckahmaaDoorLexJ
namespace Go.Proofs.YtohalcbhckahmaaDoor
open Go
set_option linter.all false

/-- What reading gives: a value and the place of the next token, or the place of the wrong one. -/
inductive PR (α : Type) where
  | good (x : α) (k : Nat)
  | bad (k : Nat)
def PR.bind {α β : Type} (r : PR α) (f : α → Nat → PR β) : PR β := match r with
  | .good x k => f x k
  | .bad k => .bad k
@[simp] theorem PR.bind_good {α β : Type} (x : α) (k : Nat) (f : α → Nat → PR β) : (PR.good x k).bind f = f x k := rfl
@[simp] theorem PR.bind_bad {α β : Type} (k : Nat) (f : α → Nat → PR β) : (PR.bad k : PR α).bind f = .bad k := rfl
theorem PR.bind_assoc {α β γ : Type} (r : PR α) (f : α → Nat → PR β) (g : β → Nat → PR γ) : (r.bind f).bind g = r.bind fun x k => (f x k).bind g := by cases r <;> rfl
theorem PR.bind_inv {α β : Type} {r : PR α} {f : α → Nat → PR β} {y : β} {m : Nat} (h : r.bind f = .good y m) : ∃ x k, r = .good x k ∧ f x k = .good y m := by
  cases r with
  | good x k => exact ⟨x, k, rfl, h⟩
  | bad k => cases h

def takeP (so : Int) (l : List LTok) (k : Nat) : PR LTok := match l[k]? with
  | some t => if t.sort = so then .good t (k + 1) else .bad k
  | none => .bad k
def lookP (so : Int) (b : List UInt8) (l : List LTok) (k : Nat) : Bool := match l[k]? with
  | some t => decide (t.sort = so ∧ t.text = b)
  | none => false
def mustP (so : Int) (b : List UInt8) (l : List LTok) (k : Nat) : PR Unit := if lookP so b l k = true then .good () (k + 1) else .bad k
/-- As many numbers as there are. -/
def numsF : List LTok → List Int
  | [] => []
  | t :: r => if t.sort = 2 then t.num :: numsF r else []
def numsL (l : List LTok) (k : Nat) : List Int := numsF (l.drop k)
def numsP (l : List LTok) (k : Nat) : PR (List Int) := .good (numsL l k) (k + (numsL l k).length)
/-- A place: the name, the port, where it stands. -/
structure LPl where
  name : List UInt8
  port : Int
  at_ : Nat
def placeP (l : List LTok) (k : Nat) : PR LPl := (takeP 1 l k).bind fun t k1 => (mustP 3 [46] l k1).bind fun _ k2 => (takeP 2 l k2).bind fun n k3 => .good ⟨t.text, n.num, t.at_⟩ k3
structure LIt where
  kind : Int
  name : List UInt8
  tag : List UInt8
  xs : List Int
  fr : LPl
  to : LPl
  at_ : Nat
def plZ : LPl := ⟨[], 0, 0⟩
def actorW : List UInt8 := [97, 99, 116, 111, 114]
def edgeW : List UInt8 := [101, 100, 103, 101]
def inW : List UInt8 := [105, 110]
def outW : List UInt8 := [111, 117, 116]
def withW : List UInt8 := [119, 105, 116, 104]
def graphW : List UInt8 := [103, 114, 97, 112, 104]
def actorP (a : Nat) (l : List LTok) (k : Nat) : PR LIt := (takeP 1 l k).bind fun n k1 => (mustP 3 [61] l k1).bind fun _ k2 => (takeP 1 l k2).bind fun g k3 => (numsP l k3).bind fun xs k4 => .good ⟨1, n.text, g.text, xs, plZ, plZ, a⟩ k4
/-- What stands behind an edge's places. -/
def withP (l : List LTok) (k : Nat) : PR (List Int) := if lookP 1 withW l k = true then (takeP 2 l (k + 1)).bind fun n k1 => (numsP l k1).bind fun xs k2 => .good (n.num :: xs) k2 else .good [] k
def edgeP (a : Nat) (l : List LTok) (k : Nat) : PR LIt := (placeP l k).bind fun p k1 => (mustP 3 [45, 62] l k1).bind fun _ k2 => (placeP l k2).bind fun q k3 => (withP l k3).bind fun xs k4 => .good ⟨2, [], [], xs, p, q, a⟩ k4
def inP (a : Nat) (l : List LTok) (k : Nat) : PR LIt := (takeP 1 l k).bind fun n k1 => (mustP 3 [45, 62] l k1).bind fun _ k2 => (placeP l k2).bind fun q k3 => .good ⟨3, n.text, [], [], plZ, q, a⟩ k3
def outP (a : Nat) (l : List LTok) (k : Nat) : PR LIt := (placeP l k).bind fun p k1 => (mustP 3 [45, 62] l k1).bind fun _ k2 => (takeP 1 l k2).bind fun n k3 => .good ⟨4, n.text, [], [], p, plZ, a⟩ k3
def bodyP (l : List LTok) (k : Nat) : PR LIt := match l[k]? with
  | none => .bad k
  | some t => if t.sort = 1 ∧ t.text = actorW then actorP t.at_ l (k + 1) else if t.sort = 1 ∧ t.text = edgeW then edgeP t.at_ l (k + 1) else if t.sort = 1 ∧ t.text = inW then inP t.at_ l (k + 1) else if t.sort = 1 ∧ t.text = outW then outP t.at_ l (k + 1) else .bad k
def itemP (l : List LTok) (k : Nat) : PR LIt := (bodyP l k).bind fun x k1 => (mustP 3 [59] l k1).bind fun _ k2 => .good x k2
def itemsP : Nat → List LTok → Nat → PR (List LIt)
  | 0, _, k => .bad k
  | f + 1, l, k => if lookP 3 [125] l k = true then .good [] k else (itemP l k).bind fun x k1 => (itemsP f l k1).bind fun xs k2 => .good (x :: xs) k2
structure LSk where
  name : List UInt8
  items : List LIt
def parseP (l : List LTok) : PR LSk := (mustP 1 graphW l 0).bind fun _ k1 => (takeP 1 l k1).bind fun n k2 => (mustP 3 [123] l k2).bind fun _ k3 => (itemsP l.length l k3).bind fun xs k4 => (mustP 3 [125] l k4).bind fun _ k5 => (takeP 0 l k5).bind fun _ k6 => .good ⟨n.text, xs⟩ k6
/-- What a text is read as, or the error's number and its place. -/
def parseA (s : List UInt8) : Except (Int × Nat) LSk := match lexA s with
  | (l, c, k) => if c ≠ 0 then .error (c, k) else match parseP l with
    | .good x _ => .ok x
    | .bad j => .error (50, (l[j]?.map LTok.at_).getD 0)

/-- Only the last token ends the text. -/
def Ends (l : List LTok) : Prop := l ≠ [] ∧ ∀ k t, l[k]? = some t → (t.sort ≠ 0 ↔ k + 1 < l.length) ∧ -9223372036854775808 ≤ t.num ∧ t.num ≤ 9223372036854775807 ∧ 0 ≤ t.sort
theorem takeP_inv {so : Int} {l : List LTok} {k m : Nat} {t : LTok} (h : takeP so l k = .good t m) : l[k]? = some t ∧ t.sort = so ∧ m = k + 1 := by
  unfold takeP at h
  split at h
  · rename_i u hu
    split at h
    · rename_i hs; cases h; exact ⟨hu, hs, rfl⟩
    · cases h
  · cases h
theorem takeP_bad {so : Int} {l : List LTok} {k m : Nat} (h : takeP so l k = .bad m) : m = k ∧ ∀ t, l[k]? = some t → t.sort ≠ so := by
  unfold takeP at h
  split at h
  · rename_i u hu
    split at h
    · cases h
    · rename_i hs; cases h; exact ⟨rfl, fun t ht => by rw [hu] at ht; cases ht; exact hs⟩
  · rename_i hn; cases h; exact ⟨rfl, fun t ht => by rw [hn] at ht; cases ht⟩
theorem takeP_some {so : Int} {l : List LTok} {k : Nat} {t : LTok} (h : l[k]? = some t) : takeP so l k = if t.sort = so then .good t (k + 1) else .bad k := by unfold takeP; rw [h]
theorem lookP_some {so : Int} {b : List UInt8} {l : List LTok} {k : Nat} {t : LTok} (h : l[k]? = some t) : lookP so b l k = decide (t.sort = so ∧ t.text = b) := by unfold lookP; rw [h]
theorem lookP_inv {so : Int} {b : List UInt8} {l : List LTok} {k : Nat} (h : lookP so b l k = true) : ∃ t, l[k]? = some t ∧ t.sort = so ∧ t.text = b := by
  unfold lookP at h
  split at h
  · rename_i t ht; exact ⟨t, ht, by simpa using h⟩
  · cases h
theorem mustP_inv {so : Int} {b : List UInt8} {l : List LTok} {k m : Nat} {u : Unit} (h : mustP so b l k = .good u m) : ∃ t, l[k]? = some t ∧ t.sort = so ∧ t.text = b ∧ m = k + 1 := by
  unfold mustP at h
  split at h
  · rename_i hl; cases h; obtain ⟨t, h1, h2, h3⟩ := lookP_inv hl; exact ⟨t, h1, h2, h3, rfl⟩
  · cases h
theorem mustP_bad {so : Int} {b : List UInt8} {l : List LTok} {k m : Nat} (h : mustP so b l k = .bad m) : m = k := by
  unfold mustP at h
  split at h
  · cases h
  · cases h; rfl
theorem numsF_len : ∀ l : List LTok, (numsF l).length ≤ l.length := by
  intro l
  induction l with
  | nil => exact Nat.le_refl _
  | cons t r ih => unfold numsF; split <;> simp <;> omega
theorem numsL_some {l : List LTok} {k : Nat} {t : LTok} (h : l[k]? = some t) : numsL l k = if t.sort = 2 then t.num :: numsL l (k + 1) else [] := by
  obtain ⟨hk, e⟩ := List.getElem?_eq_some_iff.1 h
  unfold numsL
  rw [List.drop_eq_getElem_cons hk, e]; rfl
theorem numsF_get : ∀ (l : List LTok) (i : Nat), i < (numsF l).length → ∃ t, l[i]? = some t ∧ t.sort = 2 ∧ (numsF l)[i]? = some t.num := by
  intro l
  induction l with
  | nil => intro i h; simp [numsF] at h
  | cons t r ih =>
    intro i h
    unfold numsF at h ⊢
    split at h
    · rename_i hs
      rw [if_pos hs]
      cases i with
      | zero => exact ⟨t, rfl, hs, rfl⟩
      | succ i => exact ih i (by simpa using h)
    · simp at h
theorem numsL_get {l : List LTok} {k i : Nat} (h : i < (numsL l k).length) : ∃ t, l[k + i]? = some t ∧ t.sort = 2 ∧ (numsL l k)[i]? = some t.num := by
  obtain ⟨t, h1, h2, h3⟩ := numsF_get _ i h
  rw [List.getElem?_drop] at h1
  exact ⟨t, h1, h2, h3⟩
theorem Ends.next {l : List LTok} (h : Ends l) {k : Nat} {t : LTok} (ht : l[k]? = some t) (hs : t.sort ≠ 0) : k + 1 < l.length := (h.2 k t ht).1.1 hs
theorem Ends.take {l : List LTok} (h : Ends l) {so : Int} {k m : Nat} {t : LTok} (ht : takeP so l k = .good t m) (hs : so ≠ 0) : m < l.length ∧ k < m := by
  obtain ⟨h1, h2, rfl⟩ := takeP_inv ht
  exact ⟨h.next h1 (by omega), by omega⟩
theorem Ends.must {l : List LTok} (h : Ends l) {so : Int} {b : List UInt8} {k m : Nat} {u : Unit} (ht : mustP so b l k = .good u m) (hs : so ≠ 0) : m < l.length ∧ k < m := by
  obtain ⟨t, h1, h2, _, rfl⟩ := mustP_inv ht
  exact ⟨h.next h1 (by omega), by omega⟩
theorem Ends.nums {l : List LTok} (h : Ends l) {k : Nat} (hk : k < l.length) : k + (numsL l k).length < l.length := by
  rcases Nat.eq_zero_or_pos (numsL l k).length with h0 | h0
  · omega
  · obtain ⟨t, h1, h2, _⟩ := numsL_get (l := l) (k := k) (i := (numsL l k).length - 1) (by omega)
    have := h.next h1 (by omega)
    omega
theorem numsP_inv {l : List LTok} {k m : Nat} {xs : List Int} (h : numsP l k = .good xs m) : xs = numsL l k ∧ m = k + (numsL l k).length := by unfold numsP at h; cases h; exact ⟨rfl, rfl⟩
theorem Ends.numsP {l : List LTok} (h : Ends l) {k m : Nat} {xs : List Int} (hk : k < l.length) (hp : numsP l k = .good xs m) : m < l.length ∧ k ≤ m := by
  obtain ⟨_, rfl⟩ := numsP_inv hp
  exact ⟨h.nums hk, by omega⟩
theorem Ends.place {l : List LTok} (h : Ends l) {k m : Nat} {p : LPl} (hp : placeP l k = .good p m) : m < l.length ∧ k < m := by
  unfold placeP at hp
  obtain ⟨t, k1, h1, hp⟩ := PR.bind_inv hp
  obtain ⟨_, k2, h2, hp⟩ := PR.bind_inv hp
  obtain ⟨n, k3, h3, hp⟩ := PR.bind_inv hp
  cases hp
  have a := h.take h1 (by decide)
  have b := h.must h2 (by decide)
  have c := h.take h3 (by decide)
  exact ⟨c.1, by omega⟩
theorem Ends.withP {l : List LTok} (h : Ends l) {k m : Nat} {xs : List Int} (hk : k < l.length) (hp : withP l k = .good xs m) : m < l.length ∧ k ≤ m := by
  unfold Proofs.YtohalcbhckahmaaDoor.withP at hp
  split at hp
  · obtain ⟨n, k1, h1, hp⟩ := PR.bind_inv hp
    obtain ⟨_, k2, h2, hp⟩ := PR.bind_inv hp
    cases hp
    have a := h.take h1 (by decide)
    have b := h.numsP a.1 h2
    exact ⟨b.1, by omega⟩
  · cases hp; exact ⟨hk, Nat.le_refl _⟩
theorem Ends.body {l : List LTok} (h : Ends l) {k m : Nat} {x : LIt} (hp : bodyP l k = .good x m) : m < l.length ∧ k < m := by
  unfold bodyP at hp
  split at hp
  · cases hp
  · rename_i t ht
    split at hp
    · rename_i hs
      unfold actorP at hp
      obtain ⟨n, k1, h1, hp⟩ := PR.bind_inv hp
      obtain ⟨_, k2, h2, hp⟩ := PR.bind_inv hp
      obtain ⟨g, k3, h3, hp⟩ := PR.bind_inv hp
      obtain ⟨xs, k4, h4, hp⟩ := PR.bind_inv hp
      cases hp
      have a := h.take h1 (by decide)
      have b := h.must h2 (by decide)
      have c := h.take h3 (by decide)
      have d := h.numsP c.1 h4
      exact ⟨d.1, by omega⟩
    · split at hp
      · unfold edgeP at hp
        obtain ⟨n, k1, h1, hp⟩ := PR.bind_inv hp
        obtain ⟨_, k2, h2, hp⟩ := PR.bind_inv hp
        obtain ⟨g, k3, h3, hp⟩ := PR.bind_inv hp
        obtain ⟨xs, k4, h4, hp⟩ := PR.bind_inv hp
        cases hp
        have a := h.place h1
        have b := h.must h2 (by decide)
        have c := h.place h3
        have d := h.withP c.1 h4
        exact ⟨d.1, by omega⟩
      · split at hp
        · unfold inP at hp
          obtain ⟨n, k1, h1, hp⟩ := PR.bind_inv hp
          obtain ⟨_, k2, h2, hp⟩ := PR.bind_inv hp
          obtain ⟨g, k3, h3, hp⟩ := PR.bind_inv hp
          cases hp
          have a := h.take h1 (by decide)
          have b := h.must h2 (by decide)
          have c := h.place h3
          exact ⟨c.1, by omega⟩
        · split at hp
          · unfold outP at hp
            obtain ⟨n, k1, h1, hp⟩ := PR.bind_inv hp
            obtain ⟨_, k2, h2, hp⟩ := PR.bind_inv hp
            obtain ⟨g, k3, h3, hp⟩ := PR.bind_inv hp
            cases hp
            have a := h.place h1
            have b := h.must h2 (by decide)
            have c := h.take h3 (by decide)
            exact ⟨c.1, by omega⟩
          · cases hp
theorem Ends.item {l : List LTok} (h : Ends l) {k m : Nat} {x : LIt} (hp : itemP l k = .good x m) : m < l.length ∧ k < m := by
  unfold itemP at hp
  obtain ⟨n, k1, h1, hp⟩ := PR.bind_inv hp
  obtain ⟨_, k2, h2, hp⟩ := PR.bind_inv hp
  cases hp
  have a := h.body h1
  have b := h.must h2 (by decide)
  exact ⟨b.1, by omega⟩
theorem lexA_ends {s : List UInt8} {l : List LTok} (h : lexA s = (l, 0, 0)) : Ends l := by
  have hp := places_plain h
  obtain ⟨h1, _, h3⟩ := hp
  refine ⟨by intro e; subst e; simp at h3, fun k t ht => ?_⟩
  obtain ⟨hk, rfl⟩ := List.getElem?_eq_some_iff.1 ht
  obtain ⟨_, _, _, h4, h5, _⟩ := h1 k hk
  rcases h4 with ⟨e1, e2⟩ | ⟨e1, e2, e3⟩
  · exact ⟨⟨fun h => absurd e2 h, fun h => by omega⟩, h5.1, h5.2, by omega⟩
  · refine ⟨⟨fun _ => by omega, fun _ => e2⟩, h5.1, h5.2, ?_⟩
    unfold LTok.right at e3
    split at e3
    · omega
    · split at e3
      · omega
      · split at e3
        · omega
        · cases e3
end Go.Proofs.YtohalcbhckahmaaDoor
