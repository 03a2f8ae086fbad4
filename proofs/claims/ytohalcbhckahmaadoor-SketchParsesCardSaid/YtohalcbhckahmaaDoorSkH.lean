/-
  Layer 5: what Print writes (plain); the program's bare, right.
-/
import Derived.Test.YtohalcbhckahmaaDoorSkC
import Derived.Test.YtohalcbhckahmaaDoorSkG
import Derived.Test.YtohalcbhckahmaaDoorLexC
import Derived.Test.YtohalcbhckahmaaDoorGrB
import Derived.Deep.DeepCutAuto
import Derived.Deep.CutBlock
namespace Go.Proofs.YtohalcbhckahmaaDoor
open Go Go.RowKit Go.Joins
set_option linter.all false

section
variable {P : Program} {ops : Array Oper} {Q : Exit → Act → World → Prop} {md : Region.Mode} {S : World → Prop} {X : Nat → Bool}
theorem anyX_two (i j : Nat) {fuel : Nat} {l : Array Bool} {a : Act} {w : World} (hr : Region.ready md ops l = [i, j])
    (hi : ∀ oi, ops[i]? = some oi → ∀ K : Act → World → Prop, (∀ a' w', (X i = false → S w') → wpAnyX P md ops Q S X fuel (l.setIfInBounds i true) a' w' → K a' w') → if Region.wanted oi (yielded ops a.tmps) = true then Oper.wp P oi a w K Q else K (a.put oi.dst undef) w)
    (hj : ∀ oi, ops[j]? = some oi → ∀ K : Act → World → Prop, (∀ a' w', (X j = false → S w') → wpAnyX P md ops Q S X fuel (l.setIfInBounds j true) a' w' → K a' w') → if Region.wanted oi (yielded ops a.tmps) = true then Oper.wp P oi a w K Q else K (a.put oi.dst undef) w) :
    wpAnyX P md ops Q S X (fuel + 1) l a w := by
  refine ⟨fun h0 => (by rw [h0] at hr; cases hr), fun k hk => ?_⟩
  obtain ⟨_, o, ho, _⟩ := mem_ready.1 hk
  rw [hr] at hk
  rcases List.mem_cons.1 hk with rfl | hk
  · exact wpOp_step ho (fun K' hK => hi o ho K' (fun a' w' h1 h2 => hK _ _ ⟨h1, h2⟩))
  · obtain rfl := List.mem_singleton.1 hk
    exact wpOp_step ho (fun K' hK => hj o ho K' (fun a' w' h1 h2 => hK _ _ ⟨h1, h2⟩))
end
def placeW (n : ByteArray) (p : Int) : List UInt8 := n.data.toList ++ 46 :: Lib.itoa p
def numsW (xs : List Int) : List UInt8 := xs.flatMap fun n => 32 :: Lib.itoa n
def headW (x : SIt) : List UInt8 :=
  if x.kind = 1 then [32, 32, 97, 99, 116, 111, 114, 32] ++ x.name.data.toList ++ [32, 61, 32] ++ x.tag.data.toList
  else if x.kind = 2 then [32, 32, 101, 100, 103, 101, 32] ++ placeW x.fn x.fp ++ [32, 45, 62, 32] ++ placeW x.tn x.tp ++ (if x.xs = [] then [] else [32, 119, 105, 116, 104])
  else if x.kind = 3 then [32, 32, 105, 110, 32] ++ x.name.data.toList ++ [32, 45, 62, 32] ++ placeW x.tn x.tp
  else if x.kind = 4 then [32, 32, 111, 117, 116, 32] ++ placeW x.fn x.fp ++ [32, 45, 62, 32] ++ x.name.data.toList
  else []
def lineW (x : SIt) : List UInt8 := headW x ++ numsW x.xs ++ [59, 10]
def emptyB (n : ByteArray) : Bool := n.toList.isEmpty
def bareB (n : ByteArray) (p : Int) : Bool := emptyB n && (p == 0)
def rightB (x : SIt) : Bool :=
  if x.kind = 1 then nameB x.name && nameB x.tag && bareB x.fn x.fp && bareB x.tn x.tp
  else if x.kind = 2 then emptyB x.name && emptyB x.tag && nameB x.fn && nameB x.tn
  else if x.kind = 3 then nameB x.name && emptyB x.tag && (x.xs.length == 0) && bareB x.fn x.fp && nameB x.tn
  else if x.kind = 4 then nameB x.name && emptyB x.tag && (x.xs.length == 0) && nameB x.fn && bareB x.tn x.tp
  else false
def printW (s : Sk) : List UInt8 := [103, 114, 97, 112, 104, 32] ++ s.name.data.toList ++ [32, 123, 10] ++ s.items.flatMap lineW ++ [125, 10]
/-- A sketch's one form, or why there is none. -/
def printA (s : Sk) : List UInt8 × Int :=
  if (nameB s.name && s.items.all rightB) = false then ([], 1) else if 1048576 < (printW s).length then ([], 2) else (printW s, 0)
set_option maxRecDepth 100000 in
set_option maxHeartbeats 4000000 in
theorem bare_any (w : World) (n : ByteArray) (p a : Int) : Calls Tryd.prog 67 #[.agg #[.string n, I p, I a]] w fun e w' => e = .returned (.bool (bareB n p)) ∧ New w w' := by
  have nb : New w (w.alloc (.cells #[.string n, I p, I a] 40)) := (New.refl w).alloc _
  obtain ⟨c0, c1, c2, -, hR⟩ := pl_get (pl_blk w (.string n) (I p) (I a))
  unfold bareB emptyB
  cases h1 : n.toList.isEmpty with
  | false =>
    go_enter Tryd.func67, Tryd.ntmps67
    go_wp2_with fail
    go_ret
    exact ⟨rfl, nb⟩
  | true =>
    cases h2 : (p == 0) with
    | false =>
      go_enter Tryd.func67, Tryd.ntmps67
      go_wp2_with fail
      go_ret
      exact ⟨rfl, nb⟩
    | true =>
      go_enter Tryd.func67, Tryd.ntmps67
      go_wp2_with fail
      go_ret
      exact ⟨rfl, nb⟩
structure ISz (x : SIt) : Prop where
  n : x.name.size ≤ 9223372036854775807
  t : x.tag.size ≤ 9223372036854775807
  f : x.fn.size ≤ 9223372036854775807
  o : x.tn.size ≤ 9223372036854775807
set_option maxRecDepth 100000 in
set_option maxHeartbeats 8000000 in
theorem right_any_sk (w : World) (x : SIt) (hz : ISz x) (hl : x.xs.length ≤ 9223372036854775807) : Calls Tryd.prog 40 #[.agg (itA x)] w fun e w' => e = .returned (.bool (rightB x)) ∧ New w w' := by
  obtain ⟨kind, name, tag, sa, sc, xs, fn, fp, fa, tn, tp, ta, at_⟩ := x
  have nb : New w (w.alloc (.cells #[.int .u8 kind, .string name, .string tag, .slice sa xs.length sc, .string fn, I fp, I fa, .string tn, I tp, I ta, I at_] ItT)) := (New.refl w).alloc _
  obtain ⟨⟨c0, c1, c2, c3, c4, c5, c6, c7, c8, c9, c10⟩, -, hX⟩ := it_get (heap_alloc_new w (.cells #[.int .u8 kind, .string name, .string tag, .slice sa xs.length sc, .string fn, I fp, I fa, .string tn, I tp, I ta, I at_] ItT))
  have hnm := fun W => cname_any W name hz.n
  have htg := fun W => cname_any W tag hz.t
  have hfn := fun W => cname_any W fn hz.f
  have htn := fun W => cname_any W tn hz.o
  have hbf := fun W => bare_any W fn fp fa
  have hbt := fun W => bare_any W tn tp ta
  unfold rightB
  simp only [itA]
  clear hz
  generalize nameB name = bn at hnm ⊢
  generalize nameB tag = bt at htg ⊢
  generalize nameB fn = bf at hfn ⊢
  generalize nameB tn = bo at htn ⊢
  generalize bareB fn fp = rf at hbf ⊢
  generalize bareB tn tp = rt at hbt ⊢
  obtain ⟨n, hn⟩ : ∃ n, xs.length = n := ⟨_, rfl⟩
  simp only [hn] at c0 c1 c2 c3 c4 c5 c6 c7 c8 c9 c10 nb hX hl ⊢
  clear hn
  obtain ⟨em, hem⟩ : ∃ b, emptyB name = b := ⟨_, rfl⟩
  obtain ⟨et, het⟩ : ∃ b, emptyB tag = b := ⟨_, rfl⟩
  rw [hem, het]
  unfold emptyB at hem het
  obtain ⟨ez, hez⟩ : ∃ b, ((n : Int) == 0) = b := ⟨_, rfl⟩
  have hez2 : (n == 0) = ez := by rw [← hez]; cases n <;> simp <;> omega
  rw [hez2]
  have HEZ := Lib.hid hez
  have HEM := Lib.hid hem
  have HET := Lib.hid het
  clear hez hez2 hem het
  have HNB := Lib.hid nb
  have hcs := fun W (k : New _ W) => And.intro (New.cell k c0) (And.intro (New.cell k c1) (And.intro (New.cell k c2) (And.intro (New.cell k c3) (And.intro (New.cell k c4) (And.intro (New.cell k c5) (And.intro (New.cell k c6) (And.intro (New.cell k c7) (And.intro (New.cell k c8) (New.cell k c9)))))))))
  have HCS := Lib.hid hcs
  obtain ⟨PO, hPO⟩ : ∃ PO : Ending → World → Prop, PO = fun e w' => e = .returned (.bool (if kind = 1 then bn && bt && rf && rt else if kind = 2 then em && et && bf && bo else if kind = 3 then bn && et && ez && rf && bo else if kind = 4 then bn && et && ez && bf && rt else false)) ∧ New w w' := ⟨_, rfl⟩
  rw [← hPO]
  have HPO := Lib.hid hPO
  clear hPO nb hcs
  go_enter Tryd.func40, Tryd.ntmps40
  go_wp2_with fail
  have hS0 : (fun w' : World => w'.cell? ⟨w.heap.size, 1, none⟩ = some (.string name) ∧ w'.cell? ⟨w.heap.size, 2, none⟩ = some (.string tag)) (w.alloc (.cells #[.int .u8 kind, .string name, .string tag, .slice sa n sc, .string fn, I fp, I fa, .string tn, I tp, I ta, I at_] ItT)).drew := ⟨c1, c2⟩
  refine wp_region_X (fun w' : World => w'.cell? ⟨w.heap.size, 1, none⟩ = some (.string name) ∧ w'.cell? ⟨w.heap.size, 2, none⟩ = some (.string tag)) [] (by kernel_rfl) hS0 ?_
  refine anyX_take 0 (by kernel_rfl) (by kernel_rfl) (by kernel_rfl) (by kernel_rfl) (by kernel_rfl) hS0 ?_
  intro oi ho; simp only [List.getElem?_toArray, List.getElem?_cons_succ, List.getElem?_cons_zero, Option.some.injEq] at ho; subst ho
  refine ⟨?_, fun _ _ _ h => h, Or.inl ⟨by rfl, ?_⟩, ?_⟩; rotate_left 1
  · (intro wS hSw; (try dsimp only at hSw); go_simp; try with_reducible rfl)
  simp only [Act.put, List.setIfInBounds_toArray, List.set_cons_zero, List.set_cons_succ]
  refine anyX_take 1 (by kernel_rfl) (by kernel_rfl) (by kernel_rfl) (by kernel_rfl) (by kernel_rfl) hS0 ?_
  intro oi ho; simp only [List.getElem?_toArray, List.getElem?_cons_succ, List.getElem?_cons_zero, Option.some.injEq] at ho; subst ho
  refine ⟨?_, fun _ _ _ h => h, Or.inl ⟨by rfl, ?_⟩, ?_⟩; rotate_left 1
  · (intro wS hSw; (try dsimp only at hSw); go_simp; try with_reducible rfl)
  simp only [Act.put, List.setIfInBounds_toArray, List.set_cons_zero, List.set_cons_succ]
  refine anyX_take 3 (by kernel_rfl) (by kernel_rfl) (by kernel_rfl) (by kernel_rfl) (by kernel_rfl) hS0 ?_
  intro oi ho; simp only [List.getElem?_toArray, List.getElem?_cons_succ, List.getElem?_cons_zero, Option.some.injEq] at ho; subst ho
  refine ⟨?_, fun _ _ _ h => h, Or.inl ⟨by rfl, ?_⟩, ?_⟩; rotate_left 1
  · (intro wS hSw; (try dsimp only at hSw); go_simp; try with_reducible rfl)
  simp only [Act.put, List.setIfInBounds_toArray, List.set_cons_zero, List.set_cons_succ]
  refine anyX_take 4 (by kernel_rfl) (by kernel_rfl) (by kernel_rfl) (by kernel_rfl) (by kernel_rfl) hS0 ?_
  intro oi ho; simp only [List.getElem?_toArray, List.getElem?_cons_succ, List.getElem?_cons_zero, Option.some.injEq] at ho; subst ho
  refine ⟨?_, fun _ _ _ h => h, Or.inl ⟨by rfl, ?_⟩, ?_⟩; rotate_left 1
  · (intro wS hSw; (try dsimp only at hSw); go_simp; try with_reducible rfl)
  simp only [Act.put, List.setIfInBounds_toArray, List.set_cons_zero, List.set_cons_succ]
  refine anyX_take 5 (by kernel_rfl) (by kernel_rfl) (by kernel_rfl) (by kernel_rfl) (by kernel_rfl) hS0 ?_
  intro oi ho; simp only [List.getElem?_toArray, List.getElem?_cons_succ, List.getElem?_cons_zero, Option.some.injEq] at ho; subst ho
  refine ⟨?_, fun _ _ _ h => h, Or.inl ⟨by rfl, ?_⟩, ?_⟩; rotate_left 1
  · (intro wS hSw; (try dsimp only at hSw); go_simp; try with_reducible rfl)
  simp only [Act.put, List.setIfInBounds_toArray, List.set_cons_zero, List.set_cons_succ]
  refine anyX_one 2 (by kernel_rfl) ?_
  intro oi ho; simp only [List.getElem?_toArray, List.getElem?_cons_succ, List.getElem?_cons_zero, Option.some.injEq] at ho; subst ho; intro K hK
  (try simp only [Act.put, List.setIfInBounds_toArray, List.set_cons_zero, List.set_cons_succ])
  go_simp
  refine (hnm _).mono ?_
  rintro e w1 ⟨rfl, n1⟩
  have n01 : New (w.alloc (.cells #[.int .u8 kind, .string name, .string tag, .slice sa n sc, .string fn, I fp, I fa, .string tn, I tp, I ta, I at_] ItT)) w1 := (New.refl _).drew.trans n1
  have hS1 : (fun w' : World => w'.cell? ⟨w.heap.size, 1, none⟩ = some (.string name) ∧ w'.cell? ⟨w.heap.size, 2, none⟩ = some (.string tag)) w1 := ⟨n01.cell c1, n01.cell c2⟩
  refine hK _ _ (fun _ => hS1) ?_
  clear hK K hS0
  refine anyX_take 6 (by kernel_rfl) (by kernel_rfl) (by kernel_rfl) (by kernel_rfl) (by kernel_rfl) hS1 ?_
  intro oi ho; simp only [List.getElem?_toArray, List.getElem?_cons_succ, List.getElem?_cons_zero, Option.some.injEq] at ho; subst ho
  refine ⟨?_, fun _ _ _ h => h, Or.inl ⟨by rfl, ?_⟩, ?_⟩; rotate_left 1
  · (intro wS hSw; (try dsimp only at hSw); go_simp; try with_reducible rfl)
  simp only [Act.put, List.setIfInBounds_toArray, List.set_cons_zero, List.set_cons_succ]
  refine anyX_take 7 (by kernel_rfl) (by kernel_rfl) (by kernel_rfl) (by kernel_rfl) (by kernel_rfl) hS1 ?_
  intro oi ho; simp only [List.getElem?_toArray, List.getElem?_cons_succ, List.getElem?_cons_zero, Option.some.injEq] at ho; subst ho
  refine ⟨?_, fun _ _ _ h => h, Or.inl ⟨by rfl, ?_⟩, ?_⟩; rotate_left 1
  · (intro wS hSw; (try dsimp only at hSw); go_simp; try with_reducible rfl)
  simp only [Act.put, List.setIfInBounds_toArray, List.set_cons_zero, List.set_cons_succ]
  refine anyX_done (by kernel_rfl) ?_
  (try simp only [Act.put, List.setIfInBounds_toArray, List.set_cons_zero, List.set_cons_succ])
  simp only [Exit.then]
  have HN1 := Lib.hid n01
  clear n1 n01 hS1
  go_wp2_with fail
  have hcs := HCS.out _ HN1.out
  go_cut [5, 6] (fun c d w' => c = .bool bf ∧ d = .bool bo ∧ Hid (New (w.alloc (.cells #[.int .u8 kind, .string name, .string tag, .slice sa n sc, .string fn, I fp, I fa, .string tn, I tp, I ta, I at_] ItT)) w'))
  case first =>
    have f4 := hcs.2.2.2.2.1
    have f7 := hcs.2.2.2.2.2.2.2.1
    clear hcs
    have hS0 : (fun w' : World => w'.cell? ⟨w.heap.size, 4, none⟩ = some (.string fn) ∧ w'.cell? ⟨w.heap.size, 7, none⟩ = some (.string tn)) w1.drew := ⟨f4, f7⟩
    refine wp_region_X (fun w' : World => w'.cell? ⟨w.heap.size, 4, none⟩ = some (.string fn) ∧ w'.cell? ⟨w.heap.size, 7, none⟩ = some (.string tn)) [] (by kernel_rfl) hS0 ?_
    refine anyX_take 0 (by kernel_rfl) (by kernel_rfl) (by kernel_rfl) (by kernel_rfl) (by kernel_rfl) hS0 ?_
    intro oi ho; simp only [List.getElem?_toArray, List.getElem?_cons_succ, List.getElem?_cons_zero, Option.some.injEq] at ho; subst ho
    refine ⟨?_, fun _ _ _ h => h, Or.inl ⟨by rfl, ?_⟩, ?_⟩; rotate_left 1
    · (intro wS hSw; (try dsimp only at hSw); go_simp; try with_reducible rfl)
    simp only [Act.put, List.setIfInBounds_toArray, List.set_cons_zero, List.set_cons_succ]
    refine anyX_take 1 (by kernel_rfl) (by kernel_rfl) (by kernel_rfl) (by kernel_rfl) (by kernel_rfl) hS0 ?_
    intro oi ho; simp only [List.getElem?_toArray, List.getElem?_cons_succ, List.getElem?_cons_zero, Option.some.injEq] at ho; subst ho
    refine ⟨?_, fun _ _ _ h => h, Or.inl ⟨by rfl, ?_⟩, ?_⟩; rotate_left 1
    · (intro wS hSw; (try dsimp only at hSw); go_simp; try with_reducible rfl)
    simp only [Act.put, List.setIfInBounds_toArray, List.set_cons_zero, List.set_cons_succ]
    refine anyX_take 2 (by kernel_rfl) (by kernel_rfl) (by kernel_rfl) (by kernel_rfl) (by kernel_rfl) hS0 ?_
    intro oi ho; simp only [List.getElem?_toArray, List.getElem?_cons_succ, List.getElem?_cons_zero, Option.some.injEq] at ho; subst ho
    refine ⟨?_, fun _ _ _ h => h, Or.inl ⟨by rfl, ?_⟩, ?_⟩; rotate_left 1
    · (intro wS hSw; (try dsimp only at hSw); go_simp; try with_reducible rfl)
    simp only [Act.put, List.setIfInBounds_toArray, List.set_cons_zero, List.set_cons_succ]
    refine anyX_take 4 (by kernel_rfl) (by kernel_rfl) (by kernel_rfl) (by kernel_rfl) (by kernel_rfl) hS0 ?_
    intro oi ho; simp only [List.getElem?_toArray, List.getElem?_cons_succ, List.getElem?_cons_zero, Option.some.injEq] at ho; subst ho
    refine ⟨?_, fun _ _ _ h => h, Or.inl ⟨by rfl, ?_⟩, ?_⟩; rotate_left 1
    · (intro wS hSw; (try dsimp only at hSw); go_simp; try with_reducible rfl)
    simp only [Act.put, List.setIfInBounds_toArray, List.set_cons_zero, List.set_cons_succ]
    refine anyX_take 5 (by kernel_rfl) (by kernel_rfl) (by kernel_rfl) (by kernel_rfl) (by kernel_rfl) hS0 ?_
    intro oi ho; simp only [List.getElem?_toArray, List.getElem?_cons_succ, List.getElem?_cons_zero, Option.some.injEq] at ho; subst ho
    refine ⟨?_, fun _ _ _ h => h, Or.inl ⟨by rfl, ?_⟩, ?_⟩; rotate_left 1
    · (intro wS hSw; (try dsimp only at hSw); go_simp; try with_reducible rfl)
    simp only [Act.put, List.setIfInBounds_toArray, List.set_cons_zero, List.set_cons_succ]
    refine anyX_take 6 (by kernel_rfl) (by kernel_rfl) (by kernel_rfl) (by kernel_rfl) (by kernel_rfl) hS0 ?_
    intro oi ho; simp only [List.getElem?_toArray, List.getElem?_cons_succ, List.getElem?_cons_zero, Option.some.injEq] at ho; subst ho
    refine ⟨?_, fun _ _ _ h => h, Or.inl ⟨by rfl, ?_⟩, ?_⟩; rotate_left 1
    · (intro wS hSw; (try dsimp only at hSw); go_simp; try with_reducible rfl)
    simp only [Act.put, List.setIfInBounds_toArray, List.set_cons_zero, List.set_cons_succ]
    refine anyX_one 3 (by kernel_rfl) ?_
    intro oi ho; simp only [List.getElem?_toArray, List.getElem?_cons_succ, List.getElem?_cons_zero, Option.some.injEq] at ho; subst ho; intro K hK
    (try simp only [Act.put, List.setIfInBounds_toArray, List.set_cons_zero, List.set_cons_succ])
    go_simp
    refine (hfn _).mono ?_
    rintro e w2 ⟨rfl, n2⟩
    have n02 : New w1 w2 := (New.refl _).drew.trans n2
    have hS2 : (fun w' : World => w'.cell? ⟨w.heap.size, 4, none⟩ = some (.string fn) ∧ w'.cell? ⟨w.heap.size, 7, none⟩ = some (.string tn)) w2 := ⟨n02.cell f4, n02.cell f7⟩
    refine hK _ _ (fun _ => hS2) ?_
    clear hK K hS0
    refine anyX_one 7 (by kernel_rfl) ?_
    intro oi ho; simp only [List.getElem?_toArray, List.getElem?_cons_succ, List.getElem?_cons_zero, Option.some.injEq] at ho; subst ho; intro K hK
    (try simp only [Act.put, List.setIfInBounds_toArray, List.set_cons_zero, List.set_cons_succ])
    go_simp
    refine (htn _).mono ?_
    rintro e w3 ⟨rfl, n3⟩
    have n03 : New w1 w3 := n02.trans n3
    have hS3 : (fun w' : World => w'.cell? ⟨w.heap.size, 4, none⟩ = some (.string fn) ∧ w'.cell? ⟨w.heap.size, 7, none⟩ = some (.string tn)) w3 := ⟨n03.cell f4, n03.cell f7⟩
    refine hK _ _ (fun _ => hS3) ?_
    clear hK K hS2
    refine anyX_take 8 (by kernel_rfl) (by kernel_rfl) (by kernel_rfl) (by kernel_rfl) (by kernel_rfl) hS3 ?_
    intro oi ho; simp only [List.getElem?_toArray, List.getElem?_cons_succ, List.getElem?_cons_zero, Option.some.injEq] at ho; subst ho
    refine ⟨?_, fun _ _ _ h => h, Or.inl ⟨by rfl, ?_⟩, ?_⟩; rotate_left 1
    · (intro wS hSw; (try dsimp only at hSw); go_simp; try with_reducible rfl)
    simp only [Act.put, List.setIfInBounds_toArray, List.set_cons_zero, List.set_cons_succ]
    refine anyX_take 9 (by kernel_rfl) (by kernel_rfl) (by kernel_rfl) (by kernel_rfl) (by kernel_rfl) hS3 ?_
    intro oi ho; simp only [List.getElem?_toArray, List.getElem?_cons_succ, List.getElem?_cons_zero, Option.some.injEq] at ho; subst ho
    refine ⟨?_, fun _ _ _ h => h, Or.inl ⟨by rfl, ?_⟩, ?_⟩; rotate_left 1
    · (intro wS hSw; (try dsimp only at hSw); go_simp; try with_reducible rfl)
    simp only [Act.put, List.setIfInBounds_toArray, List.set_cons_zero, List.set_cons_succ]
    refine anyX_done (by kernel_rfl) ?_
    (try simp only [Act.put, List.setIfInBounds_toArray, List.set_cons_zero, List.set_cons_succ])
    (try simp only [Exit.then])
    go_wp2
    go_meet
    case rel => exact ⟨rfl, rfl, Lib.hid (HN1.out.trans n03)⟩
  case rest =>
    clear hcs c0 c1 c2 c3 c4 c5 c6 c7 c8 c9 c10
    obtain ⟨rfl, rfl, HNX⟩ := hcut
    obtain ⟨b0, b1, b2, b3, b4, b5, b6, b7, b8, b9⟩ := HCS.out _ HNX.out
    have hez := HEZ.out
    have hem := HEM.out
    have het := HET.out
    by_cases h1 : kind = 1
    · subst h1
      cases bn with
      | false =>
        go_wp2_with fail
        (try go_ret)
        rw [HPO.out]
        exact ⟨by simp, HNB.out.trans HNX.out⟩
      | true =>
        cases bt with
        | false =>
          go_wp2_with fail
          refine (htg _).mono ?_
          rintro e v1 ⟨rfl, m1⟩
          obtain ⟨-, -, a2, -, a4, a5, a6, a7, a8, a9⟩ := HCS.out _ (HNX.out.trans m1)
          go_wp2_with fail
          (try go_ret)
          rw [HPO.out]
          exact ⟨by simp, HNB.out.trans (HNX.out.trans m1)⟩
        | true =>
          go_wp2_with fail
          refine (htg _).mono ?_
          rintro e v1 ⟨rfl, m1⟩
          obtain ⟨-, -, a2, -, a4, a5, a6, a7, a8, a9⟩ := HCS.out _ (HNX.out.trans m1)
          cases rf with
          | false =>
            go_wp2_with fail
            refine (hbf _).mono ?_
            rintro e v2 ⟨rfl, m2⟩
            obtain ⟨-, -, a2, -, a4, a5, a6, a7, a8, a9⟩ := HCS.out _ ((HNX.out.trans m1).trans m2)
            go_wp2_with fail
            (try go_ret)
            rw [HPO.out]
            exact ⟨by simp, HNB.out.trans ((HNX.out.trans m1).trans m2)⟩
          | true =>
            go_wp2_with fail
            refine (hbf _).mono ?_
            rintro e v2 ⟨rfl, m2⟩
            obtain ⟨-, -, a2, -, a4, a5, a6, a7, a8, a9⟩ := HCS.out _ ((HNX.out.trans m1).trans m2)
            cases rt with
            | false =>
              go_wp2_with fail
              refine (hbt _).mono ?_
              rintro e v3 ⟨rfl, m3⟩
              obtain ⟨-, -, a2, -, a4, a5, a6, a7, a8, a9⟩ := HCS.out _ (((HNX.out.trans m1).trans m2).trans m3)
              go_wp2_with fail
              (try go_ret)
              rw [HPO.out]
              exact ⟨by simp, HNB.out.trans (((HNX.out.trans m1).trans m2).trans m3)⟩
            | true =>
              go_wp2_with fail
              refine (hbt _).mono ?_
              rintro e v3 ⟨rfl, m3⟩
              obtain ⟨-, -, a2, -, a4, a5, a6, a7, a8, a9⟩ := HCS.out _ (((HNX.out.trans m1).trans m2).trans m3)
              go_wp2_with fail
              (try go_ret)
              rw [HPO.out]
              exact ⟨by simp, HNB.out.trans (((HNX.out.trans m1).trans m2).trans m3)⟩
    · have d1 : (kind == 1) = false := by simpa using h1
      by_cases h2 : kind = 2
      · subst h2
        cases em with
        | false =>
          go_wp2_with fail
          (try go_ret)
          rw [HPO.out]
          exact ⟨by simp, HNB.out.trans HNX.out⟩
        | true =>
          cases et with
          | false =>
            go_wp2_with fail
            (try go_ret)
            rw [HPO.out]
            exact ⟨by simp, HNB.out.trans HNX.out⟩
          | true =>
            cases bf with
            | false =>
              go_wp2_with fail
              (try go_ret)
              rw [HPO.out]
              exact ⟨by simp, HNB.out.trans HNX.out⟩
            | true =>
              cases bo with
              | false =>
                go_wp2_with fail
                (try go_ret)
                rw [HPO.out]
                exact ⟨by simp, HNB.out.trans HNX.out⟩
              | true =>
                go_wp2_with fail
                (try go_ret)
                rw [HPO.out]
                exact ⟨by simp, HNB.out.trans HNX.out⟩
      · have d2 : (kind == 2) = false := by simpa using h2
        by_cases h3 : kind = 3
        · subst h3
          cases bn with
          | false =>
            go_wp2_with fail
            (try go_ret)
            rw [HPO.out]
            exact ⟨by simp, HNB.out.trans HNX.out⟩
          | true =>
            cases et with
            | false =>
              go_wp2_with fail
              (try go_ret)
              rw [HPO.out]
              exact ⟨by simp, HNB.out.trans HNX.out⟩
            | true =>
              cases ez with
              | false =>
                go_wp2_with fail
                (try go_ret)
                rw [HPO.out]
                exact ⟨by simp, HNB.out.trans HNX.out⟩
              | true =>
                cases rf with
                | false =>
                  go_wp2_with fail
                  refine (hbf _).mono ?_
                  rintro e v1 ⟨rfl, m1⟩
                  obtain ⟨-, -, a2, -, a4, a5, a6, a7, a8, a9⟩ := HCS.out _ (HNX.out.trans m1)
                  go_wp2_with fail
                  (try go_ret)
                  rw [HPO.out]
                  exact ⟨by simp, HNB.out.trans (HNX.out.trans m1)⟩
                | true =>
                  go_wp2_with fail
                  refine (hbf _).mono ?_
                  rintro e v1 ⟨rfl, m1⟩
                  obtain ⟨-, -, a2, -, a4, a5, a6, a7, a8, a9⟩ := HCS.out _ (HNX.out.trans m1)
                  cases bo with
                  | false =>
                    go_wp2_with fail
                    (try go_ret)
                    rw [HPO.out]
                    exact ⟨by simp, HNB.out.trans (HNX.out.trans m1)⟩
                  | true =>
                    go_wp2_with fail
                    (try go_ret)
                    rw [HPO.out]
                    exact ⟨by simp, HNB.out.trans (HNX.out.trans m1)⟩
        · have d3 : (kind == 3) = false := by simpa using h3
          by_cases h4 : kind = 4
          · subst h4
            cases bn with
            | false =>
              go_wp2_with fail
              (try go_ret)
              rw [HPO.out]
              exact ⟨by simp, HNB.out.trans HNX.out⟩
            | true =>
              cases et with
              | false =>
                go_wp2_with fail
                (try go_ret)
                rw [HPO.out]
                exact ⟨by simp, HNB.out.trans HNX.out⟩
              | true =>
                cases ez with
                | false =>
                  go_wp2_with fail
                  (try go_ret)
                  rw [HPO.out]
                  exact ⟨by simp, HNB.out.trans HNX.out⟩
                | true =>
                  cases bf with
                  | false =>
                    go_wp2_with fail
                    (try go_ret)
                    rw [HPO.out]
                    exact ⟨by simp, HNB.out.trans HNX.out⟩
                  | true =>
                    cases rt with
                    | false =>
                      go_wp2_with fail
                      refine (hbt _).mono ?_
                      rintro e v1 ⟨rfl, m1⟩
                      obtain ⟨-, -, a2, -, a4, a5, a6, a7, a8, a9⟩ := HCS.out _ (HNX.out.trans m1)
                      go_wp2_with fail
                      (try go_ret)
                      rw [HPO.out]
                      exact ⟨by simp, HNB.out.trans (HNX.out.trans m1)⟩
                    | true =>
                      go_wp2_with fail
                      refine (hbt _).mono ?_
                      rintro e v1 ⟨rfl, m1⟩
                      obtain ⟨-, -, a2, -, a4, a5, a6, a7, a8, a9⟩ := HCS.out _ (HNX.out.trans m1)
                      go_wp2_with fail
                      (try go_ret)
                      rw [HPO.out]
                      exact ⟨by simp, HNB.out.trans (HNX.out.trans m1)⟩
          · have d4 : (kind == 4) = false := by simpa using h4
            have HH := Lib.hid (And.intro h1 (And.intro h2 (And.intro h3 h4)))
            clear h1 h2 h3 h4
            go_wp2_with fail
            (try go_ret)
            rw [HPO.out]
            obtain ⟨h1, h2, h3, h4⟩ := HH.out
            exact ⟨by simp [h1, h2, h3, h4], HNB.out.trans HNX.out⟩
end Go.Proofs.YtohalcbhckahmaaDoor
