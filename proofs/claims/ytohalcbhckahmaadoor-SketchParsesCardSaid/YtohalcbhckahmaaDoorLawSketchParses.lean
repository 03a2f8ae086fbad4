/-
  'SketchParses': the law returns true at every input; what it is handed reads afterwards as before; the variables of the library that it reads hold what the program's text lays.
-/
import Derived.Test.YtohalcbhckahmaaDoorSkT
import Derived.Test.YtohalcbhckahmaaDoorSkBd
import Derived.Test.YtohalcbhckahmaaDoorSkAM
import Derived.Test.YtohalcbhckahmaaDoorSkDM
namespace Go.Proofs.YtohalcbhckahmaaDoor.sketchParses
open Go Go.RowKit Go.Joins Go.ChangeShapes Go.WideShapes Go.ChangeAt
open Go.ChangeMaps (open_string shut_string)
set_option linter.all false

def zSk : Sk := ⟨⟨#[]⟩, none, 0, []⟩
/-- What a text is read as, in one form for both ways. -/
def uniR : Except (Int × Nat) LSk → Sk × Int × Nat
  | .ok x => (x.mem, 0, 0)
  | .error (c, k) => (zSk, c, k)
theorem uni_parse (w : World) (s : ByteArray) (he : Env w) (hs : s.size ≤ 9223372036854775807) (T : Sk) (c : Int) (k : Nat) (h : uniR (parseA s.data.toList) = (T, c, k)) :
    Calls Tryd.prog 11 #[.string s] w fun e w' => ∃ t : Sk, t.bare = T.bare ∧ e = .returned (.tuple #[t.v, .agg #[I c, I (k : Int)]]) ∧ SkOwn w' w.heap.size t ∧ New w w' := by
  cases hp : parseA s.data.toList with
  | ok x =>
    rw [hp] at h
    cases h
    refine (skparse_ok w s he hs x hp).mono ?_
    rintro e w' ⟨t, ht, rfl, ho, n⟩
    refine ⟨t, ?_, rfl, ho, n⟩
    rw [ht]
    unfold Sk.bare LSk.mem
    simp only [List.map_map]
    rfl
  | error ck =>
    obtain ⟨c', k'⟩ := ck
    rw [hp] at h
    cases h
    refine (skparse_no w s he hs _ _ hp).mono ?_
    rintro e w' ⟨rfl, n⟩
    exact ⟨zSk, rfl, rfl, ⟨World.ownsRow_nil _ _ _ _, (fun x hx => by cases hx), List.Pairwise.nil⟩, n⟩
theorem uni_rparse (w : World) (s : ByteArray) (hs : s.size ≤ 9223372036854775807) (T : Sk) (c : Int) (k : Nat) (h : uniR (parseA s.data.toList) = (T, c, k)) :
    Calls Tryd.prog 12 #[.string s] w fun e w' => ∃ t : Sk, t.bare = T.bare ∧ e = .returned (.tuple #[t.v, .agg #[I c, I (k : Int)]]) ∧ SkAt w' t ∧ New w w' := by
  refine (rparse_any w s hs).mono ?_
  intro e w' hr
  cases hp : parseA s.data.toList with
  | ok x =>
    rw [hp] at h hr
    cases h
    obtain ⟨t, ht, rfl, ho, n⟩ := hr
    refine ⟨t, ?_, rfl, ho, n⟩
    rw [ht]
    unfold Sk.bare LSk.mem
    simp only [List.map_map]
    rfl
  | error ck =>
    obtain ⟨c', k'⟩ := ck
    rw [hp] at h hr
    cases h
    obtain ⟨rfl, n⟩ := hr
    exact ⟨zSk, rfl, rfl, ⟨SlAt.nil _ _, fun x hx => by cases hx⟩, n⟩
theorem uni_len (s : List UInt8) (T : Sk) (c : Int) (k : Nat) (h : uniR (parseA s) = (T, c, k)) : T.items.length ≤ 1048600 ∧ ∀ x ∈ T.items, x.xs.length ≤ 1048600 := by
  cases hp : parseA s with
  | ok x =>
    rw [hp] at h
    cases h
    obtain ⟨h1, hxl⟩ := read_len hp
    refine ⟨by unfold LSk.mem; simp only [List.length_map]; omega, fun y hy => ?_⟩
    obtain ⟨z, hz, rfl⟩ := List.mem_map.1 hy
    have h2 := hxl z hz
    show z.xs.length ≤ _
    omega
  | error ck =>
    obtain ⟨c', k'⟩ := ck
    rw [hp] at h
    cases h
    exact ⟨by decide, fun y hy => by cases hy⟩
theorem bare_lens {t T : Sk} (h : t.bare = T.bare) (hT : T.items.length ≤ 1048600 ∧ ∀ x ∈ T.items, x.xs.length ≤ 1048600) : t.items.length ≤ 1048600 ∧ ∀ x ∈ t.items, x.xs.length ≤ 1048600 := by
  have h2 : t.items.map SIt.bare = T.items.map SIt.bare := congrArg Sk.items h
  refine ⟨by rw [map_len h2]; exact hT.1, fun x hx => ?_⟩
  have hm : x.bare ∈ T.items.map SIt.bare := h2 ▸ List.mem_map_of_mem hx
  obtain ⟨y, hy, he⟩ := List.mem_map.1 hm
  have e3 : y.xs = x.xs := by have := congrArg SIt.xs he; exact this
  rw [← e3]; exact hT.2 y hy
set_option maxRecDepth 100000 in
set_option maxHeartbeats 4000000 in
theorem walk (w : World) (he : Env w) (a0 : ByteArray) (h0 : a0.size ≤ 140737488351232) :
    Calls Tryd.prog 3 #[.string a0] w fun e w' => e = .returned (.bool true) ∧ New w w' := by
  have hs : a0.size ≤ 9223372036854775807 := by omega
  obtain ⟨⟨T, c, k⟩, hu⟩ : ∃ r, uniR (parseA a0.data.toList) = r := ⟨_, rfl⟩
  have hp := fun W e => uni_parse W a0 e hs T c k hu
  have hr := fun W => uni_rparse W a0 hs T c k hu
  have hlen := uni_len _ T c k hu
  have HLEN := Lib.hid hlen
  have hh1 := hp w he
  clear hu hlen
  go_enter Tryd.func3, Tryd.ntmps3
  go_wp2_with fail
  refine (hh1).mono ?_
  rintro e w1 ⟨w1t, w1ht, rfl, w1own, kw1⟩
  have LNw1 := Lib.hid (bare_lens w1ht HLEN.out)
  obtain ⟨w1nm, w1ia, w1ic, w1it⟩ := w1t
  have mw1 : New w1 ((w1.alloc (.cells #[.string w1nm, .slice w1ia w1it.length w1ic] 24)).alloc (.cells #[I c, I (k : Int)] 27)) := ((New.refl _).alloc _).alloc _
  have hSw1 : ((w1.alloc (.cells #[.string w1nm, .slice w1ia w1it.length w1ic] 24)).alloc (.cells #[I c, I (k : Int)] 27)).heap[w1.heap.size]? = some (.cells #[.string w1nm, .slice w1ia w1it.length w1ic] 24 (0, 0)) := Keeps.heap (Keeps.alloc (S := fun _ => False) _ _) (heap_alloc_new w1 _) (fun h => h)
  have hFw1 : ((w1.alloc (.cells #[.string w1nm, .slice w1ia w1it.length w1ic] 24)).alloc (.cells #[I c, I (k : Int)] 27)).heap[w1.heap.size + 1]? = some (.cells #[I c, I (k : Int)] 27 (0, 0)) := by
    have := heap_alloc_new (w1.alloc (.cells #[.string w1nm, .slice w1ia w1it.length w1ic] 24)) (.cells #[I c, I (k : Int)] 27)
    simpa using this
  obtain ⟨w1s0, w1s1, -, -, w1sl⟩ := sk_get hSw1
  obtain ⟨w1f0, w1f1, -, -, w1fl⟩ := sk_get hFw1
  have N1 := Lib.hid ((kw1.trans mw1))
  have Dw1 := Lib.hid (kw1.trans mw1)
  have Uw1 := Lib.hid w1own
  have Mw1 := Lib.hid mw1
  have Tw1 := Lib.hid w1ht
  have hv : Sk.v ⟨w1nm, w1ia, w1ic, w1it⟩ = .agg #[.string w1nm, .slice w1ia w1it.length w1ic] := rfl
  rw [hv]
  clear hv hSw1 hFw1 kw1 mw1 w1own w1ht
  have hh2 := hp _ (he.new N1.out)
  clear hh1 hp
  go_wp2_with fail
  refine (hh2).mono ?_
  rintro e w2 ⟨w2t, w2ht, rfl, w2own, kw2⟩
  have LNw2 := Lib.hid (bare_lens w2ht HLEN.out)
  obtain ⟨w2nm, w2ia, w2ic, w2it⟩ := w2t
  have mw2 : New w2 ((w2.alloc (.cells #[.string w2nm, .slice w2ia w2it.length w2ic] 24)).alloc (.cells #[I c, I (k : Int)] 27)) := ((New.refl _).alloc _).alloc _
  have hSw2 : ((w2.alloc (.cells #[.string w2nm, .slice w2ia w2it.length w2ic] 24)).alloc (.cells #[I c, I (k : Int)] 27)).heap[w2.heap.size]? = some (.cells #[.string w2nm, .slice w2ia w2it.length w2ic] 24 (0, 0)) := Keeps.heap (Keeps.alloc (S := fun _ => False) _ _) (heap_alloc_new w2 _) (fun h => h)
  have hFw2 : ((w2.alloc (.cells #[.string w2nm, .slice w2ia w2it.length w2ic] 24)).alloc (.cells #[I c, I (k : Int)] 27)).heap[w2.heap.size + 1]? = some (.cells #[I c, I (k : Int)] 27 (0, 0)) := by
    have := heap_alloc_new (w2.alloc (.cells #[.string w2nm, .slice w2ia w2it.length w2ic] 24)) (.cells #[I c, I (k : Int)] 27)
    simpa using this
  obtain ⟨w2s0, w2s1, -, -, w2sl⟩ := sk_get hSw2
  obtain ⟨w2f0, w2f1, -, -, w2fl⟩ := sk_get hFw2
  have N2 := Lib.hid (N1.out.trans (kw2.trans mw2))
  have Dw2 := Lib.hid (kw2.trans mw2)
  have Uw2 := Lib.hid w2own
  have Mw2 := Lib.hid mw2
  have Tw2 := Lib.hid w2ht
  have hv : Sk.v ⟨w2nm, w2ia, w2ic, w2it⟩ = .agg #[.string w2nm, .slice w2ia w2it.length w2ic] := rfl
  rw [hv]
  clear hv hSw2 hFw2 kw2 mw2 w2own w2ht
  have a0' := New.cell Dw2.out w1s0
  have a1' := New.cell Dw2.out w1s1
  have b0' := New.cell Dw2.out w1f0
  have b1' := New.cell Dw2.out w1f1
  clear hh2 w1s0 w1s1 w1sl w1f0 w1f1 w1fl
  have hb1 := World.block_lt_of_cell? _ _ a0'
  have hb2 := World.block_lt_of_cell? _ _ b0'
  go_wp2_with fail
  refine (hr _).mono ?_
  rintro e w3 ⟨w3t, w3ht, rfl, w3own, kw3⟩
  have LNw3 := Lib.hid (bare_lens w3ht HLEN.out)
  obtain ⟨w3nm, w3ia, w3ic, w3it⟩ := w3t
  have mw3 : New w3 ((w3.alloc (.cells #[.string w3nm, .slice w3ia w3it.length w3ic] 24)).alloc (.cells #[I c, I (k : Int)] 27)) := ((New.refl _).alloc _).alloc _
  have hSw3 : ((w3.alloc (.cells #[.string w3nm, .slice w3ia w3it.length w3ic] 24)).alloc (.cells #[I c, I (k : Int)] 27)).heap[w3.heap.size]? = some (.cells #[.string w3nm, .slice w3ia w3it.length w3ic] 24 (0, 0)) := Keeps.heap (Keeps.alloc (S := fun _ => False) _ _) (heap_alloc_new w3 _) (fun h => h)
  have hFw3 : ((w3.alloc (.cells #[.string w3nm, .slice w3ia w3it.length w3ic] 24)).alloc (.cells #[I c, I (k : Int)] 27)).heap[w3.heap.size + 1]? = some (.cells #[I c, I (k : Int)] 27 (0, 0)) := by
    have := heap_alloc_new (w3.alloc (.cells #[.string w3nm, .slice w3ia w3it.length w3ic] 24)) (.cells #[I c, I (k : Int)] 27)
    simpa using this
  obtain ⟨w3s0, w3s1, -, -, w3sl⟩ := sk_get hSw3
  obtain ⟨w3f0, w3f1, -, -, w3fl⟩ := sk_get hFw3
  have N3 := Lib.hid (N2.out.trans (kw3.trans mw3))
  have Dw3 := Lib.hid (kw3.trans mw3)
  have Uw3 := Lib.hid w3own
  have Mw3 := Lib.hid mw3
  have Tw3 := Lib.hid w3ht
  have hv : Sk.v ⟨w3nm, w3ia, w3ic, w3it⟩ = .agg #[.string w3nm, .slice w3ia w3it.length w3ic] := rfl
  rw [hv]
  clear hv hSw3 hFw3 kw3 mw3 w3own w3ht
  have A0 := New.cell Dw3.out a0'
  have A1 := New.cell Dw3.out a1'
  have B0 := New.cell Dw3.out b0'
  have B1 := New.cell Dw3.out b1'
  have C0 := New.cell Dw3.out w2s0
  have C1 := New.cell Dw3.out w2s1
  have E0 := New.cell Dw3.out w2f0
  have E1 := New.cell Dw3.out w2f1
  have hc1 := World.block_lt_of_cell? _ _ A0
  have hc2 := World.block_lt_of_cell? _ _ B0
  have hc3 := World.block_lt_of_cell? _ _ C0
  have hc4 := World.block_lt_of_cell? _ _ E0
  go_upto_region 4 with (fail)
  obtain ⟨WX, hWX⟩ : ∃ x, x = ((w3.alloc (.cells #[.string w3nm, .slice w3ia w3it.length w3ic] 24)).alloc (.cells #[I c, I (k : Int)] 27)) := ⟨_, rfl⟩
  have hn3 : w3.heap.size + 1 < WX.heap.size := by rw [hWX]; simp
  rw [← hWX] at N3 Dw3 Mw3 A0 A1 B0 B1 C0 C1 E0 E1 hc1 hc2 hc3 hc4 w3s0 w3s1 w3sl w3f0 w3f1 w3fl ⊢
  clear hWX
  have hk1 : New w1 WX := (Mw1.out.trans Dw2.out).trans Dw3.out
  have hk2 : New w2 WX := Mw2.out.trans Dw3.out
  have O1 := Lib.hid (Uw1.out.new hk1)
  have O2 := Lib.hid (Uw2.out.new hk2)
  have O3 := Lib.hid (Uw3.out.new Mw3.out)
  have hsA := fun W (n : New WX W) => same_yes W ⟨w1nm, w1ia, w1ic, w1it⟩ ⟨w3nm, w3ia, w3ic, w3it⟩ (O1.out.at.new n) (O3.out.new n) (Tw1.out.trans Tw3.out.symm) (Nat.le_trans LNw1.out.1 (by decide)) (fun x hx => Nat.le_trans (LNw1.out.2 x hx) (by decide))
  have hsB := fun W (n : New WX W) => same_yes W ⟨w2nm, w2ia, w2ic, w2it⟩ ⟨w3nm, w3ia, w3ic, w3it⟩ (O2.out.at.new n) (O3.out.new n) (Tw2.out.trans Tw3.out.symm) (Nat.le_trans LNw2.out.1 (by decide)) (fun x hx => Nat.le_trans (LNw2.out.2 x hx) (by decide))
  have hv1 : Sk.v ⟨w1nm, w1ia, w1ic, w1it⟩ = .agg #[.string w1nm, .slice w1ia w1it.length w1ic] := rfl
  have hv2 : Sk.v ⟨w2nm, w2ia, w2ic, w2it⟩ = .agg #[.string w2nm, .slice w2ia w2it.length w2ic] := rfl
  have hv3 : Sk.v ⟨w3nm, w3ia, w3ic, w3it⟩ = .agg #[.string w3nm, .slice w3ia w3it.length w3ic] := rfl
  rw [hv1, hv3] at hsA
  rw [hv2, hv3] at hsB
  clear hr a0' a1' b0' b1' w2s0 w2s1 w2sl w2f0 w2f1 w2fl hb1 hb2 hk1 hk2
  go_wp2_with fail
  refine (hsA _ (New.refl _)).mono ?_
  rintro e w4 ⟨rfl, n4⟩
  have A0' := New.cell n4 A0
  have A1' := New.cell n4 A1
  have C0' := New.cell n4 C0
  have C1' := New.cell n4 C1
  have G0' := New.cell n4 w3s0
  have G1' := New.cell n4 w3s1
  have hd1 := World.block_lt_of_cell? _ _ A0'
  have hd2 := World.block_lt_of_cell? _ _ C0'
  have hd3 := World.block_lt_of_cell? _ _ G0'
  have hsB' := hsB w4 n4
  have N4 := Lib.hid n4
  clear hsA hsB A0 A1 B0 B1 C0 C1 E0 E1 hc1 hc2 hc3 hc4 w3s0 w3s1 w3sl w3f0 w3f1 w3fl hn3 n4
  go_wp2_with fail
  refine hsB'.mono ?_
  rintro e w5 ⟨rfl, n5⟩
  have A0 := New.cell n5 A0'
  have A1 := New.cell n5 A1'
  have C0 := New.cell n5 C0'
  have C1 := New.cell n5 C1'
  have hc1 := World.block_lt_of_cell? _ _ A0
  have hc2 := World.block_lt_of_cell? _ _ C0
  have N5 := Lib.hid (N4.out.trans n5)
  have haw := awake_sk _ (he.new (N3.out.trans N5.out))
  clear hsB' A0' A1' C0' C1' G0' G1' hd1 hd2 hd3 n5
  go_wp2_with fail
  refine haw.mono ?_
  rintro e w6 ⟨rfl, n6⟩
  have A0' := New.cell n6 A0
  have A1' := New.cell n6 A1
  have C0' := New.cell n6 C0
  have C1' := New.cell n6 C1
  have hd1 := World.block_lt_of_cell? _ _ A0'
  have hd2 := World.block_lt_of_cell? _ _ C0'
  have N6 := Lib.hid (N5.out.trans n6)
  have hlo : ∀ {a : Option Addr} {n c : Nat} {e : TypeId} {sz : Nat} {xs : List Value}, w1.ownsRow w.heap.size e sz (.slice a n c) n xs → ∀ k, blk a k → k < w1.heap.size := fun h k hk => (own_of_blk h hk).2
  have hap := apartS_any w w6 ⟨w1nm, w1ia, w1ic, w1it⟩ ⟨w2nm, w2ia, w2ic, w2it⟩ (O1.out.new N6.out) ((O2.out.new N6.out).base (by have := N1.out.size; exact this)) (N3.out.trans N6.out)
    (fun k h1 h2 => by have a := (own_of_blk Uw1.out.io h1).2; have b := (own_of_blk Uw2.out.io h2).1; have c := Mw1.out.size; omega)
    (fun x hx y hy k h1 h2 => by have a := (own_of_blk (Uw1.out.nx x hx) h1).2; have b := (own_of_blk (Uw2.out.nx y hy) h2).1; have c := Mw1.out.size; omega)
    LNw1.out.1 LNw2.out.1 LNw1.out.2 LNw2.out.2
  have hv1' : Sk.v ⟨w1nm, w1ia, w1ic, w1it⟩ = .agg #[.string w1nm, .slice w1ia w1it.length w1ic] := rfl
  have hv2' : Sk.v ⟨w2nm, w2ia, w2ic, w2it⟩ = .agg #[.string w2nm, .slice w2ia w2it.length w2ic] := rfl
  rw [hv1', hv2'] at hap
  clear hv1' hv2' hlo haw A0 A1 C0 C1 hc1 hc2 n6
  go_wp2_with fail
  refine hap.mono ?_
  rintro e w7 ⟨rfl, n7⟩
  go_wp2_with fail
  (try go_ret)
  exact ⟨rfl, n7⟩

set_option maxRecDepth 100000 in
theorem contract (H : Type) (enc : TypeId × Value → H) (W : World) (base : Nat) (args : Array Value) (ds gs : List (DataW H)) (before : List MemPlace)
    (hval0 : ∀ (j : Nat) t v, Tryd.f3.params[j]? = some t → args[j]? = some v → Value.okWide Tryd.prog W .any base t v)
    (hW : DataW.Whole enc Tryd.prog Tryd.f3.params.toList Rows.sketchParsesSpec.vars false W args.toList ds gs before)
    (hsz0 : (DataW.weightsEach Tryd.prog (Tryd.f3.params.toList ++ Rows.sketchParsesSpec.plain.varTypes Tryd.prog) (ds ++ gs)).all (· ≤ reachBytes) = true) (hL : laidMetH Tryd.prog Rows.sketchParsesRow.laid W) :
    Calls Tryd.prog 3 args W fun e W' => ∃ v, e = .returned v ∧ Rows.sketchParsesSpec.post enc Tryd.prog Tryd.f3 false true false false W args v W' := by
  have hval := hval0
  have hsz := hsz0
  clear hsz0
  have hW' := hW
  have he : Env W := env_of (by exact hL)
  obtain ⟨p, q, hA0, hV, rfl, hfz, hnd⟩ := hW
  have hA : DataW.TrodAll enc Tryd.prog W 0 (fun _ => true) true Tryd.f3.params.toList args.toList ds p := hA0
  rw [Tryd.params3] at hA hval hsz
  obtain ⟨v0, vs0, d0, ds0, p0, q0, hargs, rfl, rfl, h0, r0'⟩ := trodAll_cons hA
  obtain ⟨rfl, rfl, rfl⟩ := trodAll_nil r0'
  obtain rfl : args = #[v0] := by cases args; simp_all
  obtain ⟨rfl, rfl⟩ := trodVars_none hV
  have k0 := h0
  have lt0 : ∀ x ∈ p0, x.block < W.heap.size := by obtain ⟨m, hm⟩ := k0; exact DataW.trod_lt m _ _ _ hm
  obtain ⟨a0, rfl, e0, _, w0⟩ := open_string Tryd.underlying9 (hval 0 9 v0 rfl rfl) h0
  have s0 : a0.size ≤ 140737488351232 := by
    have hh := sized_string hsz (j := 0) (t := 9) (bytes := a0.data.toList) rfl (by rw [e0]; rfl)
    have hr : reachBytes = 140737488351232 := rfl
    rw [hr, Array.length_toList] at hh
    exact hh
  clear hA0 hval0
  refine (walk W he a0 s0).mono fun e W' ⟨he, hnew⟩ => ?_
  have bel := hnew.below
  subst he
  exact ⟨_, rfl, _, _, _, [], _, [], hW', trodAll_mk1 (shut_bool Tryd.underlying4 _), (trodAll_cons_mk (Below.trod laidOut (by kernel_rfl) (of_decide_eq_true (by kernel_rfl)) k0 bel lt0) trodAll_mk0), rfl, bel.frame _, fun h => by cases h⟩

theorem reads (os : Os) {H : Type} (enc : TypeId × Value → H) : ∃ places, DataW.whole enc Tryd.prog ((laidWorld os).forCall (fun _ _ => 0) ⟨#[], #[.string ByteArray.empty], []⟩).memory Tryd.f3.params.toList Rows.sketchParsesSpec.vars false #[.string ByteArray.empty].toList 8 = some ([.lit (.string [])], [], places) :=
  ⟨[], by kernel_rfl⟩

set_option maxRecDepth 100000 in
theorem lifted (os : Os) (started : os.Started) (H : Type) (enc : TypeId × Value → H) (F : Stop.Interp) :
    ReturnsInHanded {} Tryd.checked os 3 .any ((OpenSpec.ofChange Rows.sketchParsesSpec).preRow enc Tryd.prog Tryd.f3 Rows.sketchParsesRow.domain false Rows.sketchParsesRow.laid) (((OpenSpec.ofChange Rows.sketchParsesSpec).at F).post enc Tryd.prog Tryd.f3 false true false false) := by
  obtain ⟨places, hx⟩ := reads os enc
  refine returnsInHanded_of_row (C := Tryd.checked) (s := OpenSpec.ofChange Rows.sketchParsesSpec) own started (by kernel_rfl) Tryd.func3
    (witness_row_at (enc := enc) (C := Tryd.checked) false (laidWorld os) #[.string ByteArray.empty] rfl (by kernel_rfl) (by kernel_rfl) (by kernel_rfl)
      (OpenSpec.preRow_of_cond 8 hx (by kernel_rfl) (fun k hk => by cases hk) (by kernel_rfl) (laid_met os _))) ?_
  intro W base args ds gs before hval hW _ _ hsz hL _ _
  exact contract H enc W base args ds gs before hval hW hsz hL

theorem said : Rows.SketchParsesSaid :=
  OpenClaim.holds_of_cond 3 Tryd.f3 rfl rfl rfl rfl rfl rfl rfl ⟨rfl, rfl, rfl, rfl, rfl⟩ rfl rfl rfl rfl rfl (by kernel_rfl) Tryd.func3 (by kernel_rfl)
    (of_decide_eq_true (by kernel_rfl)) (by unfold Func.isWrapper; first | (rw [if_pos (by decide +kernel)]; kernel_rfl) | (rw [if_neg (by decide +kernel)]; exact ⟨rfl, rfl⟩))
    (fun os started H enc _ F => by rw [OpenClaim.pre_eq_preRow]; exact lifted os started H enc F)

theorem plain (f : FuncId) (fn : Func) (hf : Tryd.pinned.checked.prog.funcNamed "pianola/pianolalaw05.SketchParses" = some f) (hfn : Tryd.pinned.checked.prog.funcs[f]? = some fn) :
    true = Tryd.pinned.checked.prog.looks [] ∧ ∀ (j : Nat) t, fn.params[j]? = some t → Tryd.pinned.checked.prog.wantsStandIn t = false := by
  obtain rfl : f = 3 := Option.some.inj ((show Tryd.prog.funcNamed "pianola/pianolalaw05.SketchParses" = some 3 by kernel_rfl).symm.trans hf) |>.symm
  obtain rfl : fn = Tryd.f3 := (Option.some.inj (Tryd.func3.symm.trans hfn)).symm
  refine ⟨by kernel_rfl, fun j t ht => ?_⟩
  rw [Tryd.params3] at ht
  have hm := Array.mem_of_getElem? ht
  have : t = 9 := by
    simpa [or_assoc] using hm
  rcases this with rfl
  · exact (show Tryd.prog.wantsStandIn 9 = false by kernel_rfl)

/-- THE CARD. -/
theorem proved : Rows.SketchParsesCardSaid :=
  Claim7.holds_tied_plain_at .later [] _ _ _ _ said (fun _ h => by cases h) (by kernel_rfl) (fun _ h => by cases h) sketchParses_row_tie rfl ⟨rfl, rfl⟩ (by kernel_rfl) rfl plain (by kernel_rfl)
end Go.Proofs.YtohalcbhckahmaaDoor.sketchParses
