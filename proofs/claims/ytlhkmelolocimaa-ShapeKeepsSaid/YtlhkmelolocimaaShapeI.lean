/-
  Walks, ninth part: awake.
-/
import Derived.Test.YtlhkmelolocimaaShapeH
namespace Go.Proofs.Ytlhkmelolocimaa
open Go Go.RowKit
set_option linter.all false

theorem SlAt.litN (w : World) (cs : Array Value) (e : TypeId) (n g : Nat) (hg : g = w.heap.size) : SlAt ((w.alloc (.cells cs e)).drewN n) (some ⟨g, 0, none⟩) cs.toList := by
  subst hg
  exact (SlAt.lit w cs e).drewN n

theorem SlAt.litE (w : World) (cs : Array Value) (e : TypeId) (g : Nat) (hg : g = w.heap.size) : SlAt (w.alloc (.cells cs e)) (some ⟨g, 0, none⟩) cs.toList := by
  subst hg
  exact SlAt.lit w cs e

set_option maxRecDepth 100000 in
set_option maxHeartbeats 1000000 in
theorem awake_any (w : World) : Calls Try.prog 14 #[] w fun e w' => e = .returned (.bool true) ∧ New w w' := by
  go_enter Try.func14, Try.ntmps14
  go_wp2_with fail
  refine (shOf_is 4 _ _ [2, 3] _ (0, [3, 3], [6]) (by decide) (SlAt.lit _ _ _) (by simp)).mono ?_
  rintro e w1 ⟨a, ca, b, cb, rfl, oa, ob, hab, n1⟩
  go_wp2_with fail
  refine (shOf_is 10 _ _ [-5, 0] _ (0, [], [1]) (by decide) (SlAt.lit _ _ _) (by simp)).mono ?_
  rintro e w2 ⟨a2, ca2, b2, cb2, rfl, oa2, ob2, hab2, n2⟩
  go_wp2_with fail
  refine (shTag_is _ _ _ tagS_quot).mono ?_
  rintro e w3 ⟨rfl, n3⟩
  have k0 : New w w3 := (((New.refl w).alloc _).trans n1).trans (((New.refl w1).alloc _).trans (n2.trans n3))
  have oa3 := (((oa.new (Keeps.alloc _ _)).new n2).new n3).sl
  have ob3 := (((ob.new (Keeps.alloc _ _)).new n2).new n3).sl
  have ob23 := (ob2.new n3).sl
  clear oa ob oa2 ob2 hab hab2 n1 n2 n3
  go_wp2_with fail
  refine (sameInts_is _ _ _ [3, 3] [3, 3] _ _ _ _ (oa3.new (Keeps.alloc _ _)) (SlAt.lit _ _ _) rfl rfl true (by decide) (by simp)).mono ?_
  rintro e w4 ⟨rfl, n, rfl⟩
  go_wp2_with fail
  refine (sameInts_is _ _ _ [6] [6] _ _ _ _ (((ob3.new (Keeps.alloc _ _)).new (Keeps.alloc _ _)).drewN _) (SlAt.litN _ _ _ _ _ (by simp)) rfl rfl true (by decide) (by simp)).mono ?_
  rintro e w5 ⟨rfl, n5, rfl⟩
  go_wp2_with fail
  refine (sameInts_is _ _ _ [1] [1] _ _ _ _ ((((ob23.new (Keeps.alloc _ _)).new (Keeps.alloc _ _)).drewN _).new (Keeps.alloc _ _)) (SlAt.litE _ _ _ _ (by simp)) rfl rfl true (by decide) (by simp)).mono ?_
  rintro e w6 ⟨rfl, n6, rfl⟩
  go_wp2_with fail
  go_ret
  exact ⟨rfl, ((((k0.alloc _).alloc _).drewN _).alloc _).drewN _⟩

end Go.Proofs.Ytlhkmelolocimaa
