/-
  Layer 9: errors.Is of a fault or a number against a number (after the kit's worked texts).
-/
import Derived.Test.YtnedmonlofbahaaGreatDoorSrcA
import Derived.Lib.IfaceEq
namespace Go.Proofs.YtnedmonlofbahaaGreatDoor
open Go Go.RowKit Go.Joins Go.Extern.Stop Go.Stop Go.Extern
set_option linter.all false

theorem iTyp (v : Value) (w : World) : (ReflectliteType.typeOf #[.iface 31 v]).run Tryz.prog w = .ok (.iface 167 (.agg #[hdl 31])) w := by kernel_rfl
theorem iCmp (w : World) : ((ReflectliteType.method fun t => do Rtype.noPackHeld "Comparable" t; (fun a => Value.bool a.comparable) <$> typeInfo t) #[.agg #[hdl 31]]).run Tryz.prog w = .ok (.bool true) w := by kernel_rfl
theorem iMet (h : Value) (w : World) : (Go.method 390 167 (.agg #[h]) "Comparable").run Tryz.prog w = .ok (210, .agg #[h]) w := by kernel_rfl
theorem iNoIsE (v : Value) (xT : TypeId) (w : World) : (Instr.typeAssert (.iface 31 v) xT 169 true).run Tryz.prog w = .ok (.tuple #[.nilIface, .bool false]) w := run_typeAssert_lacksB Tryz.underlying169 (by kernel_rfl) (by kernel_rfl) v xT w
theorem iNoUnE (v : Value) (xT : TypeId) (w : World) : (Instr.typeAssert (.iface 31 v) xT 172 true).run Tryz.prog w = .ok (.tuple #[.nilIface, .bool false]) w := run_typeAssert_lacksB Tryz.underlying172 (by kernel_rfl) (by kernel_rfl) v xT w
theorem iNoUnsE (v : Value) (xT : TypeId) (w : World) : (Instr.typeAssert (.iface 31 v) xT 174 true).run Tryz.prog w = .ok (.tuple #[.nilIface, .bool false]) w := run_typeAssert_lacksB Tryz.underlying174 (by kernel_rfl) (by kernel_rfl) v xT w
theorem iNoIsF (v : Value) (xT : TypeId) (w : World) : (Instr.typeAssert (.iface 33 v) xT 169 true).run Tryz.prog w = .ok (.tuple #[.nilIface, .bool false]) w := run_typeAssert_lacksB Tryz.underlying169 (by kernel_rfl) (by kernel_rfl) v xT w
theorem iUnF (v : Value) (xT : TypeId) (w : World) : (Instr.typeAssert (.iface 33 v) xT 172 true).run Tryz.prog w = .ok (.tuple #[.iface 33 v, .bool true]) w := run_typeAssert_hasB Tryz.underlying172 (by kernel_rfl) v xT w
theorem iMetU (v : Value) (w : World) : (Go.method 390 33 v "Unwrap").run Tryz.prog w = .ok (203, v) w := by kernel_rfl
theorem iEqE (a b : Int) (w : World) : (binOp .eql 28 (.iface 31 (.int .i64 a)) (.iface 31 (.int .i64 b))).run Tryz.prog w = .ok (.bool (a == b)) w := Lib.run_eql_iface_int w a b Tryz.underlying28 (by kernel_rfl) Tryz.underlying31
theorem iEqF (v : Value) (b : Int) (w : World) : (binOp .eql 28 (.iface 33 v) (.iface 31 (.int .i64 b))).run Tryz.prog w = .ok (.bool false) w := run_eql_iface_types 33 31 v (.int .i64 b) Tryz.underlying28 (by decide) w
set_option maxRecDepth 100000 in
set_option maxHeartbeats 8000000 in
theorem is_E (a b : Int) (w : World) : Calls Tryz.prog 25 #[.iface 31 (I a), .iface 31 (I b)] w fun e w' => e = .returned (.bool (a == b)) ∧ New w w' := by
  have hT := @run_callFunc_extern Tryz.prog 56 _ ReflectliteType.typeOf Tryz.func56 (by kernel_rfl) (by kernel_rfl) (by kernel_rfl) (by kernel_rfl)
  have hC := @run_callFunc_extern Tryz.prog 210 _ (ReflectliteType.method fun t => do Rtype.noPackHeld "Comparable" t; pure (.bool (← typeInfo t).comparable)) Tryz.func210 (by kernel_rfl) (by kernel_rfl) (by kernel_rfl) (by kernel_rfl)
  have tT := iTyp
  have cT := iCmp
  have mC := iMet
  have nE := iNoIsE
  have uE := iNoUnE
  have vE := iNoUnsE
  have q1 := iEqE a b
  cases hab : (a == b) with
  | true =>
    rw [hab] at q1
    go_enter Tryz.func25, Tryz.ntmps25
    go_wp2
    refine wp_loop_rounds 1 ?_
    rw [rounds_succ]
    go_wp2
    go_ret
    exact ⟨rfl, New.refl w⟩
  | false =>
    rw [hab] at q1
    go_enter Tryz.func25, Tryz.ntmps25
    go_wp2
    refine wp_loop_rounds 1 ?_
    rw [rounds_succ]
    go_wp2
    go_ret
    exact ⟨rfl, New.refl w⟩
set_option maxRecDepth 100000 in
set_option maxHeartbeats 8000000 in
theorem is_F (a k b : Int) (w : World) : Calls Tryz.prog 25 #[.iface 33 (.agg #[I a, I k]), .iface 31 (I b)] w fun e w' => e = .returned (.bool (a == b)) ∧ New w w' := by
  have hT := @run_callFunc_extern Tryz.prog 56 _ ReflectliteType.typeOf Tryz.func56 (by kernel_rfl) (by kernel_rfl) (by kernel_rfl) (by kernel_rfl)
  have hC := @run_callFunc_extern Tryz.prog 210 _ (ReflectliteType.method fun t => do Rtype.noPackHeld "Comparable" t; pure (.bool (← typeInfo t).comparable)) Tryz.func210 (by kernel_rfl) (by kernel_rfl) (by kernel_rfl) (by kernel_rfl)
  have tT := iTyp
  have cT := iCmp
  have mC := iMet
  have nE := iNoIsE
  have uE := iNoUnE
  have vE := iNoUnsE
  have nF := iNoIsF
  have uF := iUnF
  have mU := iMetU
  have q0 := iEqF (.agg #[I a, I k]) b
  have q1 := iEqE a b
  cases hab : (a == b) with
  | true =>
    rw [hab] at q1
    go_enter Tryz.func25, Tryz.ntmps25
    go_wp2
    refine wp_loop_rounds 2 ?_
    rw [rounds_succ]
    go_wp2
    rw [rounds_succ]
    go_wp2
    go_ret
    exact ⟨rfl, (New.refl w).alloc _⟩
  | false =>
    rw [hab] at q1
    go_enter Tryz.func25, Tryz.ntmps25
    go_wp2
    refine wp_loop_rounds 2 ?_
    rw [rounds_succ]
    go_wp2
    rw [rounds_succ]
    go_wp2
    go_ret
    exact ⟨rfl, (New.refl w).alloc _⟩
end Go.Proofs.YtnedmonlofbahaaGreatDoor
