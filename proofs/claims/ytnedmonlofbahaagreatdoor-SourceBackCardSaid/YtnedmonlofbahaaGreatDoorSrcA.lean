/-
  Layer 9: errors.As at an error of the target's own type (after the kit's worked proof on errors.As).
-/
import Derived.Test.YtnedmonlofbahaaGreatDoorBs
import Derived.WalkKit
import Derived.LaidEql
import Derived.Stop.Asserts
import Derived.RowKitTokens
import Derived.Deep.MidRow
namespace Go.Proofs.YtnedmonlofbahaaGreatDoor
open Go Go.RowKit Go.Joins Go.Extern.Stop Go.Stop Go.Extern
set_option linter.all false

abbrev hdl (t : Nat) : Value := .pointer (some ⟨6, t, none⟩)
theorem rlm (z : Sem Value) (f : TypeId → Addr → Nat → Nat → Sem Value) (v : Value) :
    ReflectliteValue.method z f #[v] = (do match ← ReflectliteValue.parts v with | none => z | some (t, a, fl) => f t a fl (fl % 32)) := rfl
theorem rls (v x : Value) : ReflectliteValue.set #[v, x] = (do
    let (some (dst, a, fl), some (src, b, _)) := (← ReflectliteValue.parts v, ← ReflectliteValue.parts x)
      | unsupported (.noEntry "extern/(internal/reflectlite.Value).Set.zeroValue")
    if fl / ReflectliteValue.flagAddr % 2 == 0 then unsupported (.noEntry "extern/(internal/reflectlite.Value).Set.unaddressable")
    let val ← loadVar src b
    if ← Rtype.directlyAssignable dst src then storeVar dst a val
    else if ← Rtype.implements dst src then
      if (← Rtype.kind src) == 20 then
        match val with
        | .nilIface => unsupported (.noEntry "extern/reflectlite: a nil value of one interface type handed on as a value of another")
        | _ => storeVar dst a val
      else storeVar dst a (.iface src val)
    else panicString ("reflectlite.Set: value of type " ++ (← Rtype.spelt src) ++ " is not assignable to type " ++ (← Rtype.spelt dst))
    pure (.tuple #[])) := rfl
theorem aKind (h : Value) (w : World) : (Go.method 390 167 (.agg #[h]) "Kind").run Tryz.prog w = .ok (198, h) w := by kernel_rfl
theorem aElem (h : Value) (w : World) : (Go.method 390 167 (.agg #[h]) "Elem").run Tryz.prog w = .ok (211, .agg #[h]) w := by kernel_rfl
theorem aImpl (h : Value) (w : World) : (Go.method 390 167 (.agg #[h]) "Implements").run Tryz.prog w = .ok (212, .agg #[h]) w := by kernel_rfl
theorem aAssign (h : Value) (w : World) : (Go.method 390 167 (.agg #[h]) "AssignableTo").run Tryz.prog w = .ok (209, .agg #[h]) w := by kernel_rfl

theorem aFvalP (t : Addr) (w : World) : (ReflectliteValue.unpack (.iface 59 (.pointer (some t)))).run Tryz.prog w
    = .ok (.agg #[hdl 59, .pointer (some ⟨w.heap.size, 0, none⟩), .int .u64 150]) (w.alloc (.cells #[.pointer (some t)] 59)) := by kernel_rfl
theorem aFtypP (a : Addr) (w : World) : (ReflectliteValue.methodAny (ReflectliteValue.valueError "reflectlite.Value.Type" 0) (fun t _ _ _ => ReflectliteType.toType t) #[.agg #[hdl 59, .pointer (some a), .int .u64 150]]).run Tryz.prog w
    = .ok (.iface 167 (.agg #[hdl 59])) w := by kernel_rfl
theorem aFkndP (w : World) : ((ReflectliteType.abiMethod fun t => (fun a : Nat => Value.int IntKind.u8 (a : Int)) <$> Rtype.kind t) #[hdl 59]).run Tryz.prog w = .ok (.int .u8 22) w := by kernel_rfl
theorem aFknd (w : World) : ((ReflectliteType.abiMethod fun t => (fun a : Nat => Value.int IntKind.u8 (a : Int)) <$> Rtype.kind t) #[hdl 33]).run Tryz.prog w = .ok (.int .u8 25) w := by kernel_rfl
theorem aFprtP (a : Addr) (w : World) : (ReflectliteValue.parts (.agg #[hdl 59, .pointer (some a), .int .u64 150])).run Tryz.prog w = .ok (some (59, a, 150)) w := by kernel_rfl
theorem aFnil (a p : Addr) (W : World) (ha : W.cell? a = some (.pointer (some p))) :
    (ReflectliteValue.method (ReflectliteValue.valueError "reflectlite.Value.IsNil" 0) ReflectliteValue.isNil #[.agg #[hdl 59, .pointer (some a), .int .u64 150]]).run Tryz.prog W = .ok (.bool false) W := by
  rw [rlm]
  simp only [Sem.run_bind, aFprtP, Result.andThen]
  simp [ReflectliteValue.isNil, loadVar, isAgg, underlying, Tryz.underlying59, ha, Result.andThen]
theorem aFelmP (w : World) : (ReflectliteType.method ReflectliteType.elem #[.agg #[hdl 59]]).run Tryz.prog w = .ok (.iface 167 (.agg #[hdl 33])) w := by kernel_rfl
theorem aFimp (w : World) : (ReflectliteType.relation "Implements" ReflectliteType.implements_ #[.agg #[hdl 33], .iface 167 (.agg #[hdl 28])]).run Tryz.prog w = .ok (.bool true) w := by kernel_rfl
theorem aFtyp (v : Value) (w : World) : (ReflectliteType.typeOf #[.iface 33 v]).run Tryz.prog w = .ok (.iface 167 (.agg #[hdl 33])) w := by kernel_rfl
theorem aFasg (w : World) : (ReflectliteType.relation "AssignableTo" ReflectliteType.assignableTo #[.agg #[hdl 33], .iface 167 (.agg #[hdl 33])]).run Tryz.prog w = .ok (.bool true) w := by kernel_rfl
theorem aFval (c k : Int) (w : World) : (ReflectliteValue.unpack (.iface 33 (.agg #[.int .i64 c, .int .i64 k]))).run Tryz.prog w
    = .ok (.agg #[hdl 33, .pointer (some ⟨w.heap.size, 0, none⟩), .int .u64 153]) (w.alloc (.cells #[.int .i64 c, .int .i64 k] 33)) := by kernel_rfl
theorem aFeof (w : World) : (Rtype.elem? 59).run Tryz.prog w = .ok (some 33) w := by kernel_rfl
theorem aFmk (p : Addr) (w : World) : (ReflectliteValue.mk 33 p ReflectliteValue.flagAddr).run Tryz.prog w = .ok (.agg #[hdl 33, .pointer (some p), .int .u64 409]) w := by kernel_rfl
theorem aFelm (a p : Addr) (W : World) (ha : W.cell? a = some (.pointer (some p))) :
    (ReflectliteValue.method (ReflectliteValue.valueError "reflectlite.Value.Elem" 0) ReflectliteValue.elem #[.agg #[hdl 59, .pointer (some a), .int .u64 150]]).run Tryz.prog W
      = .ok (.agg #[hdl 33, .pointer (some p), .int .u64 409]) W := by
  rw [rlm]
  simp only [Sem.run_bind, aFprtP, Result.andThen]
  simp [ReflectliteValue.elem, loadVar, isAgg, underlying, Tryz.underlying59, ha, Result.andThen, aFeof, aFmk]
theorem aFprtA (a : Addr) (w : World) : (ReflectliteValue.parts (.agg #[hdl 33, .pointer (some a), .int .u64 409])).run Tryz.prog w = .ok (some (33, a, 409)) w := by kernel_rfl
theorem aFprt (a : Addr) (w : World) : (ReflectliteValue.parts (.agg #[hdl 33, .pointer (some a), .int .u64 153])).run Tryz.prog w = .ok (some (33, a, 153)) w := by kernel_rfl
theorem aFdir (w : World) : (Rtype.directlyAssignable 33 33).run Tryz.prog w = .ok true w := by kernel_rfl
theorem aFinf : (Tryz.prog.info? 33).map (·.size) = some 2 := by kernel_rfl
theorem aFund : ∃ d, Tryz.prog.underlying 33 = some d ∧ d.isRow = true := ⟨_, Tryz.underlying33, rfl⟩
theorem aFset (t b : Nat) (c k : Int) (W : World) (hb : W.rangeAt b 0 [.int .i64 c, .int .i64 k]) (ht : W.there t 0 2) :
    (ReflectliteValue.set #[.agg #[hdl 33, .pointer (some ⟨t, 0, none⟩), .int .u64 409], .agg #[hdl 33, .pointer (some ⟨b, 0, none⟩), .int .u64 153]]).run Tryz.prog W
      = .ok (.tuple #[]) ((W.setCell ⟨t, 0, none⟩ (.int .i64 c)).setCell ⟨t, 1, none⟩ (.int .i64 k)) := by
  obtain ⟨d, hd1, hd2⟩ := aFund
  have h1 := run_loadVar_mid (P := Tryz.prog) W b 0 33 [.int .i64 c, .int .i64 k] d hb hd1 hd2 aFinf
  have h2 := run_storeVar_mid (P := Tryz.prog) W t 0 33 #[.int .i64 c, .int .i64 k] ht aFinf (by simp [Value.oneCell'])
  rw [rls]
  simp only [Sem.run_bind, aFprtA, aFprt, Result.andThen]
  simp [ReflectliteValue.flagAddr, Result.andThen, aFdir, h1, h2, World.setCells]

set_option maxRecDepth 100000 in
set_option maxHeartbeats 8000000 in
theorem as_hitF (c k : Int) (t : Nat) (w : World) (hg : w.cell? ⟨0, 0, none⟩ = some (.iface 167 (.agg #[hdl 28]))) (x0 x1 : Value) (ht : w.heap[t]? = some (.cells #[x0, x1] 33 (0, 0))) :
    Calls Tryz.prog 29 #[.iface 33 (.agg #[.int .i64 c, .int .i64 k]), .iface 59 (.pointer (some ⟨t, 0, none⟩))] w fun ev w' => ev = .returned (.bool true) ∧ w' = (((((w.alloc (.cells #[.pointer (some ⟨t, 0, none⟩)] 59)).alloc (.cells #[hdl 59, .pointer (some ⟨w.heap.size, 0, none⟩), .int .u64 150] 127)).alloc (.cells #[hdl 59, .pointer (some ⟨w.heap.size, 0, none⟩), .int .u64 150] 127)).alloc (.cells #[.int .i64 c, .int .i64 k] 33)).setCell ⟨t, 0, none⟩ (.int .i64 c)).setCell ⟨t, 1, none⟩ (.int .i64 k) := by
  have h6 := @run_callFunc_extern Tryz.prog 65 _ (fun args => ReflectliteValue.unpack (args.getD 0 (.tuple #[]))) Tryz.func65 (by kernel_rfl) (by kernel_rfl) (by kernel_rfl) (by kernel_rfl)
  have h7 := @run_callFunc_extern Tryz.prog 66 _ (ReflectliteValue.methodAny (ReflectliteValue.valueError "reflectlite.Value.Type" 0) (fun t _ _ _ => ReflectliteType.toType t)) Tryz.func66 (by kernel_rfl) (by kernel_rfl) (by kernel_rfl) (by kernel_rfl)
  have h8 := @run_callFunc_extern Tryz.prog 67 _ (ReflectliteValue.method (ReflectliteValue.valueError "reflectlite.Value.IsNil" 0) ReflectliteValue.isNil) Tryz.func67 (by kernel_rfl) (by kernel_rfl) (by kernel_rfl) (by kernel_rfl)
  have h27 := @run_callFunc_extern Tryz.prog 198 _ (ReflectliteType.abiMethod fun t => do pure (.int .u8 (← Rtype.kind t))) Tryz.func198 (by kernel_rfl) (by kernel_rfl) (by kernel_rfl) (by kernel_rfl)
  have h37 := @run_callFunc_extern Tryz.prog 211 _ (ReflectliteType.method ReflectliteType.elem) Tryz.func211 (by kernel_rfl) (by kernel_rfl) (by kernel_rfl) (by kernel_rfl)
  have h38 := @run_callFunc_extern Tryz.prog 212 _ (ReflectliteType.relation "Implements" ReflectliteType.implements_) Tryz.func212 (by kernel_rfl) (by kernel_rfl) (by kernel_rfl) (by kernel_rfl)
  have h10 := @run_callFunc_extern Tryz.prog 56 _ ReflectliteType.typeOf Tryz.func56 (by kernel_rfl) (by kernel_rfl) (by kernel_rfl) (by kernel_rfl)
  have h35 := @run_callFunc_extern Tryz.prog 209 _ (ReflectliteType.relation "AssignableTo" ReflectliteType.assignableTo) Tryz.func209 (by kernel_rfl) (by kernel_rfl) (by kernel_rfl) (by kernel_rfl)
  have h11 := @run_callFunc_extern Tryz.prog 108 _ (ReflectliteValue.method (ReflectliteValue.valueError "reflectlite.Value.Elem" 0) ReflectliteValue.elem) Tryz.func108 (by kernel_rfl) (by kernel_rfl) (by kernel_rfl) (by kernel_rfl)
  have h12 := @run_callFunc_extern Tryz.prog 109 _ ReflectliteValue.set Tryz.func109 (by kernel_rfl) (by kernel_rfl) (by kernel_rfl) (by kernel_rfl)
  have tO := aFtyp
  have mA := aAssign
  have a25 := aFasg
  have v25 := aFval
  have f6 := aFvalP
  have f7 := aFtypP
  have mK := aKind
  have mE := aElem
  have mI := aImpl
  have k27 := aFkndP
  have k25 := aFknd
  have e27 := aFelmP
  have i25 := aFimp
  have htl : t < w.heap.size := (Array.getElem?_eq_some_iff.1 ht).1
  have hgl : 0 < w.heap.size := World.block_lt_of_cell? _ _ hg
  have n8 := aFnil ⟨w.heap.size, 0, none⟩ ⟨t, 0, none⟩ ((w.alloc (.cells #[.pointer (some ⟨t, 0, none⟩)] 59)).alloc (.cells #[hdl 59, .pointer (some ⟨w.heap.size, 0, none⟩), .int .u64 150] 127)) (by simp)
  have hg2 : ((w.alloc (.cells #[.pointer (some ⟨t, 0, none⟩)] 59)).alloc (.cells #[hdl 59, .pointer (some ⟨w.heap.size, 0, none⟩), .int .u64 150] 127)).cell? ⟨0, 0, none⟩ = some (.iface 167 (.agg #[hdl 28])) := by
    rw [World.cell?_alloc_lt _ _ ⟨0, 0, none⟩ (by simp), World.cell?_alloc_lt _ _ ⟨0, 0, none⟩ hgl]; exact hg
  have el := aFelm ⟨w.heap.size, 0, none⟩ ⟨t, 0, none⟩ (((w.alloc (.cells #[.pointer (some ⟨t, 0, none⟩)] 59)).alloc (.cells #[hdl 59, .pointer (some ⟨w.heap.size, 0, none⟩), .int .u64 150] 127)).alloc (.cells #[hdl 59, .pointer (some ⟨w.heap.size, 0, none⟩), .int .u64 150] 127)) (by rw [World.cell?_alloc_lt _ _ ⟨w.heap.size, 0, none⟩ (by simp; omega)]; simp)
  have hc : ∀ (j : Nat), ((((w.alloc (.cells #[.pointer (some ⟨t, 0, none⟩)] 59)).alloc (.cells #[hdl 59, .pointer (some ⟨w.heap.size, 0, none⟩), .int .u64 150] 127)).alloc (.cells #[hdl 59, .pointer (some ⟨w.heap.size, 0, none⟩), .int .u64 150] 127)).alloc (.cells #[.int .i64 c, .int .i64 k] 33)).cell? ⟨t, j, none⟩ = w.cell? ⟨t, j, none⟩ := fun j => by
    rw [World.cell?_alloc_lt _ _ ⟨t, j, none⟩ (by simp; omega), World.cell?_alloc_lt _ _ ⟨t, j, none⟩ (by simp; omega), World.cell?_alloc_lt _ _ ⟨t, j, none⟩ (by simp; omega), World.cell?_alloc_lt _ _ ⟨t, j, none⟩ htl]
  have hf : ∀ (j : Nat), ((((w.alloc (.cells #[.pointer (some ⟨t, 0, none⟩)] 59)).alloc (.cells #[hdl 59, .pointer (some ⟨w.heap.size, 0, none⟩), .int .u64 150] 127)).alloc (.cells #[hdl 59, .pointer (some ⟨w.heap.size, 0, none⟩), .int .u64 150] 127)).alloc (.cells #[.int .i64 c, .int .i64 k] 33)).frozen? ⟨t, j, none⟩ = w.frozen? ⟨t, j, none⟩ := fun j => by
    rw [World.frozen?_alloc_old _ _ ⟨t, j, none⟩ (by simp; omega), World.frozen?_alloc_old _ _ ⟨t, j, none⟩ (by simp; omega), World.frozen?_alloc_old _ _ ⟨t, j, none⟩ (by simp; omega), World.frozen?_alloc_old _ _ ⟨t, j, none⟩ (Nat.ne_of_lt htl)]
  have st := aFset t (w.heap.size + 1 + 1 + 1) c k ((((w.alloc (.cells #[.pointer (some ⟨t, 0, none⟩)] 59)).alloc (.cells #[hdl 59, .pointer (some ⟨w.heap.size, 0, none⟩), .int .u64 150] 127)).alloc (.cells #[hdl 59, .pointer (some ⟨w.heap.size, 0, none⟩), .int .u64 150] 127)).alloc (.cells #[.int .i64 c, .int .i64 k] 33))
    (by
      intro j v hv
      rcases j with _ | _ | j
      · simp at hv; subst hv; rw [World.cell?_alloc_at _ _ _ _ (by simp)]; rfl
      · simp at hv; subst hv; rw [World.cell?_alloc_at _ _ _ _ (by simp)]; rfl
      · simp at hv)
    (by
      intro j hj
      rw [Nat.zero_add, hc, hf]
      refine ⟨?_, unfrozen_of_block ht j⟩
      rw [cell_of_block ht]
      rcases j with _ | _ | j
      · rfl
      · rfl
      · omega)
  clear hc hf ht
  go_enter Tryz.func29, Tryz.ntmps29
  go_wp2
  refine wp_loop_rounds 1 ?_
  rw [rounds_succ]
  go_wp2
  go_ret
  exact ⟨rfl, rfl⟩

theorem aEvalP (t : Addr) (w : World) : (ReflectliteValue.unpack (.iface 80 (.pointer (some t)))).run Tryz.prog w
    = .ok (.agg #[hdl 80, .pointer (some ⟨w.heap.size, 0, none⟩), .int .u64 150]) (w.alloc (.cells #[.pointer (some t)] 80)) := by kernel_rfl
theorem aEtypP (a : Addr) (w : World) : (ReflectliteValue.methodAny (ReflectliteValue.valueError "reflectlite.Value.Type" 0) (fun t _ _ _ => ReflectliteType.toType t) #[.agg #[hdl 80, .pointer (some a), .int .u64 150]]).run Tryz.prog w
    = .ok (.iface 167 (.agg #[hdl 80])) w := by kernel_rfl
theorem aEkndP (w : World) : ((ReflectliteType.abiMethod fun t => (fun a : Nat => Value.int IntKind.u8 (a : Int)) <$> Rtype.kind t) #[hdl 80]).run Tryz.prog w = .ok (.int .u8 22) w := by kernel_rfl
theorem aEknd (w : World) : ((ReflectliteType.abiMethod fun t => (fun a : Nat => Value.int IntKind.u8 (a : Int)) <$> Rtype.kind t) #[hdl 31]).run Tryz.prog w = .ok (.int .u8 2) w := by kernel_rfl
theorem aEprtP (a : Addr) (w : World) : (ReflectliteValue.parts (.agg #[hdl 80, .pointer (some a), .int .u64 150])).run Tryz.prog w = .ok (some (80, a, 150)) w := by kernel_rfl
theorem aEnil (a p : Addr) (W : World) (ha : W.cell? a = some (.pointer (some p))) :
    (ReflectliteValue.method (ReflectliteValue.valueError "reflectlite.Value.IsNil" 0) ReflectliteValue.isNil #[.agg #[hdl 80, .pointer (some a), .int .u64 150]]).run Tryz.prog W = .ok (.bool false) W := by
  rw [rlm]
  simp only [Sem.run_bind, aEprtP, Result.andThen]
  simp [ReflectliteValue.isNil, loadVar, isAgg, underlying, Tryz.underlying80, ha, Result.andThen]
theorem aEelmP (w : World) : (ReflectliteType.method ReflectliteType.elem #[.agg #[hdl 80]]).run Tryz.prog w = .ok (.iface 167 (.agg #[hdl 31])) w := by kernel_rfl
theorem aEimp (w : World) : (ReflectliteType.relation "Implements" ReflectliteType.implements_ #[.agg #[hdl 31], .iface 167 (.agg #[hdl 28])]).run Tryz.prog w = .ok (.bool true) w := by kernel_rfl
theorem aEtyp (v : Value) (w : World) : (ReflectliteType.typeOf #[.iface 31 v]).run Tryz.prog w = .ok (.iface 167 (.agg #[hdl 31])) w := by kernel_rfl
theorem aEasg (w : World) : (ReflectliteType.relation "AssignableTo" ReflectliteType.assignableTo #[.agg #[hdl 31], .iface 167 (.agg #[hdl 31])]).run Tryz.prog w = .ok (.bool true) w := by kernel_rfl
theorem aEval (c : Int) (w : World) : (ReflectliteValue.unpack (.iface 31 (.int .i64 c))).run Tryz.prog w
    = .ok (.agg #[hdl 31, .pointer (some ⟨w.heap.size, 0, none⟩), .int .u64 130]) (w.alloc (.cells #[.int .i64 c] 31)) := by kernel_rfl
theorem aEeof (w : World) : (Rtype.elem? 80).run Tryz.prog w = .ok (some 31) w := by kernel_rfl
theorem aEmk (p : Addr) (w : World) : (ReflectliteValue.mk 31 p ReflectliteValue.flagAddr).run Tryz.prog w = .ok (.agg #[hdl 31, .pointer (some p), .int .u64 386]) w := by kernel_rfl
theorem aEelm (a p : Addr) (W : World) (ha : W.cell? a = some (.pointer (some p))) :
    (ReflectliteValue.method (ReflectliteValue.valueError "reflectlite.Value.Elem" 0) ReflectliteValue.elem #[.agg #[hdl 80, .pointer (some a), .int .u64 150]]).run Tryz.prog W
      = .ok (.agg #[hdl 31, .pointer (some p), .int .u64 386]) W := by
  rw [rlm]
  simp only [Sem.run_bind, aEprtP, Result.andThen]
  simp [ReflectliteValue.elem, loadVar, isAgg, underlying, Tryz.underlying80, ha, Result.andThen, aEeof, aEmk]
theorem aEprtA (a : Addr) (w : World) : (ReflectliteValue.parts (.agg #[hdl 31, .pointer (some a), .int .u64 386])).run Tryz.prog w = .ok (some (31, a, 386)) w := by kernel_rfl
theorem aEprt (a : Addr) (w : World) : (ReflectliteValue.parts (.agg #[hdl 31, .pointer (some a), .int .u64 130])).run Tryz.prog w = .ok (some (31, a, 130)) w := by kernel_rfl
theorem aEdir (w : World) : (Rtype.directlyAssignable 31 31).run Tryz.prog w = .ok true w := by kernel_rfl
theorem aEsiz (w : World) : (sizeOf 31).run Tryz.prog w = .ok 1 w := by kernel_rfl
theorem aEset (t b : Nat) (c : Int) (old : Value) (W : World) (hb : W.cell? ⟨b, 0, none⟩ = some (.int .i64 c)) (ht : W.cell? ⟨t, 0, none⟩ = some old) (hf : W.frozen? ⟨t, 0, none⟩ = false) :
    (ReflectliteValue.set #[.agg #[hdl 31, .pointer (some ⟨t, 0, none⟩), .int .u64 386], .agg #[hdl 31, .pointer (some ⟨b, 0, none⟩), .int .u64 130]]).run Tryz.prog W
      = .ok (.tuple #[]) (W.setCell ⟨t, 0, none⟩ (.int .i64 c)) := by
  rw [rls]
  simp only [Sem.run_bind, aEprtA, aEprt, Result.andThen]
  simp [ReflectliteValue.flagAddr, loadVar, isAgg, underlying, Tryz.underlying31, hb, Result.andThen, aEdir, aEsiz, storeVar, Value.cells, storeCells, Addr.add]
  rw [run_store Tryz.prog W _ _ _ (by rfl)]
  simp [ht, hf]

set_option maxRecDepth 100000 in
set_option maxHeartbeats 8000000 in
theorem as_hitE (c : Int) (t : Nat) (w : World) (hg : w.cell? ⟨0, 0, none⟩ = some (.iface 167 (.agg #[hdl 28]))) (x0 : Value) (ht : w.heap[t]? = some (.cells #[x0] 31 (0, 0))) :
    Calls Tryz.prog 29 #[.iface 31 (.int .i64 c), .iface 80 (.pointer (some ⟨t, 0, none⟩))] w fun ev w' => ev = .returned (.bool true) ∧ w' = ((((w.alloc (.cells #[.pointer (some ⟨t, 0, none⟩)] 80)).alloc (.cells #[hdl 80, .pointer (some ⟨w.heap.size, 0, none⟩), .int .u64 150] 127)).alloc (.cells #[hdl 80, .pointer (some ⟨w.heap.size, 0, none⟩), .int .u64 150] 127)).alloc (.cells #[.int .i64 c] 31)).setCell ⟨t, 0, none⟩ (.int .i64 c) := by
  have h6 := @run_callFunc_extern Tryz.prog 65 _ (fun args => ReflectliteValue.unpack (args.getD 0 (.tuple #[]))) Tryz.func65 (by kernel_rfl) (by kernel_rfl) (by kernel_rfl) (by kernel_rfl)
  have h7 := @run_callFunc_extern Tryz.prog 66 _ (ReflectliteValue.methodAny (ReflectliteValue.valueError "reflectlite.Value.Type" 0) (fun t _ _ _ => ReflectliteType.toType t)) Tryz.func66 (by kernel_rfl) (by kernel_rfl) (by kernel_rfl) (by kernel_rfl)
  have h8 := @run_callFunc_extern Tryz.prog 67 _ (ReflectliteValue.method (ReflectliteValue.valueError "reflectlite.Value.IsNil" 0) ReflectliteValue.isNil) Tryz.func67 (by kernel_rfl) (by kernel_rfl) (by kernel_rfl) (by kernel_rfl)
  have h27 := @run_callFunc_extern Tryz.prog 198 _ (ReflectliteType.abiMethod fun t => do pure (.int .u8 (← Rtype.kind t))) Tryz.func198 (by kernel_rfl) (by kernel_rfl) (by kernel_rfl) (by kernel_rfl)
  have h37 := @run_callFunc_extern Tryz.prog 211 _ (ReflectliteType.method ReflectliteType.elem) Tryz.func211 (by kernel_rfl) (by kernel_rfl) (by kernel_rfl) (by kernel_rfl)
  have h38 := @run_callFunc_extern Tryz.prog 212 _ (ReflectliteType.relation "Implements" ReflectliteType.implements_) Tryz.func212 (by kernel_rfl) (by kernel_rfl) (by kernel_rfl) (by kernel_rfl)
  have h10 := @run_callFunc_extern Tryz.prog 56 _ ReflectliteType.typeOf Tryz.func56 (by kernel_rfl) (by kernel_rfl) (by kernel_rfl) (by kernel_rfl)
  have h35 := @run_callFunc_extern Tryz.prog 209 _ (ReflectliteType.relation "AssignableTo" ReflectliteType.assignableTo) Tryz.func209 (by kernel_rfl) (by kernel_rfl) (by kernel_rfl) (by kernel_rfl)
  have h11 := @run_callFunc_extern Tryz.prog 108 _ (ReflectliteValue.method (ReflectliteValue.valueError "reflectlite.Value.Elem" 0) ReflectliteValue.elem) Tryz.func108 (by kernel_rfl) (by kernel_rfl) (by kernel_rfl) (by kernel_rfl)
  have h12 := @run_callFunc_extern Tryz.prog 109 _ ReflectliteValue.set Tryz.func109 (by kernel_rfl) (by kernel_rfl) (by kernel_rfl) (by kernel_rfl)
  have tO := aEtyp
  have mA := aAssign
  have a25 := aEasg
  have v25 := aEval
  have f6 := aEvalP
  have f7 := aEtypP
  have mK := aKind
  have mE := aElem
  have mI := aImpl
  have k27 := aEkndP
  have k25 := aEknd
  have e27 := aEelmP
  have i25 := aEimp
  have htl : t < w.heap.size := (Array.getElem?_eq_some_iff.1 ht).1
  have hgl : 0 < w.heap.size := World.block_lt_of_cell? _ _ hg
  have n8 := aEnil ⟨w.heap.size, 0, none⟩ ⟨t, 0, none⟩ ((w.alloc (.cells #[.pointer (some ⟨t, 0, none⟩)] 80)).alloc (.cells #[hdl 80, .pointer (some ⟨w.heap.size, 0, none⟩), .int .u64 150] 127)) (by simp)
  have hg2 : ((w.alloc (.cells #[.pointer (some ⟨t, 0, none⟩)] 80)).alloc (.cells #[hdl 80, .pointer (some ⟨w.heap.size, 0, none⟩), .int .u64 150] 127)).cell? ⟨0, 0, none⟩ = some (.iface 167 (.agg #[hdl 28])) := by
    rw [World.cell?_alloc_lt _ _ ⟨0, 0, none⟩ (by simp), World.cell?_alloc_lt _ _ ⟨0, 0, none⟩ hgl]; exact hg
  have el := aEelm ⟨w.heap.size, 0, none⟩ ⟨t, 0, none⟩ (((w.alloc (.cells #[.pointer (some ⟨t, 0, none⟩)] 80)).alloc (.cells #[hdl 80, .pointer (some ⟨w.heap.size, 0, none⟩), .int .u64 150] 127)).alloc (.cells #[hdl 80, .pointer (some ⟨w.heap.size, 0, none⟩), .int .u64 150] 127)) (by rw [World.cell?_alloc_lt _ _ ⟨w.heap.size, 0, none⟩ (by simp; omega)]; simp)
  have hc : ∀ (j : Nat), ((((w.alloc (.cells #[.pointer (some ⟨t, 0, none⟩)] 80)).alloc (.cells #[hdl 80, .pointer (some ⟨w.heap.size, 0, none⟩), .int .u64 150] 127)).alloc (.cells #[hdl 80, .pointer (some ⟨w.heap.size, 0, none⟩), .int .u64 150] 127)).alloc (.cells #[.int .i64 c] 31)).cell? ⟨t, j, none⟩ = w.cell? ⟨t, j, none⟩ := fun j => by
    rw [World.cell?_alloc_lt _ _ ⟨t, j, none⟩ (by simp; omega), World.cell?_alloc_lt _ _ ⟨t, j, none⟩ (by simp; omega), World.cell?_alloc_lt _ _ ⟨t, j, none⟩ (by simp; omega), World.cell?_alloc_lt _ _ ⟨t, j, none⟩ htl]
  have hf : ∀ (j : Nat), ((((w.alloc (.cells #[.pointer (some ⟨t, 0, none⟩)] 80)).alloc (.cells #[hdl 80, .pointer (some ⟨w.heap.size, 0, none⟩), .int .u64 150] 127)).alloc (.cells #[hdl 80, .pointer (some ⟨w.heap.size, 0, none⟩), .int .u64 150] 127)).alloc (.cells #[.int .i64 c] 31)).frozen? ⟨t, j, none⟩ = w.frozen? ⟨t, j, none⟩ := fun j => by
    rw [World.frozen?_alloc_old _ _ ⟨t, j, none⟩ (by simp; omega), World.frozen?_alloc_old _ _ ⟨t, j, none⟩ (by simp; omega), World.frozen?_alloc_old _ _ ⟨t, j, none⟩ (by simp; omega), World.frozen?_alloc_old _ _ ⟨t, j, none⟩ (Nat.ne_of_lt htl)]
  have st := aEset t (w.heap.size + 1 + 1 + 1) c x0 ((((w.alloc (.cells #[.pointer (some ⟨t, 0, none⟩)] 80)).alloc (.cells #[hdl 80, .pointer (some ⟨w.heap.size, 0, none⟩), .int .u64 150] 127)).alloc (.cells #[hdl 80, .pointer (some ⟨w.heap.size, 0, none⟩), .int .u64 150] 127)).alloc (.cells #[.int .i64 c] 31))
    (by rw [World.cell?_alloc_at _ _ _ _ (by simp)]; rfl)
    (by rw [hc, cell_of_block ht]; rfl)
    (by rw [hf]; exact unfrozen_of_block ht 0)
  clear hc hf ht
  go_enter Tryz.func29, Tryz.ntmps29
  go_wp2
  refine wp_loop_rounds 1 ?_
  rw [rounds_succ]
  go_wp2
  go_ret
  exact ⟨rfl, rfl⟩
end Go.Proofs.YtnedmonlofbahaaGreatDoor
