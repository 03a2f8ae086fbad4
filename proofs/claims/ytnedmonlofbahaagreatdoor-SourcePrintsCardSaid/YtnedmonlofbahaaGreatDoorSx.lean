/-
  SrcA, SrcP, SrcB, SrcC: what is wanted of them.
-/
import Derived.Test.YtnedmonlofbahaaGreatDoorSwD
import Derived.Test.YtnedmonlofbahaaGreatDoorGwI
import Derived.Test.YtnedmonlofbahaaGreatDoorDbl
import Derived.WalkKit
import Derived.LaidEql
import Derived.Stop.Asserts
import Derived.RowKitTokens
import Derived.Deep.MidRow
import Derived.Test.YtnedmonlofbahaaGreatDoorGwF
import Derived.Test.YtnedmonlofbahaaGreatDoorSwD
namespace Go.Proofs.YtnedmonlofbahaaGreatDoor
open Go Go.RowKit Go.Joins Go.Extern.Stop Go.Stop Go.Extern
set_option linter.all false
abbrev hdl (t:Nat):Value:= .pointer (some ⟨6,t,none⟩)
theorem rlm (z:Sem Value) (f:TypeId->Addr->Nat->Nat->Sem Value) (v:Value):
  ReflectliteValue.method z f #[v]=(do match<-ReflectliteValue.parts v with|none=>z|some (t,a,fl)=>f t a fl (fl%32)):=rfl
theorem rls (v x:Value):ReflectliteValue.set #[v,x]=(do
  let(some (dst,a,fl),some (src,b,_)):=(<-ReflectliteValue.parts v,<-ReflectliteValue.parts x)
   |unsupported (.noEntry "extern/(internal/reflectlite.Value).Set.zeroValue")
  if fl/ReflectliteValue.flagAddr%2==0 then unsupported (.noEntry "extern/(internal/reflectlite.Value).Set.unaddressable")
  let val<-loadVar src b
  if<-Rtype.directlyAssignable dst src then storeVar dst a val
  else if<-Rtype.implements dst src then
   if(<-Rtype.kind src)==20 then
    match val with
    | .nilIface=>unsupported (.noEntry "extern/reflectlite: a nil value of one interface type handed on as a value of another")
    |_=>storeVar dst a val
   else storeVar dst a (.iface src val)
  else panicString ("reflectlite.Set: value of type " ++(<-Rtype.spelt src)++ " is not assignable to type " ++(<-Rtype.spelt dst))
  pure (.tuple #[])):=rfl
theorem uZ (h:Value) (w:World):(Go.method 390 167 (.agg #[h]) "Kind").run Tryz.prog w= .ok (198,h) w:=by kernel_rfl
theorem uW (h:Value) (w:World):(Go.method 390 167 (.agg #[h]) "Elem").run Tryz.prog w= .ok (211,.agg #[h]) w:=by kernel_rfl
theorem uY (h:Value) (w:World):(Go.method 390 167 (.agg #[h]) "Implements").run Tryz.prog w= .ok (212,.agg #[h]) w:=by kernel_rfl
theorem pz (h:Value) (w:World):(Go.method 390 167 (.agg #[h]) "AssignableTo").run Tryz.prog w= .ok (209,.agg #[h]) w:=by kernel_rfl
theorem vn (t:Addr) (w:World):(ReflectliteValue.unpack (.iface 59 (.pointer (some t)))).run Tryz.prog w
  = .ok (.agg #[hdl 59,.pointer (some ⟨w.heap.size,0,none⟩),.int .u64 150]) (w.alloc (.cells #[.pointer (some t)] 59)):=by kernel_rfl
theorem vm (a:Addr) (w:World):(ReflectliteValue.methodAny (ReflectliteValue.valueError "reflectlite.Value.Type" 0) (fun t _ _ _=>ReflectliteType.toType t) #[.agg #[hdl 59,.pointer (some a),.int .u64 150]]).run Tryz.prog w
  = .ok (.iface 167 (.agg #[hdl 59])) w:=by kernel_rfl
theorem vk (w:World):((ReflectliteType.abiMethod fun t=>(fun a:Nat=>Value.int IntKind.u8 (a:Int))<$>Rtype.kind t) #[hdl 59]).run Tryz.prog w= .ok (.int .u8 22) w:=by kernel_rfl
theorem vS (w:World):((ReflectliteType.abiMethod fun t=>(fun a:Nat=>Value.int IntKind.u8 (a:Int))<$>Rtype.kind t) #[hdl 33]).run Tryz.prog w= .ok (.int .u8 25) w:=by kernel_rfl
theorem rQ (a:Addr) (w:World):(ReflectliteValue.parts (.agg #[hdl 59,.pointer (some a),.int .u64 150])).run Tryz.prog w= .ok (some (59,a,150)) w:=by kernel_rfl
theorem vT (a p:Addr) (W:World) (ha:W.cell? a=some (.pointer (some p))):
  (ReflectliteValue.method (ReflectliteValue.valueError "reflectlite.Value.IsNil" 0) ReflectliteValue.isNil #[.agg #[hdl 59,.pointer (some a),.int .u64 150]]).run Tryz.prog W= .ok (.bool false) W:=by
 rw[rlm];simp only[Sem.run_bind,rQ,Result.andThen];simp[ReflectliteValue.isNil,loadVar,isAgg,underlying,Tryz.underlying59,ha,Result.andThen]
theorem vj (w:World):(ReflectliteType.method ReflectliteType.elem #[.agg #[hdl 59]]).run Tryz.prog w= .ok (.iface 167 (.agg #[hdl 33])) w:=by kernel_rfl
theorem vR (w:World):(ReflectliteType.relation "Implements" ReflectliteType.implements_ #[.agg #[hdl 33],.iface 167 (.agg #[hdl 28])]).run Tryz.prog w= .ok (.bool true) w:=by kernel_rfl
theorem vW (v:Value) (w:World):(ReflectliteType.typeOf #[.iface 33 v]).run Tryz.prog w= .ok (.iface 167 (.agg #[hdl 33])) w:=by kernel_rfl
theorem vN (w:World):(ReflectliteType.relation "AssignableTo" ReflectliteType.assignableTo #[.agg #[hdl 33],.iface 167 (.agg #[hdl 33])]).run Tryz.prog w= .ok (.bool true) w:=by kernel_rfl
theorem vY (c k:Int) (w:World):(ReflectliteValue.unpack (.iface 33 (.agg #[.int .i64 c,.int .i64 k]))).run Tryz.prog w
  = .ok (.agg #[hdl 33,.pointer (some ⟨w.heap.size,0,none⟩),.int .u64 153]) (w.alloc (.cells #[.int .i64 c,.int .i64 k] 33)):=by kernel_rfl
theorem vQ (w:World):(Rtype.elem? 59).run Tryz.prog w= .ok (some 33) w:=by kernel_rfl
theorem wg (p:Addr) (w:World):(ReflectliteValue.mk 33 p ReflectliteValue.flagAddr).run Tryz.prog w= .ok (.agg #[hdl 33,.pointer (some p),.int .u64 409]) w:=by kernel_rfl
theorem vP (a p:Addr) (W:World) (ha:W.cell? a=some (.pointer (some p))):
  (ReflectliteValue.method (ReflectliteValue.valueError "reflectlite.Value.Elem" 0) ReflectliteValue.elem #[.agg #[hdl 59,.pointer (some a),.int .u64 150]]).run Tryz.prog W
   = .ok (.agg #[hdl 33,.pointer (some p),.int .u64 409]) W:=by
 rw[rlm];simp only[Sem.run_bind,rQ,Result.andThen];simp[ReflectliteValue.elem,loadVar,isAgg,underlying,Tryz.underlying59,ha,Result.andThen,vQ,wg]
theorem vl (a:Addr) (w:World):(ReflectliteValue.parts (.agg #[hdl 33,.pointer (some a),.int .u64 409])).run Tryz.prog w= .ok (some (33,a,409)) w:=by kernel_rfl
theorem vU (a:Addr) (w:World):(ReflectliteValue.parts (.agg #[hdl 33,.pointer (some a),.int .u64 153])).run Tryz.prog w= .ok (some (33,a,153)) w:=by kernel_rfl
theorem vO (w:World):(Rtype.directlyAssignable 33 33).run Tryz.prog w= .ok true w:=by kernel_rfl
theorem uX:(Tryz.prog.info? 33).map (·.size)=some 2:=by kernel_rfl
theorem vX:∃d,Tryz.prog.underlying 33=some d∧d.isRow=true:=⟨_,Tryz.underlying33,rfl⟩
theorem vV (t b:Nat) (c k:Int) (W:World) (hb:W.rangeAt b 0 [.int .i64 c,.int .i64 k]) (ht:W.there t 0 2):
  (ReflectliteValue.set #[.agg #[hdl 33,.pointer (some ⟨t,0,none⟩),.int .u64 409],.agg #[hdl 33,.pointer (some ⟨b,0,none⟩),.int .u64 153]]).run Tryz.prog W
   = .ok (.tuple #[]) ((W.setCell ⟨t,0,none⟩ (.int .i64 c)).setCell ⟨t,1,none⟩ (.int .i64 k)):=by
 obtain⟨d,hd1,hd2⟩:=vX;have h1:=run_loadVar_mid (P:=Tryz.prog) W b 0 33 [.int .i64 c,.int .i64 k] d hb hd1 hd2 uX;have h2:=run_storeVar_mid (P:=Tryz.prog) W t 0 33 #[.int .i64 c,.int .i64 k] ht uX (by simp[Value.oneCell']);rw[rls];simp only[Sem.run_bind,vl,vU,Result.andThen];simp[ReflectliteValue.flagAddr,Result.andThen,vO,h1,h2,World.setCells]
set_option maxRecDepth 100000 in
set_option maxHeartbeats 8000000 in
theorem ug (c k:Int) (t:Nat) (w:World) (hg:w.cell? ⟨0,0,none⟩=some (.iface 167 (.agg #[hdl 28]))) (x0 x1:Value) (ht:w.heap[t]? =some (.cells #[x0,x1] 33 (0,0))):
  Calls Tryz.prog 29 #[.iface 33 (.agg #[.int .i64 c,.int .i64 k]),.iface 59 (.pointer (some ⟨t,0,none⟩))] w fun ev w'=>ev= .returned (.bool true)∧w'=(((((w.alloc (.cells #[.pointer (some ⟨t,0,none⟩)] 59)).alloc (.cells #[hdl 59,.pointer (some ⟨w.heap.size,0,none⟩),.int .u64 150] 127)).alloc (.cells #[hdl 59,.pointer (some ⟨w.heap.size,0,none⟩),.int .u64 150] 127)).alloc (.cells #[.int .i64 c,.int .i64 k] 33)).setCell ⟨t,0,none⟩ (.int .i64 c)).setCell ⟨t,1,none⟩ (.int .i64 k):=by
 have h6:= @run_callFunc_extern Tryz.prog 65 _ (fun args=>ReflectliteValue.unpack (args.getD 0 (.tuple #[]))) Tryz.func65 (by kernel_rfl) (by kernel_rfl) (by kernel_rfl) (by kernel_rfl);have h7:= @run_callFunc_extern Tryz.prog 66 _ (ReflectliteValue.methodAny (ReflectliteValue.valueError "reflectlite.Value.Type" 0) (fun t _ _ _=>ReflectliteType.toType t)) Tryz.func66 (by kernel_rfl) (by kernel_rfl) (by kernel_rfl) (by kernel_rfl);have h8:= @run_callFunc_extern Tryz.prog 67 _ (ReflectliteValue.method (ReflectliteValue.valueError "reflectlite.Value.IsNil" 0) ReflectliteValue.isNil) Tryz.func67 (by kernel_rfl) (by kernel_rfl) (by kernel_rfl) (by kernel_rfl);have h27:= @run_callFunc_extern Tryz.prog 198 _ (ReflectliteType.abiMethod fun t=>do pure (.int .u8 (<-Rtype.kind t))) Tryz.func198 (by kernel_rfl) (by kernel_rfl) (by kernel_rfl) (by kernel_rfl);have h37:= @run_callFunc_extern Tryz.prog 211 _ (ReflectliteType.method ReflectliteType.elem) Tryz.func211 (by kernel_rfl) (by kernel_rfl) (by kernel_rfl) (by kernel_rfl);have h38:= @run_callFunc_extern Tryz.prog 212 _ (ReflectliteType.relation "Implements" ReflectliteType.implements_) Tryz.func212 (by kernel_rfl) (by kernel_rfl) (by kernel_rfl) (by kernel_rfl);have h10:= @run_callFunc_extern Tryz.prog 56 _ ReflectliteType.typeOf Tryz.func56 (by kernel_rfl) (by kernel_rfl) (by kernel_rfl) (by kernel_rfl);have h35:= @run_callFunc_extern Tryz.prog 209 _ (ReflectliteType.relation "AssignableTo" ReflectliteType.assignableTo) Tryz.func209 (by kernel_rfl) (by kernel_rfl) (by kernel_rfl) (by kernel_rfl);have h11:= @run_callFunc_extern Tryz.prog 108 _ (ReflectliteValue.method (ReflectliteValue.valueError "reflectlite.Value.Elem" 0) ReflectliteValue.elem) Tryz.func108 (by kernel_rfl) (by kernel_rfl) (by kernel_rfl) (by kernel_rfl);have h12:= @run_callFunc_extern Tryz.prog 109 _ ReflectliteValue.set Tryz.func109 (by kernel_rfl) (by kernel_rfl) (by kernel_rfl) (by kernel_rfl);have tO:=vW;have mA:=pz;have a25:=vN;have v25:=vY;have f6:=vn;have f7:=vm;have mK:=uZ;have mE:=uW;have mI:=uY;have k27:=vk;have k25:=vS;have e27:=vj;have i25:=vR;have htl:t<w.heap.size:=(Array.getElem?_eq_some_iff.1 ht).1;have hgl:0<w.heap.size:=World.block_lt_of_cell? _ _ hg;have n8:=vT ⟨w.heap.size,0,none⟩ ⟨t,0,none⟩ ((w.alloc (.cells #[.pointer (some ⟨t,0,none⟩)] 59)).alloc (.cells #[hdl 59,.pointer (some ⟨w.heap.size,0,none⟩),.int .u64 150] 127)) (by simp);have hg2:((w.alloc (.cells #[.pointer (some ⟨t,0,none⟩)] 59)).alloc (.cells #[hdl 59,.pointer (some ⟨w.heap.size,0,none⟩),.int .u64 150] 127)).cell? ⟨0,0,none⟩=some (.iface 167 (.agg #[hdl 28])):=by
  rw[World.cell?_alloc_lt _ _ ⟨0,0,none⟩ (by simp),World.cell?_alloc_lt _ _ ⟨0,0,none⟩ hgl];exact hg
 have el:=vP ⟨w.heap.size,0,none⟩ ⟨t,0,none⟩ (((w.alloc (.cells #[.pointer (some ⟨t,0,none⟩)] 59)).alloc (.cells #[hdl 59,.pointer (some ⟨w.heap.size,0,none⟩),.int .u64 150] 127)).alloc (.cells #[hdl 59,.pointer (some ⟨w.heap.size,0,none⟩),.int .u64 150] 127)) (by rw[World.cell?_alloc_lt _ _ ⟨w.heap.size,0,none⟩ (by simp;omega)];simp);have hc:∀(j:Nat),((((w.alloc (.cells #[.pointer (some ⟨t,0,none⟩)] 59)).alloc (.cells #[hdl 59,.pointer (some ⟨w.heap.size,0,none⟩),.int .u64 150] 127)).alloc (.cells #[hdl 59,.pointer (some ⟨w.heap.size,0,none⟩),.int .u64 150] 127)).alloc (.cells #[.int .i64 c,.int .i64 k] 33)).cell? ⟨t,j,none⟩=w.cell? ⟨t,j,none⟩:=fun j=>by
  rw[World.cell?_alloc_lt _ _ ⟨t,j,none⟩ (by simp;omega),World.cell?_alloc_lt _ _ ⟨t,j,none⟩ (by simp;omega),World.cell?_alloc_lt _ _ ⟨t,j,none⟩ (by simp;omega),World.cell?_alloc_lt _ _ ⟨t,j,none⟩ htl]
 have hf:∀(j:Nat),((((w.alloc (.cells #[.pointer (some ⟨t,0,none⟩)] 59)).alloc (.cells #[hdl 59,.pointer (some ⟨w.heap.size,0,none⟩),.int .u64 150] 127)).alloc (.cells #[hdl 59,.pointer (some ⟨w.heap.size,0,none⟩),.int .u64 150] 127)).alloc (.cells #[.int .i64 c,.int .i64 k] 33)).frozen? ⟨t,j,none⟩=w.frozen? ⟨t,j,none⟩:=fun j=>by
  rw[World.frozen?_alloc_old _ _ ⟨t,j,none⟩ (by simp;omega),World.frozen?_alloc_old _ _ ⟨t,j,none⟩ (by simp;omega),World.frozen?_alloc_old _ _ ⟨t,j,none⟩ (by simp;omega),World.frozen?_alloc_old _ _ ⟨t,j,none⟩ (Nat.ne_of_lt htl)]
 have st:=vV t (w.heap.size+1+1+1) c k ((((w.alloc (.cells #[.pointer (some ⟨t,0,none⟩)] 59)).alloc (.cells #[hdl 59,.pointer (some ⟨w.heap.size,0,none⟩),.int .u64 150] 127)).alloc (.cells #[hdl 59,.pointer (some ⟨w.heap.size,0,none⟩),.int .u64 150] 127)).alloc (.cells #[.int .i64 c,.int .i64 k] 33))
  (by
   intro j v hv;rcases j with _|_|j
   ·simp at hv;subst hv;rw[World.cell?_alloc_at _ _ _ _ (by simp)];rfl
   ·simp at hv;subst hv;rw[World.cell?_alloc_at _ _ _ _ (by simp)];rfl
   ·simp at hv)
  (by
   intro j hj;rw[Nat.zero_add,hc,hf];refine⟨?_,unfrozen_of_block ht j⟩;rw[cell_of_block ht];rcases j with _|_|j
   ·rfl
   ·rfl
   ·omega)
 clear hc hf ht;go_enter Tryz.func29,Tryz.ntmps29;go_wp2
 refine wp_loop_rounds 1 ?_;rw[rounds_succ];go_wp2
 go_ret
 exact⟨rfl,rfl⟩
theorem vi (t:Addr) (w:World):(ReflectliteValue.unpack (.iface 80 (.pointer (some t)))).run Tryz.prog w
  = .ok (.agg #[hdl 80,.pointer (some ⟨w.heap.size,0,none⟩),.int .u64 150]) (w.alloc (.cells #[.pointer (some t)] 80)):=by kernel_rfl
theorem vh (a:Addr) (w:World):(ReflectliteValue.methodAny (ReflectliteValue.valueError "reflectlite.Value.Type" 0) (fun t _ _ _=>ReflectliteType.toType t) #[.agg #[hdl 80,.pointer (some a),.int .u64 150]]).run Tryz.prog w
  = .ok (.iface 167 (.agg #[hdl 80])) w:=by kernel_rfl
theorem ve (w:World):((ReflectliteType.abiMethod fun t=>(fun a:Nat=>Value.int IntKind.u8 (a:Int))<$>Rtype.kind t) #[hdl 80]).run Tryz.prog w= .ok (.int .u8 22) w:=by kernel_rfl
theorem vG (w:World):((ReflectliteType.abiMethod fun t=>(fun a:Nat=>Value.int IntKind.u8 (a:Int))<$>Rtype.kind t) #[hdl 31]).run Tryz.prog w= .ok (.int .u8 2) w:=by kernel_rfl
theorem rP (a:Addr) (w:World):(ReflectliteValue.parts (.agg #[hdl 80,.pointer (some a),.int .u64 150])).run Tryz.prog w= .ok (some (80,a,150)) w:=by kernel_rfl
theorem vH (a p:Addr) (W:World) (ha:W.cell? a=some (.pointer (some p))):
  (ReflectliteValue.method (ReflectliteValue.valueError "reflectlite.Value.IsNil" 0) ReflectliteValue.isNil #[.agg #[hdl 80,.pointer (some a),.int .u64 150]]).run Tryz.prog W= .ok (.bool false) W:=by
 rw[rlm];simp only[Sem.run_bind,rP,Result.andThen];simp[ReflectliteValue.isNil,loadVar,isAgg,underlying,Tryz.underlying80,ha,Result.andThen]
theorem vd (w:World):(ReflectliteType.method ReflectliteType.elem #[.agg #[hdl 80]]).run Tryz.prog w= .ok (.iface 167 (.agg #[hdl 31])) w:=by kernel_rfl
theorem vF (w:World):(ReflectliteType.relation "Implements" ReflectliteType.implements_ #[.agg #[hdl 31],.iface 167 (.agg #[hdl 28])]).run Tryz.prog w= .ok (.bool true) w:=by kernel_rfl
theorem vL (v:Value) (w:World):(ReflectliteType.typeOf #[.iface 31 v]).run Tryz.prog w= .ok (.iface 167 (.agg #[hdl 31])) w:=by kernel_rfl
theorem vB (w:World):(ReflectliteType.relation "AssignableTo" ReflectliteType.assignableTo #[.agg #[hdl 31],.iface 167 (.agg #[hdl 31])]).run Tryz.prog w= .ok (.bool true) w:=by kernel_rfl
theorem vM (c:Int) (w:World):(ReflectliteValue.unpack (.iface 31 (.int .i64 c))).run Tryz.prog w
  = .ok (.agg #[hdl 31,.pointer (some ⟨w.heap.size,0,none⟩),.int .u64 130]) (w.alloc (.cells #[.int .i64 c] 31)):=by kernel_rfl
theorem vE (w:World):(Rtype.elem? 80).run Tryz.prog w= .ok (some 31) w:=by kernel_rfl
theorem we (p:Addr) (w:World):(ReflectliteValue.mk 31 p ReflectliteValue.flagAddr).run Tryz.prog w= .ok (.agg #[hdl 31,.pointer (some p),.int .u64 386]) w:=by kernel_rfl
theorem vD (a p:Addr) (W:World) (ha:W.cell? a=some (.pointer (some p))):
  (ReflectliteValue.method (ReflectliteValue.valueError "reflectlite.Value.Elem" 0) ReflectliteValue.elem #[.agg #[hdl 80,.pointer (some a),.int .u64 150]]).run Tryz.prog W
   = .ok (.agg #[hdl 31,.pointer (some p),.int .u64 386]) W:=by
 rw[rlm];simp only[Sem.run_bind,rP,Result.andThen];simp[ReflectliteValue.elem,loadVar,isAgg,underlying,Tryz.underlying80,ha,Result.andThen,vE,we]
theorem vg (a:Addr) (w:World):(ReflectliteValue.parts (.agg #[hdl 31,.pointer (some a),.int .u64 386])).run Tryz.prog w= .ok (some (31,a,386)) w:=by kernel_rfl
theorem vI (a:Addr) (w:World):(ReflectliteValue.parts (.agg #[hdl 31,.pointer (some a),.int .u64 130])).run Tryz.prog w= .ok (some (31,a,130)) w:=by kernel_rfl
theorem vC (w:World):(Rtype.directlyAssignable 31 31).run Tryz.prog w= .ok true w:=by kernel_rfl
theorem vK (w:World):(sizeOf 31).run Tryz.prog w= .ok 1 w:=by kernel_rfl
theorem vJ (t b:Nat) (c:Int) (old:Value) (W:World) (hb:W.cell? ⟨b,0,none⟩=some (.int .i64 c)) (ht:W.cell? ⟨t,0,none⟩=some old) (hf:W.frozen? ⟨t,0,none⟩=false):
  (ReflectliteValue.set #[.agg #[hdl 31,.pointer (some ⟨t,0,none⟩),.int .u64 386],.agg #[hdl 31,.pointer (some ⟨b,0,none⟩),.int .u64 130]]).run Tryz.prog W
   = .ok (.tuple #[]) (W.setCell ⟨t,0,none⟩ (.int .i64 c)):=by
 rw[rls];simp only[Sem.run_bind,vg,vI,Result.andThen];simp[ReflectliteValue.flagAddr,loadVar,isAgg,underlying,Tryz.underlying31,hb,Result.andThen,vC,vK,storeVar,Value.cells,storeCells,Addr.add];rw[run_store Tryz.prog W _ _ _ (by rfl)];simp[ht,hf]
set_option maxRecDepth 100000 in
set_option maxHeartbeats 8000000 in
theorem uf (c:Int) (t:Nat) (w:World) (hg:w.cell? ⟨0,0,none⟩=some (.iface 167 (.agg #[hdl 28]))) (x0:Value) (ht:w.heap[t]? =some (.cells #[x0] 31 (0,0))):
  Calls Tryz.prog 29 #[.iface 31 (.int .i64 c),.iface 80 (.pointer (some ⟨t,0,none⟩))] w fun ev w'=>ev= .returned (.bool true)∧w'=((((w.alloc (.cells #[.pointer (some ⟨t,0,none⟩)] 80)).alloc (.cells #[hdl 80,.pointer (some ⟨w.heap.size,0,none⟩),.int .u64 150] 127)).alloc (.cells #[hdl 80,.pointer (some ⟨w.heap.size,0,none⟩),.int .u64 150] 127)).alloc (.cells #[.int .i64 c] 31)).setCell ⟨t,0,none⟩ (.int .i64 c):=by
 have h6:= @run_callFunc_extern Tryz.prog 65 _ (fun args=>ReflectliteValue.unpack (args.getD 0 (.tuple #[]))) Tryz.func65 (by kernel_rfl) (by kernel_rfl) (by kernel_rfl) (by kernel_rfl);have h7:= @run_callFunc_extern Tryz.prog 66 _ (ReflectliteValue.methodAny (ReflectliteValue.valueError "reflectlite.Value.Type" 0) (fun t _ _ _=>ReflectliteType.toType t)) Tryz.func66 (by kernel_rfl) (by kernel_rfl) (by kernel_rfl) (by kernel_rfl);have h8:= @run_callFunc_extern Tryz.prog 67 _ (ReflectliteValue.method (ReflectliteValue.valueError "reflectlite.Value.IsNil" 0) ReflectliteValue.isNil) Tryz.func67 (by kernel_rfl) (by kernel_rfl) (by kernel_rfl) (by kernel_rfl);have h27:= @run_callFunc_extern Tryz.prog 198 _ (ReflectliteType.abiMethod fun t=>do pure (.int .u8 (<-Rtype.kind t))) Tryz.func198 (by kernel_rfl) (by kernel_rfl) (by kernel_rfl) (by kernel_rfl);have h37:= @run_callFunc_extern Tryz.prog 211 _ (ReflectliteType.method ReflectliteType.elem) Tryz.func211 (by kernel_rfl) (by kernel_rfl) (by kernel_rfl) (by kernel_rfl);have h38:= @run_callFunc_extern Tryz.prog 212 _ (ReflectliteType.relation "Implements" ReflectliteType.implements_) Tryz.func212 (by kernel_rfl) (by kernel_rfl) (by kernel_rfl) (by kernel_rfl);have h10:= @run_callFunc_extern Tryz.prog 56 _ ReflectliteType.typeOf Tryz.func56 (by kernel_rfl) (by kernel_rfl) (by kernel_rfl) (by kernel_rfl);have h35:= @run_callFunc_extern Tryz.prog 209 _ (ReflectliteType.relation "AssignableTo" ReflectliteType.assignableTo) Tryz.func209 (by kernel_rfl) (by kernel_rfl) (by kernel_rfl) (by kernel_rfl);have h11:= @run_callFunc_extern Tryz.prog 108 _ (ReflectliteValue.method (ReflectliteValue.valueError "reflectlite.Value.Elem" 0) ReflectliteValue.elem) Tryz.func108 (by kernel_rfl) (by kernel_rfl) (by kernel_rfl) (by kernel_rfl);have h12:= @run_callFunc_extern Tryz.prog 109 _ ReflectliteValue.set Tryz.func109 (by kernel_rfl) (by kernel_rfl) (by kernel_rfl) (by kernel_rfl);have tO:=vL;have mA:=pz;have a25:=vB;have v25:=vM;have f6:=vi;have f7:=vh;have mK:=uZ;have mE:=uW;have mI:=uY;have k27:=ve;have k25:=vG;have e27:=vd;have i25:=vF;have htl:t<w.heap.size:=(Array.getElem?_eq_some_iff.1 ht).1;have hgl:0<w.heap.size:=World.block_lt_of_cell? _ _ hg;have n8:=vH ⟨w.heap.size,0,none⟩ ⟨t,0,none⟩ ((w.alloc (.cells #[.pointer (some ⟨t,0,none⟩)] 80)).alloc (.cells #[hdl 80,.pointer (some ⟨w.heap.size,0,none⟩),.int .u64 150] 127)) (by simp);have hg2:((w.alloc (.cells #[.pointer (some ⟨t,0,none⟩)] 80)).alloc (.cells #[hdl 80,.pointer (some ⟨w.heap.size,0,none⟩),.int .u64 150] 127)).cell? ⟨0,0,none⟩=some (.iface 167 (.agg #[hdl 28])):=by
  rw[World.cell?_alloc_lt _ _ ⟨0,0,none⟩ (by simp),World.cell?_alloc_lt _ _ ⟨0,0,none⟩ hgl];exact hg
 have el:=vD ⟨w.heap.size,0,none⟩ ⟨t,0,none⟩ (((w.alloc (.cells #[.pointer (some ⟨t,0,none⟩)] 80)).alloc (.cells #[hdl 80,.pointer (some ⟨w.heap.size,0,none⟩),.int .u64 150] 127)).alloc (.cells #[hdl 80,.pointer (some ⟨w.heap.size,0,none⟩),.int .u64 150] 127)) (by rw[World.cell?_alloc_lt _ _ ⟨w.heap.size,0,none⟩ (by simp;omega)];simp);have hc:∀(j:Nat),((((w.alloc (.cells #[.pointer (some ⟨t,0,none⟩)] 80)).alloc (.cells #[hdl 80,.pointer (some ⟨w.heap.size,0,none⟩),.int .u64 150] 127)).alloc (.cells #[hdl 80,.pointer (some ⟨w.heap.size,0,none⟩),.int .u64 150] 127)).alloc (.cells #[.int .i64 c] 31)).cell? ⟨t,j,none⟩=w.cell? ⟨t,j,none⟩:=fun j=>by
  rw[World.cell?_alloc_lt _ _ ⟨t,j,none⟩ (by simp;omega),World.cell?_alloc_lt _ _ ⟨t,j,none⟩ (by simp;omega),World.cell?_alloc_lt _ _ ⟨t,j,none⟩ (by simp;omega),World.cell?_alloc_lt _ _ ⟨t,j,none⟩ htl]
 have hf:∀(j:Nat),((((w.alloc (.cells #[.pointer (some ⟨t,0,none⟩)] 80)).alloc (.cells #[hdl 80,.pointer (some ⟨w.heap.size,0,none⟩),.int .u64 150] 127)).alloc (.cells #[hdl 80,.pointer (some ⟨w.heap.size,0,none⟩),.int .u64 150] 127)).alloc (.cells #[.int .i64 c] 31)).frozen? ⟨t,j,none⟩=w.frozen? ⟨t,j,none⟩:=fun j=>by
  rw[World.frozen?_alloc_old _ _ ⟨t,j,none⟩ (by simp;omega),World.frozen?_alloc_old _ _ ⟨t,j,none⟩ (by simp;omega),World.frozen?_alloc_old _ _ ⟨t,j,none⟩ (by simp;omega),World.frozen?_alloc_old _ _ ⟨t,j,none⟩ (Nat.ne_of_lt htl)]
 have st:=vJ t (w.heap.size+1+1+1) c x0 ((((w.alloc (.cells #[.pointer (some ⟨t,0,none⟩)] 80)).alloc (.cells #[hdl 80,.pointer (some ⟨w.heap.size,0,none⟩),.int .u64 150] 127)).alloc (.cells #[hdl 80,.pointer (some ⟨w.heap.size,0,none⟩),.int .u64 150] 127)).alloc (.cells #[.int .i64 c] 31))
  (by rw[World.cell?_alloc_at _ _ _ _ (by simp)];rfl)
  (by rw[hc,cell_of_block ht];rfl)
  (by rw[hf];exact unfrozen_of_block ht 0)
 clear hc hf ht;go_enter Tryz.func29,Tryz.ntmps29;go_wp2
 refine wp_loop_rounds 1 ?_;rw[rounds_succ];go_wp2
 go_ret
 exact⟨rfl,rfl⟩
end Go.Proofs.YtnedmonlofbahaaGreatDoor
namespace Go.Proofs.YtnedmonlofbahaaGreatDoor
open Go Go.RowKit Go.Joins
set_option linter.all false
structure GNum (g:Gr):Prop where
 ax:∀x∈g.acts,∀y∈x.xs,cW y
 en:∀x∈g.edges,cW x.fp∧cW x.tp
 ex:∀x∈g.edges,∀y∈x.xs,cW y
 ix:∀x∈g.ins,cW x.po
 ox:∀x∈g.outs,cW x.po
theorem GNum.same {g h:Gr} (e:g.bare=h.bare) (k:GNum g):GNum h:=by
 obtain⟨-,e2,e3,e4,e5⟩:=eQ e;have ha:∀x∈h.acts,∃y∈g.acts,y.xs=x.xs:=fun x hx=>by
  have hm:x.bare∈g.acts.map GAct.bare:=e2▸List.mem_map_of_mem hx;obtain⟨y,hy,he⟩:=List.mem_map.1 hm;exact⟨y,hy,by have:=congrArg GAct.xs he;exact this⟩
 have hb:∀x∈h.edges,∃y∈g.edges,y.xs=x.xs∧y.fp=x.fp∧y.tp=x.tp:=fun x hx=>by
  have hm:x.bare∈g.edges.map GEdge.bare:=e3▸List.mem_map_of_mem hx;obtain⟨y,hy,he⟩:=List.mem_map.1 hm;exact⟨y,hy,by have:=congrArg GEdge.xs he;exact this,by have:=congrArg GEdge.fp he;exact this,by have:=congrArg GEdge.tp he;exact this⟩
 refine⟨fun x hx y hy=>?_,fun x hx=>?_,fun x hx y hy=>?_,fun x hx=>k.ix x (e4▸hx),fun x hx=>k.ox x (e5▸hx)⟩
 ·obtain⟨z,hz,hq⟩:=ha x hx;exact k.ax z hz y (hq▸hy)
 ·obtain⟨z,hz,_,q1,q2⟩:=hb x hx;rw[<-q1,<-q2];exact k.en z hz
 ·obtain⟨z,hz,hq,_⟩:=hb x hx;exact k.ex z hz y (hq▸hy)
theorem rJ {t:Int} (h1:1<=t) (h2:t<=11):aM (ft t).1=true:=by
 rcases fE h1 h2 with rfl|rfl|rfl|rfl|rfl|rfl|rfl|rfl|rfl|rfl|rfl<;>kernel_rfl
theorem iz {g:Gr} (hf:Fair g) {a:Int} (h0:0<=a) (h1:a<g.acts.length):aM (ey g a)=true:=by
 obtain⟨k,rfl⟩:∃k:Nat,a=k:=⟨a.toNat,by omega⟩
 have hk:k<g.acts.length:=by omega
 rw[dH g hk];exact hf.nms _ (List.mem_append.2 (.inl (List.mem_map.2 ⟨_,List.getElem_mem hk,rfl⟩)))
theorem sC {g:Gr} (hf:Fair g) {x:GPort} (hx:x∈g.ins):0<=x.ac∧x.ac<g.acts.length:=by
 obtain⟨k,hk,e1,e2,-⟩:=hf.irr (x.ac,x.po) (List.mem_append.2 (.inr (List.mem_map.2 ⟨x,hx,rfl⟩)));simp only at e1;omega
theorem qU {g:Gr} (hf:Fair g) {x:GPort} (hx:x∈g.outs):0<=x.ac∧x.ac<g.acts.length:=by
 obtain⟨k,hk,e1,e2,-⟩:=hf.orr (x.ac,x.po) (List.mem_append.2 (.inr (List.mem_map.2 ⟨x,hx,rfl⟩)));simp only at e1;omega
theorem mm {g:Gr} (hf:Fair g) {x:GPort} (hx:x∈g.ins):aM x.name=true:=
 hf.nms _ (List.mem_append.2 (.inr (List.mem_append.2 (.inl (List.mem_map.2 ⟨_,hx,rfl⟩)))))
theorem kM {g:Gr} (hf:Fair g) {x:GPort} (hx:x∈g.outs):aM x.name=true:=
 hf.nms _ (List.mem_append.2 (.inr (List.mem_append.2 (.inr (List.mem_map.2 ⟨_,hx,rfl⟩)))))
theorem jc {g:Gr} (hf:Fair g) {x:GAct} (hx:x∈g.acts):aM x.name=true:=
 hf.nms _ (List.mem_append.2 (.inl (List.mem_map.2 ⟨_,hx,rfl⟩)))
theorem oz {g:Gr} (hf:Fair g):(df g).all aP=true:=by
 rw[List.all_eq_true];have hz:de ⟨#[]⟩ 0=true:=by kernel_rfl
 have he:bL ⟨#[]⟩=true:=by kernel_rfl
 intro x hx;unfold df at hx;simp only[List.mem_append,List.mem_map] at hx;rcases hx with((⟨y,hy,rfl⟩|⟨y,hy,rfl⟩)|⟨y,hy,rfl⟩)|⟨y,hy,rfl⟩
 ·have hs:=eb (hf.shp y hy);unfold aP bV;simp only[if_pos,jc hf hy,rJ hs.1 hs.2.1,hz,Bool.and_true]
 ·obtain⟨i,hi,rfl⟩:=List.getElem_of_mem hy;obtain⟨⟨a1,a2,-⟩,b1,b2,-⟩:=hf.ends hi;unfold aP bz;simp only[if_neg (show ¬(2:Int)=1 by decide),if_pos,he,iz hf a1 a2,iz hf b1 b2,Bool.and_true]
 ·obtain⟨a,b⟩:=sC hf hy;unfold aP eJ;simp only[if_neg (show ¬(3:Int)=1 by decide),if_neg (show ¬(3:Int)=2 by decide),if_pos,mm hf hy,he,hz,iz hf a b,List.length_nil,Bool.and_true,beq_self_eq_true]
 ·obtain⟨a,b⟩:=qU hf hy;unfold aP dQ;simp only[if_neg (show ¬(4:Int)=1 by decide),if_neg (show ¬(4:Int)=2 by decide),if_neg (show ¬(4:Int)=3 by decide),if_pos,kM hf hy,he,hz,iz hf a b,List.length_nil,Bool.and_true,beq_self_eq_true]
theorem mW {g:Gr} (hn:GNum g):∀x∈df g,cW x.fp∧cW x.tp∧∀n∈x.xs,cW n:=by
 intro x hx;unfold df at hx;simp only[List.mem_append,List.mem_map] at hx;have z0:cW 0:=⟨by decide,by decide⟩
 rcases hx with((⟨y,hy,rfl⟩|⟨y,hy,rfl⟩)|⟨y,hy,rfl⟩)|⟨y,hy,rfl⟩
 ·exact⟨z0,z0,hn.ax y hy⟩
 ·exact⟨(hn.en y hy).1,(hn.en y hy).2,hn.ex y hy⟩
 ·exact⟨z0,hn.ix y hy,fun n h=>(by cases h)⟩
 ·exact⟨hn.ox y hy,z0,fun n h=>(by cases h)⟩
theorem vr {g:Gr} (hf:Fair g):GFew g:=by
 have:=hf.na;have:=hf.ne;have:=hf.ni;have:=hf.no;refine⟨by omega,fun x hx=>?_,fun x hx=>?_⟩
 ·have:=(eb (hf.shp x hx)).2.2;omega
 ·have:=hf.ln x hx;omega
theorem vs {g:Gr} (hf:Fair g):GLen g:=by
 have:=hf.na;have:=hf.ne;have:=hf.ni;have:=hf.no;refine⟨by omega,by omega,by omega,by omega,fun x hx=>?_,fun x hx=>?_,fun x hx=>?_,fun x hx=>?_,?_⟩
 ·have:=(eb (hf.shp x hx)).2.2;have:=ci (jc hf hx);omega
 ·have:=hf.ln x hx;omega
 ·have:=ci (mm hf hx);omega
 ·have:=ci (kM hf hx);omega
 ·have:=ci hf.nm;omega
theorem un {g:Gr} (hf:Fair g):∀x∈g.acts,0<=x.tag∧x.tag<=255:=fun x hx=>by
 have:=eb (hf.shp x hx);omega
theorem oO:∀xs:List Int,(∀n∈xs,cW n)->(ak xs).length<=22*xs.length:=by
 intro xs;induction xs with
 |nil=>intro _;exact Nat.le_refl _
 |cons x r ih=>
  intro h;have i1:=ih (fun n hn=>h n (List.mem_cons_of_mem _ hn));have h1:=Lib.itoa_length_le x (h x List.mem_cons_self).1 (h x List.mem_cons_self).2;have e:ak (x::r)=32::(Lib.itoa x++ak r):=by unfold ak;simp
  rw[e];simp only[List.length_cons,List.length_append];omega
theorem gE (s:ByteArray):s.data.toList.length=s.size:=by rw[Array.length_toList];rfl
theorem lR {n:ByteArray} {p:Int} (hn:n.size<=20) (hp:cW p):(aD n p).length<=42:=by
 unfold aD;have:=Lib.itoa_length_le p hp.1 hp.2;simp only[List.length_append,List.length_cons,gE];omega
theorem sA {x:SIt} (h1:x.name.size<=20) (h2:x.tag.size<=20) (h3:x.fn.size<=20) (h4:x.tn.size<=20) (h5:cW x.fp) (h6:cW x.tp):(bP x).length<=200:=by
 have p1:=lR h3 h5;have p2:=lR h4 h6;unfold bP;split
 ·simp only[List.length_append,List.length_cons,List.length_nil,gE];omega
 ·split
  ·split<;>(simp only[List.length_append,List.length_cons,List.length_nil];omega)
  ·split
   ·simp only[List.length_append,List.length_cons,List.length_nil,gE];omega
   ·split
    ·simp only[List.length_append,List.length_cons,List.length_nil,gE];omega
    ·simp
theorem iE (B:Nat):∀l:List SIt,(∀x∈l,(bw x).length<=B)->(l.flatMap bw).length<=l.length*B:=by
 intro l;induction l with
 |nil=>intro _;simp
 |cons x r ih=>
  intro h;have i1:=ih (fun y hy=>h y (List.mem_cons_of_mem _ hy));have h1:=h x List.mem_cons_self;rw[List.flatMap_cons,List.length_append,List.length_cons,Nat.add_mul,Nat.one_mul];omega
theorem jl {x:SIt} {k:Nat} (h1:x.name.size<=20) (h2:x.tag.size<=20) (h3:x.fn.size<=20) (h4:x.tn.size<=20) (h5:cW x.fp) (h6:cW x.tp) (h7:∀n∈x.xs,cW n) (h8:x.xs.length<=k):(bw x).length<=202+22*k:=by
 have a:=sA h1 h2 h3 h4 h5 h6;have b:=oO x.xs h7;unfold bw;simp only[List.length_append,List.length_cons,List.length_nil];omega
theorem sq {g:Gr} (hf:Fair g) (hn:GNum g):(bY (da g)).length<=1048576:=by
 have hnm:∀a,(ey g a).size<=20:=fun a=>by
  unfold ey;by_cases ha:a.toNat<g.acts.length
  ·rw[List.getD_eq_getElem?_getD,List.getElem?_eq_getElem ha];have:=ci (jc hf (List.getElem_mem ha));exact Nat.le_trans this (by decide)
  ·rw[List.getD_eq_getElem?_getD,List.getElem?_eq_none (by omega)];decide
 have h0:(⟨#[]⟩:ByteArray).size<=20:=by decide
 have hb:=mW hn;have m1:∀y∈g.acts,bV y∈df g:=fun y hy=>by unfold df;simp only[List.mem_append,List.mem_map];exact .inl (.inl (.inl ⟨y,hy,rfl⟩))
 have m2:∀y∈g.edges,bz g y∈df g:=fun y hy=>by unfold df;simp only[List.mem_append,List.mem_map];exact .inl (.inl (.inr ⟨y,hy,rfl⟩))
 have m3:∀y∈g.ins,eJ g y∈df g:=fun y hy=>by unfold df;simp only[List.mem_append,List.mem_map];exact .inl (.inr ⟨y,hy,rfl⟩)
 have m4:∀y∈g.outs,dQ g y∈df g:=fun y hy=>by unfold df;simp only[List.mem_append,List.mem_map];exact .inr ⟨y,hy,rfl⟩
 have a1:=iE (202+22*16) (g.acts.map bV) (fun x hx=>by
  obtain⟨y,hy,rfl⟩:=List.mem_map.1 hx;obtain⟨q1,q2,q3⟩:=hb _ (m1 y hy);exact jl (Nat.le_trans (ci (jc hf hy)) (by decide)) (nS _) h0 h0 q1 q2 q3 (eb (hf.shp y hy)).2.2)
 have a2:=iE (202+22*256) (g.edges.map (bz g)) (fun x hx=>by
  obtain⟨y,hy,rfl⟩:=List.mem_map.1 hx;obtain⟨q1,q2,q3⟩:=hb _ (m2 y hy);exact jl h0 h0 (hnm _) (hnm _) q1 q2 q3 (hf.ln y hy))
 have a3:=iE (202+22*0) (g.ins.map (eJ g)) (fun x hx=>by
  obtain⟨y,hy,rfl⟩:=List.mem_map.1 hx;obtain⟨q1,q2,q3⟩:=hb _ (m3 y hy);exact jl (Nat.le_trans (ci (mm hf hy)) (by decide)) h0 h0 (hnm _) q1 q2 q3 (Nat.le_refl _))
 have a4:=iE (202+22*0) (g.outs.map (dQ g)) (fun x hx=>by
  obtain⟨y,hy,rfl⟩:=List.mem_map.1 hx;obtain⟨q1,q2,q3⟩:=hb _ (m4 y hy);exact jl (Nat.le_trans (ci (kM hf hy)) (by decide)) h0 (hnm _) h0 q1 q2 q3 (Nat.le_refl _))
 rw[List.length_map] at a1 a2 a3 a4;have:=hf.na;have:=hf.ne;have:=hf.ni;have:=hf.no;have hg:=ci hf.nm;have e:(da g).items.flatMap bw=(((g.acts.map bV).flatMap bw++(g.edges.map (bz g)).flatMap bw)++(g.ins.map (eJ g)).flatMap bw)++(g.outs.map (dQ g)).flatMap bw:=by
  unfold da df;simp only[List.flatMap_append]
 unfold bY;rw[e];simp only[List.length_append,List.length_cons,List.length_nil,gE];have hg':(da g).name.size<=16:=hg;omega
theorem kQ {g:Gr} (hf:Fair g) (hn:GNum g):bJ (da g)=(bY (da g),0):=by
 unfold bJ;have h1:aM (da g).name=true:=hf.nm;have h2:(da g).items.all aP=true:=oz hf;rw[h1,h2];have h3:=sq hf hn;rw[if_neg (by decide),if_neg (by omega)]
theorem lB {g h:Gr} (e:g.bare=h.bare):da g=da h:=by
 obtain⟨e1,e2,e3,e4,e5⟩:=eQ e;have hN:ey g=ey h:=by
  funext a
  unfold ey;have h1:(g.acts.map GAct.bare).map GAct.name=(h.acts.map GAct.bare).map GAct.name:=by rw[e2]
  simp only[List.map_map] at h1;have h2:g.acts.map GAct.name=h.acts.map GAct.name:=h1;have h3:(g.acts.map GAct.name)[a.toNat]? =(h.acts.map GAct.name)[a.toNat]? :=by rw[h2]
  simp only[List.getElem?_map] at h3;rw[List.getD_eq_getElem?_getD,List.getD_eq_getElem?_getD];cases hx:g.acts[a.toNat]? with
  |none=>
   cases hy:h.acts[a.toNat]? with
   |none=>rfl
   |some y=>rw[hx,hy] at h3;cases h3
  |some x=>
   cases hy:h.acts[a.toNat]? with
   |none=>rw[hx,hy] at h3;cases h3
   |some y=>rw[hx,hy] at h3;simpa using h3
 have f1:g.acts.map bV=h.acts.map bV:=by
  have h1:(g.acts.map GAct.bare).map bV=(h.acts.map GAct.bare).map bV:=by rw[e2]
  simp only[List.map_map] at h1;exact h1
 have f2:g.edges.map (bz g)=h.edges.map (bz h):=by
  have h0:bz g=bz h:=by funext x;unfold bz;rw[hN]
  have h1:(g.edges.map GEdge.bare).map (bz h)=(h.edges.map GEdge.bare).map (bz h):=by rw[e3]
  simp only[List.map_map] at h1;rw[h0];exact h1
 have f3:g.ins.map (eJ g)=h.ins.map (eJ h):=by
  have h0:eJ g=eJ h:=by funext x;unfold eJ;rw[hN]
  rw[h0,e4]
 have f4:g.outs.map (dQ g)=h.outs.map (dQ h):=by
  have h0:dQ g=dQ h:=by funext x;unfold dQ;rw[hN]
  rw[h0,e5]
 unfold da df;rw[f1,f2,f3,f4,e1]
def SIt.pl (x:SIt):SIt:= { x with a:=none,c:=0,fa:=0,ta:=0,at_:=0 }
theorem jP {s:Sk} :(cZ s).1=0 ↔ s.items.find? ij=none∧(aX (bK s)).1=0:=by
 unfold cZ;cases h:s.items.find? ij with
 |some x=>simp
 |none=>
  by_cases h2:(aX (bK s)).1=0
  ·simp[h2]
  ·simp[h2]
theorem mc {s:Sk} (h:(cZ s).1=0):cZ s=(0,0):=by
 obtain⟨h1,h2⟩:=jP.1 h;unfold cZ;rw[h1];simp only[h2,if_pos]
def gH (l:List UInt8):Int×Int:=match dv l with
 | .error e=>(e.1,(e.2:Int))
 | .ok x=>cZ x.mem
def jL (l:List UInt8):Gr:=match dv l with
 | .error _=>⟨⟨#[]⟩,none,0,[],none,0,[],none,0,[],none,0,[]⟩
 | .ok x=>bK x.mem
theorem pZ {s:Sk} (h:∀x∈s.items,cW x.fp∧cW x.tp∧∀n∈x.xs,cW n):GNum (bK s):=by
 have hk:∀k,∀x∈ofK k s.items,cW x.fp∧cW x.tp∧∀n∈x.xs,cW n:=fun k x hx=>h x (List.mem_filter.1 hx).1
 unfold bK bT;refine⟨fun x hx=>?_,fun x hx=>?_,fun x hx=>?_,fun x hx=>?_,fun x hx=>?_⟩;all_goals
  simp only[List.mem_map] at hx;obtain⟨y,hy,rfl⟩:=hx
 ·exact(hk _ y hy).2.2
 ·exact⟨(hk _ y hy).1,(hk _ y hy).2.1⟩
 ·exact(hk _ y hy).2.2
 ·exact(hk _ y hy).2.1
 ·exact(hk _ y hy).1
theorem nZ (s:Sk):(bK s).bare=bK s:=by
 unfold bK bT Gr.bare;simp only[List.map_map];rfl
theorem t6 {l:List UInt8} (h:(gH l).1=0):gH l=(0,0)∧(aX (jL l)).1=0∧GNum (jL l)∧(jL l).bare=jL l:=by
 unfold gH jL at*;cases hA:dv l with
 |error e=>
  rw[hA] at h;simp only at h;exact absurd h (ir (c:=e.1) (k:=e.2) hA).1
 |ok x=>
  rw[hA] at h;simp only at h;exact⟨mc h,(jP.1 h).2,pZ (pM hA).1.bd,nZ _⟩
set_option maxRecDepth 100000 in
theorem l5 (w:World) (c k:Int) (hc:c≠0):Calls Tryz.prog 26 #[.agg #[I c,I k]] w fun e w'=>e= .returned (.iface 33 (.agg #[I c,I k]))∧New w w':=by
 have hc0:(c==0)=false:=by simpa using hc
 go_enter Tryz.func26,Tryz.ntmps26;go_wp2_with fail;go_ret
 exact⟨rfl,(New.refl w).alloc _⟩
set_option maxRecDepth 100000 in
theorem l6 (w:World):Calls Tryz.prog 26 #[.agg #[I 0,I 0]] w fun e w'=>e= .returned .nilIface∧New w w':=by
 go_enter Tryz.func26,Tryz.ntmps26;go_wp2_with fail;go_ret
 exact⟨rfl,(New.refl w).alloc _⟩
def l8 (w:World):Prop:=w.cell? ⟨0,0,none⟩=some (.iface 167 (.agg #[hdl 28]))
theorem l8.new {w w':World} (h:l8 w) (k:New w w'):l8 w':=New.cell k h
theorem wi (w:World) (c k:Int) (t:Nat) (x0 x1:Value) (he:l8 w) (ht:w.heap[t]? =some (.cells #[x0,x1] 33 (0,0))):
  Calls Tryz.prog 29 #[.iface 33 (.agg #[I c,I k]),.iface 59 (.pointer (some ⟨t,0,none⟩))] w fun e w'=>e= .returned (.bool true)∧Keeps (fun b=>b=t) w w'∧w'.heap[t]? =some (.cells #[I c,I k] 33 (0,0)):=by
 refine(ug c k t w he x0 x1 ht).mono ?_;rintro e w' ⟨rfl,hw⟩;refine⟨rfl,?_⟩;generalize hW:World.alloc (World.alloc (World.alloc (World.alloc w _) _) _) _=W at hw;have kW:New w W:=by rw[<-hW];exact((((New.refl w).alloc _).alloc _).alloc _).alloc _
 have hT:=Keeps.heap kW ht (fun h=>h);subst hw;refine⟨(kW.mono (fun _ _ h=>h.elim)).trans ((Keeps.setCell (S:=fun b=>b=t) W _ _ rfl).trans (Keeps.setCell (S:=fun b=>b=t) _ _ _ rfl) (fun _ _ h=>h)) (fun _ _ h=>h),?_⟩;have:=block_setCell (i:=1) (block_setCell (i:=0) hT (I c)) (I k);simpa using this
theorem wh (w:World) (c:Int) (t:Nat) (x0:Value) (he:l8 w) (ht:w.heap[t]? =some (.cells #[x0] 31 (0,0))):
  Calls Tryz.prog 29 #[.iface 31 (I c),.iface 80 (.pointer (some ⟨t,0,none⟩))] w fun e w'=>e= .returned (.bool true)∧Keeps (fun b=>b=t) w w'∧w'.heap[t]? =some (.cells #[I c] 31 (0,0)):=by
 refine(uf c t w he x0 ht).mono ?_;rintro e w' ⟨rfl,hw⟩;refine⟨rfl,?_⟩;generalize hW:World.alloc (World.alloc (World.alloc (World.alloc w _) _) _) _=W at hw;have kW:New w W:=by rw[<-hW];exact((((New.refl w).alloc _).alloc _).alloc _).alloc _
 have hT:=Keeps.heap kW ht (fun h=>h);subst hw;refine⟨(kW.mono (fun _ _ h=>h.elim)).trans (Keeps.setCell (S:=fun b=>b=t) W _ _ rfl) (fun _ _ h=>h),?_⟩;have:=block_setCell (i:=0) hT (I c);simpa using this
set_option maxRecDepth 100000 in
set_option maxHeartbeats 4000000 in
theorem oN (w:World):Calls Tryz.prog 20 #[.nilIface] w fun e w'=>e= .returned (.tuple #[I 0,.bool true])∧New w w':=by
 go_enter Tryz.func20,Tryz.ntmps20;go_wp2_with fail;exact bodyPost_ret (v:= .tuple #[I 0,.bool true]) (by simp[results,Tryz.results20,go_sem]) rfl ⟨rfl,New.refl w⟩
set_option maxRecDepth 100000 in
set_option maxHeartbeats 4000000 in
theorem oM (w:World) (c:Int) (hc:c≠0) (he:l8 w):Calls Tryz.prog 20 #[.iface 31 (I c)] w fun e w'=>e= .returned (.tuple #[I c,.bool true])∧New w w':=by
 have hc0:(c==0)=false:=by simpa using hc
 have hc1:(c != 0)=true:=by simpa using hc
 have n1:New w (w.alloc (.cells #[I 0] 31)):=(New.refl w).alloc _;have hh:=wh (w.alloc (.cells #[I 0] 31)) c w.heap.size (I 0) (he.new n1) (heap_alloc_new w _);have N1:=Lib.hid n1;clear n1 he hc;go_enter Tryz.func20,Tryz.ntmps20;go_wp2_with fail;refine hh.mono ?_;rintro e w' ⟨rfl,hk,ht⟩;have c0:w'.cell? ⟨w.heap.size,0,none⟩=some (I c):=by rw[cell_of_block ht];rfl
 have N2:=Lib.hid (N1.out.keeps hk (fun i hi h=>by omega));clear hk ht hh;go_wp2_with fail;go_region
 all_goals(go_wp2_with fail)
 all_goals exact bodyPost_ret (v:= .tuple #[I c,.bool true]) (by simp[results,Tryz.results20,go_sem]) rfl ⟨rfl,by repeat' (first|exact N2.out|exact N2.out.drewN _|refine New.drew ?_)⟩
set_option maxRecDepth 100000 in
set_option maxHeartbeats 4000000 in
theorem qq (w:World) (c k:Int) (hc:c≠0) (he:l8 w):Calls Tryz.prog 12 #[.iface 33 (.agg #[I c,I k])] w fun e w'=>e= .returned (.tuple #[.agg #[I c,I k],.bool true])∧New w w':=by
 have hc0:(c==0)=false:=by simpa using hc
 have hc1:(c != 0)=true:=by simpa using hc
 have n1:New w ((w.alloc (.cells #[I 0,I 0] 33)).alloc (.cells #[I 0,I 0] 33)):=((New.refl w).alloc _).alloc _;have hh:=wi ((w.alloc (.cells #[I 0,I 0] 33)).alloc (.cells #[I 0,I 0] 33)) c k (w.heap.size+1) (I 0) (I 0) (he.new n1) (by have:=heap_alloc_new (w.alloc (.cells #[I 0,I 0] 33)) (.cells #[I 0,I 0] 33);simpa using this);have hr:((w.alloc (.cells #[I 0,I 0] 33)).alloc (.cells #[I 0,I 0] 33)).heap[w.heap.size]? =some (.cells #[I 0,I 0] 33 (0,0)):=Keeps.heap (Keeps.alloc (S:=fun _=>False) _ _) (heap_alloc_new w _) (fun h=>h);have N1:=Lib.hid n1;have HR:=Lib.hid hr;clear n1 he hc hr;go_enter Tryz.func12,Tryz.ntmps12;go_wp2_with fail;refine hh.mono ?_;rintro e w' ⟨rfl,hk,ht⟩;have c0:w'.cell? ⟨w.heap.size+1,0,none⟩=some (I c):=by rw[cell_of_block ht];rfl
 have c1:w'.cell? ⟨w.heap.size+1,1,none⟩=some (I k):=by rw[cell_of_block ht];rfl
 have hR:=hk.heap HR.out (by omega);have d0:w'.cell? ⟨w.heap.size,0,none⟩=some (I 0):=by rw[cell_of_block hR];rfl
 have d1:w'.cell? ⟨w.heap.size,1,none⟩=some (I 0):=by rw[cell_of_block hR];rfl
 have e0:=unfrozen_of_block hR 0;have e1:=unfrozen_of_block hR 1;have hlt:=(Array.getElem?_eq_some_iff.1 hR).1;have hlt2:=(Array.getElem?_eq_some_iff.1 ht).1;have N2:=Lib.hid (N1.out.keeps hk (fun i hi h=>by omega));clear hk ht hh hR;go_wp2_with fail;go_region
 all_goals(go_wp2_with fail)
 all_goals exact bodyPost_ret (v:= .tuple #[.agg #[I c,I k],.bool true]) (by simp[results,Tryz.results12,go_sem,c0,c1,d0,d1,hlt]) rfl ⟨rfl,by repeat' (first|exact N2.out|exact N2.out.drewN _|refine New.setCell ?_ (by simp) _|refine New.drew ?_)⟩
theorem mB {w:World} {R:Nat} {x0 x1:Value} {T:TypeId} (h:w.heap[R]? =some (.cells #[x0,x1] T (0,0))):
  w.cell? ⟨R,0,none⟩=some x0∧w.cell? ⟨R,1,none⟩=some x1∧w.frozen? ⟨R,0,none⟩=false∧w.frozen? ⟨R,1,none⟩=false∧R<w.heap.size:=by
 refine⟨?_,?_,unfrozen_of_block h 0,unfrozen_of_block h 1,(Array.getElem?_eq_some_iff.1 h).1⟩
 ·rw[cell_of_block h 0];rfl
 ·rw[cell_of_block h 1];rfl
structure EnvS (w:World):Prop where
 env:Env w
 et:l8 w
theorem EnvS.new {w w':World} (h:EnvS w) (k:New w w'):EnvS w':=⟨h.env.new k,h.et.new k⟩
set_option maxRecDepth 100000 in
set_option maxHeartbeats 4000000 in
theorem pj (w:World) (g:Gr) (hg:GrAt w g) (hl:GLen g) (hw:∀x∈g.acts,0<=x.tag∧x.tag<=255) (h:(aX g).1≠0):
  Calls Tryz.prog 18 #[g.v] w fun e w'=>e= .returned (.tuple #[.string ⟨#[]⟩,.iface 31 (I (aX g).1)])∧New w w':=by
 have n1:New w (w.alloc (.cells g.cs 26)):=(New.refl w).alloc _;have hd:=qb (w.alloc (.cells g.cs 26)) g (hg.new n1) hl h;obtain⟨c,hc⟩:∃c,(aX g).1=c:=⟨_,rfl⟩
 rw[hc] at hd h ⊢;have hc1:(c != 0)=true:=by simpa using h
 have N1:=Lib.hid n1;simp only[Gr.v,Gr.cs] at hd ⊢;clear n1 hg hl hw hc h;go_enter Tryz.func18,Tryz.ntmps18;go_wp2_with fail;refine hd.mono ?_;rintro e w1 ⟨rfl,n2⟩;have N2:=Lib.hid (((N1.out.trans n2).alloc (.cells #[.string ⟨#[]⟩,.slice none 0 0] 52)));clear hd n2;go_wp2_with fail;exact bodyPost_ret (v:= .tuple #[.string ⟨#[]⟩,.iface 31 (I c)]) (by simp[results,Tryz.results18,go_sem]) rfl ⟨rfl,N2.out⟩
theorem lC {s:Sk} {g:Gr} (h:s.bare=da g) (hf:Fair g) (hn:GNum g):SBnd s:=by
 obtain⟨hl,hk,hi,hx⟩:=oA h hf (vr hf);have hb:=mW hn;have hm:s.items.map SIt.bare=df g:=congrArg Sk.items h;have hq:∀x∈s.items,x.bare∈df g:=fun x hx=>hm▸List.mem_map_of_mem hx
 refine⟨hl.n,hl.i,fun x hx=>?_,fun x hx=>?_⟩
 ·obtain⟨a,b,c,d,e⟩:=hl.ix x hx;exact⟨b,c,d,e⟩
 ·obtain⟨a,b,c⟩:=hb _ (hq x hx);exact⟨a,b,c,(hl.ix x hx).1⟩
set_option maxRecDepth 100000 in
set_option maxHeartbeats 4000000 in
theorem l0 (w:World) (g:Gr) (he:Env w) (hg:GrAt w g) (h:(aX g).1=0) (hn:GNum g):
  Calls Tryz.prog 18 #[g.v] w fun e w'=>e= .returned (.tuple #[.string ⟨(bY (da g)).toArray⟩,.nilIface])∧New w w':=by
 have hf:=(jB h).1;have n1:New w (w.alloc (.cells g.cs 26)):=(New.refl w).alloc _;have hd:=oh (w.alloc (.cells g.cs 26)) g (hg.new n1) (vs hf) (un hf) h;have hp:=kQ hf hn;have hB:=fun(s:Sk) (e:s.bare=da g)=>lC e hf hn
 have N1:=Lib.hid n1;have HP:=Lib.hid hp;have HB:=Lib.hid hB;simp only[Gr.v,Gr.cs] at hd ⊢;clear n1 hg hp hB hf hn h;go_enter Tryz.func18,Tryz.ntmps18;go_wp2_with fail;refine hd.mono ?_;rintro e w1 ⟨s,rfl,hown,hs,n2⟩;have n3:New w1 (w1.alloc (.cells s.cs 52)):=(New.refl w1).alloc _;have hpr:=rd (w1.alloc (.cells s.cs 52)) s (he.new ((N1.out.trans n2).trans n3)) (hown.at.new n3) (HB.out s hs);rw[<-jT,hs,HP.out] at hpr;have N2:=Lib.hid ((N1.out.trans n2).trans n3);simp only[Sk.v,Sk.cs] at hpr ⊢;clear hd n2 n3 hown hs;go_wp2_with fail;refine hpr.mono ?_;rintro e w2 ⟨rfl,n4⟩;have N3:=Lib.hid (N2.out.trans n4);clear hpr n4;go_wp2_with fail;exact bodyPost_ret (v:= .tuple #[.string ⟨(bY (da g)).toArray⟩,.nilIface]) (by simp[results,Tryz.results18,go_sem]) rfl ⟨rfl,N3.out⟩
abbrev zGr:Value:= .agg #[.string ⟨#[]⟩,.slice none 0 0,.slice none 0 0,.slice none 0 0,.slice none 0 0]
set_option maxRecDepth 100000 in
set_option maxHeartbeats 4000000 in
theorem pi (w:World) (s:ByteArray) (he:Env w) (hs:s.size<=9223372036854775807) (c:Int) (k:Nat) (h:dv s.data.toList= .error (c,k)):
  Calls Tryz.prog 10 #[.string s] w fun e w'=>e= .returned (.tuple #[zGr,.iface 33 (.agg #[I c,I (k:Int)])])∧New w w':=by
 have hc:=(ir h).1;have n1:New w (w.alloc (.cells #[.string ⟨#[]⟩,.slice none 0 0,.slice none 0 0,.slice none 0 0,.slice none 0 0] 26)):=(New.refl w).alloc _;have hno:=pd (w.alloc (.cells #[.string ⟨#[]⟩,.slice none 0 0,.slice none 0 0,.slice none 0 0,.slice none 0 0] 26)) s (he.new n1) hs c k h;have hwr:=fun W=>l5 W c k hc
 have N1:=Lib.hid n1;have hR:=heap_alloc_new w (.cells #[.string ⟨#[]⟩,.slice none 0 0,.slice none 0 0,.slice none 0 0,.slice none 0 0] 26);have HR:=Lib.hid hR;clear n1 h hc hR;go_enter Tryz.func10,Tryz.ntmps10;go_wp2_with fail;refine hno.mono ?_;rintro e w1 ⟨rfl,n2⟩;have n3:New w1 ((w1.alloc (.cells #[.string ⟨#[]⟩,.slice none 0 0] 52)).alloc (.cells #[I c,I (k:Int)] 33)):=((New.refl _).alloc _).alloc _;have hR2:=Keeps.heap (n2.trans n3) HR.out (fun h=>h);have N2:=Lib.hid ((N1.out.trans n2).trans n3);have HR2:=Lib.hid hR2;have hwx:=hwr ((w1.alloc (.cells #[.string ⟨#[]⟩,.slice none 0 0] 52)).alloc (.cells #[I c,I (k:Int)] 33));clear hno n2 n3 hR2 hwr;go_wp2_with fail;refine hwx.mono ?_;rintro e w2 ⟨rfl,n4⟩;have hR4:=Keeps.heap n4 HR2.out (fun h=>h);obtain⟨z0,z1,z2,z3,z4,hZl⟩:=aw hR4;have gz0:=unfrozen_of_block hR4 0;have gz1:=unfrozen_of_block hR4 1;have gz2:=unfrozen_of_block hR4 2;have gz3:=unfrozen_of_block hR4 3;have gz4:=unfrozen_of_block hR4 4;have N3:=Lib.hid (N2.out.trans n4);have HR4:=Lib.hid hR4;clear hwx n4 hR4;go_wp2_with fail;obtain⟨hb9,k9⟩:=eh HR4.out (.string ⟨#[]⟩) (.slice none 0 0) (.slice none 0 0) (.slice none 0 0) (.slice none 0 0);generalize(((((w2.setCell ⟨w.heap.size,0,none⟩ (.string ⟨#[]⟩)).setCell ⟨w.heap.size,1,none⟩ (.slice none 0 0)).setCell ⟨w.heap.size,2,none⟩ (.slice none 0 0)).setCell ⟨w.heap.size,3,none⟩ (.slice none 0 0)).setCell ⟨w.heap.size,4,none⟩ (.slice none 0 0))=W9 at hb9 k9 ⊢;clear z0 z1 z2 z3 z4 hZl gz0 gz1 gz2 gz3 gz4;obtain⟨z0,z1,z2,z3,z4,hZl⟩:=aw hb9;exact bodyPost_ret (v:= .tuple #[zGr,.iface 33 (.agg #[I c,I (k:Int)])]) (by simp[results,Tryz.results10,go_sem,z0,z1,z2,z3,z4,hZl]) rfl ⟨rfl,N3.out.keeps k9 (fun i hi h=>by omega)⟩
set_option maxRecDepth 100000 in
set_option maxHeartbeats 16000000 in
theorem nQ (w:World) (s:ByteArray) (P:Sk->World->Prop) (F:Value->World->Prop)
  (hpar:Calls Tryz.prog 23 #[.string s] (w.alloc (.cells #[.string ⟨#[]⟩,.slice none 0 0,.slice none 0 0,.slice none 0 0,.slice none 0 0] 26)) fun e w1=>∃t:Sk,e= .returned (.tuple #[t.v,.agg #[I 0,I 0]])∧P t w1∧New (w.alloc (.cells #[.string ⟨#[]⟩,.slice none 0 0,.slice none 0 0,.slice none 0 0,.slice none 0 0] 26)) w1)
  (hbu:∀t w1 W,P t w1->New w1 W->Calls Tryz.prog 24 #[t.v] W fun e w'=>∃(q:Gr) (A B:Int) (ev:Value),e= .returned (.tuple #[q.v,.agg #[I A,I B]])∧
   (∀V,Calls Tryz.prog 26 #[.agg #[I A,I B]] V fun e w''=>e= .returned ev∧New V w'')∧New W w'∧
   (∀w8 w9 R1 R2 c1 c2,New w' w8->w8.heap[R1]? =some (.cells c1 26 (0,0))->w8.heap[R2]? =some (.cells c2 33 (0,0))->Keeps (fun k=>k=R1∨k=R2) w8 w9->F (.tuple #[q.v,ev]) w9)):
  Calls Tryz.prog 10 #[.string s] w fun e w'=>(∃v,e= .returned v∧F v w')∧New w w':=by
 have n1:New w (w.alloc (.cells #[.string ⟨#[]⟩,.slice none 0 0,.slice none 0 0,.slice none 0 0,.slice none 0 0] 26)):=(New.refl w).alloc _;have hR:=heap_alloc_new w (.cells #[.string ⟨#[]⟩,.slice none 0 0,.slice none 0 0,.slice none 0 0,.slice none 0 0] 26);have N1:=Lib.hid n1;have HR:=Lib.hid hR;clear n1 hR;obtain⟨R,hRe⟩:∃R,w.heap.size=R:=⟨_,rfl⟩
 rw[hRe] at HR;have HRE:=Lib.hid hRe;obtain⟨post,hpost⟩:∃post,(fun(e:Ending) (w':World)=>(∃v,e= .returned v∧F v w')∧New w w')=post:=⟨_,rfl⟩
 have HPO:=Lib.hid hpost;rw[hpost];clear hpost;go_enter Tryz.func10,Tryz.ntmps10;go_wp2_with fail;refine hpar.mono ?_;rintro e w1 ⟨t,rfl,hP,n2⟩;have m1:New w1 ((w1.alloc (.cells t.cs 52)).alloc (.cells #[I 0,I 0] 33)):=((New.refl _).alloc _).alloc _;have hS:((w1.alloc (.cells t.cs 52)).alloc (.cells #[I 0,I 0] 33)).heap[w1.heap.size]? =some (.cells t.cs 52 (0,0)):=Keeps.heap (Keeps.alloc (S:=fun _=>False) _ _) (heap_alloc_new w1 _) (fun h=>h);have hF:((w1.alloc (.cells t.cs 52)).alloc (.cells #[I 0,I 0] 33)).heap[w1.heap.size+1]? =some (.cells #[I 0,I 0] 33 (0,0)):=by
  have:=heap_alloc_new (w1.alloc (.cells t.cs 52)) (.cells #[I 0,I 0] 33);simpa using this
 have HB:=Lib.hid (fun W=>hbu t w1 W hP);have N2:=Lib.hid ((N1.out.trans n2).trans m1);have M1:=Lib.hid m1;have HSZ:=Lib.hid (N1.out.trans n2).size;have HR2:=Lib.hid (Keeps.heap (n2.trans m1) HR.out (fun h=>h));have HS:=Lib.hid hS;have HF:=Lib.hid hF;have hw0:=l6 ((w1.alloc (.cells t.cs 52)).alloc (.cells #[I 0,I 0] 33));obtain⟨name,ia,ic,items⟩:=t;simp only[Sk.cs] at hw0;have hv:Sk.v ⟨name,ia,ic,items⟩= .agg #[.string name,.slice ia items.length ic]:=rfl;rw[hv];clear hpar hbu n2 m1 hS hF hP HR N1 hv;go_wp2_with fail;refine hw0.mono ?_;rintro e w2 ⟨rfl,n3⟩;have HB2:=Lib.hid (HB.out w2 (M1.out.trans n3));have hS2:=Keeps.heap n3 HS.out (fun h=>h);have hF2:=Keeps.heap n3 HF.out (fun h=>h);have HR3:=Lib.hid (Keeps.heap n3 HR2.out (fun h=>h));have N3:=Lib.hid (N2.out.trans n3);simp only[Sk.cs] at hS2;obtain⟨p0,p1,-,-,hSl⟩:=mB hS2;have HF2:=Lib.hid hF2;have hne:R≠w1.heap.size+1:=fun h=>by
  have h1:=HR2.out;rw[h] at h1;rw[HF.out] at h1;simp at h1
 have HNE:=Lib.hid hne;have HLE:Hid (w.heap.size<=w1.heap.size+1):=Lib.hid (by have:=HSZ.out;omega);generalize w1.heap.size+1=b5 at HF2 HNE HLE ⊢;generalize w1.heap.size=b4 at p0 p1 hSl ⊢;clear hw0 n3 hS2 hF2 HS HF HR2 N2 M1 HB hne;go_wp2_with fail;refine HB2.out.mono ?_;rintro e w3 ⟨q,A,B,ev,rfl,hwr,n4,hfin⟩;have HR4:=Lib.hid (Keeps.heap n4 HR3.out (fun h=>h));have hF3:=Keeps.heap n4 HF2.out (fun h=>h);have N4:=Lib.hid (N3.out.trans n4);obtain⟨x0,x1,y0,y1,hFl⟩:=mB hF3;have HF3:=Lib.hid hF3;have HFIN:=Lib.hid hfin;have hqv:q.v= .agg #[.string q.name,.slice q.aa q.acts.length q.ac,.slice q.ea q.edges.length q.ec,.slice q.ia q.ins.length q.ic,.slice q.oa q.outs.length q.oc]:=rfl;rw[hqv];clear p0 p1 hSl n4 hF3 HF2 HR3 N3 HB2 hfin hqv;go_wp2_with fail;obtain⟨g1,g2⟩:=ji HF3.out (I A) (I B);have hR5:=g2.heap HR4.out HNE.out;have k5:Keeps (fun k=>k=b5) w3 (((w3.setCell ⟨b5,0,none⟩ (I A)).setCell ⟨b5,1,none⟩ (I B)).alloc (.cells #[.string q.name,.slice q.aa q.acts.length q.ac,.slice q.ea q.edges.length q.ec,.slice q.ia q.ins.length q.ic,.slice q.oa q.outs.length q.oc] 26)):=g2.trans (Keeps.alloc (S:=fun _=>False) _ _) (fun _ _ h=>h.elim);have g3:=Keeps.heap (Keeps.alloc (S:=fun _=>False) _ (.cells #[.string q.name,.slice q.aa q.acts.length q.ac,.slice q.ea q.edges.length q.ec,.slice q.ia q.ins.length q.ic,.slice q.oa q.outs.length q.oc] 26)) g1 (fun h=>h);have g4:=Keeps.heap (Keeps.alloc (S:=fun _=>False) _ (.cells #[.string q.name,.slice q.aa q.acts.length q.ac,.slice q.ea q.edges.length q.ec,.slice q.ia q.ins.length q.ic,.slice q.oa q.outs.length q.oc] 26)) hR5 (fun h=>h);have hsz:((w3.setCell ⟨b5,0,none⟩ (I A)).setCell ⟨b5,1,none⟩ (I B)).heap.size=w3.heap.size:=by simp
 have g5:=heap_alloc_new ((w3.setCell ⟨b5,0,none⟩ (I A)).setCell ⟨b5,1,none⟩ (I B)) (.cells #[.string q.name,.slice q.aa q.acts.length q.ac,.slice q.ea q.edges.length q.ec,.slice q.ia q.ins.length q.ic,.slice q.oa q.outs.length q.oc] 26);rw[hsz] at g5;have hne7:R<w3.heap.size:=(Array.getElem?_eq_some_iff.1 HR4.out).1;generalize((w3.setCell ⟨b5,0,none⟩ (I A)).setCell ⟨b5,1,none⟩ (I B)).alloc (.cells #[.string q.name,.slice q.aa q.acts.length q.ac,.slice q.ea q.edges.length q.ec,.slice q.ia q.ins.length q.ic,.slice q.oa q.outs.length q.oc] 26)=W5 at k5 g3 g4 g5 ⊢;have K5:=Lib.hid k5;have HR5:=Lib.hid g4;obtain⟨c0,c1,-,-,hcl⟩:=mB g3;obtain⟨d0,d1,d2,d3,d4,hdl⟩:=aw g5;generalize w3.heap.size=b7 at d0 d1 d2 d3 d4 hdl ⊢;clear x0 x1 y0 y1 hFl g1 g2 g3 g4 g5 k5 hsz hne7 hR5;have hdr:New W5 W5.drew:=(New.refl W5).drew;have HSn:∀V,New W5 V->(fun w':World=>(w'.cell? ⟨b7,0,none⟩=some (.string q.name)∧w'.cell? ⟨b7,1,none⟩=some (.slice q.aa q.acts.length q.ac)∧w'.cell? ⟨b7,2,none⟩=some (.slice q.ea q.edges.length q.ec)∧w'.cell? ⟨b7,3,none⟩=some (.slice q.ia q.ins.length q.ic)∧w'.cell? ⟨b7,4,none⟩=some (.slice q.oa q.outs.length q.oc))∧w'.cell? ⟨b5,0,none⟩=some (I A)∧w'.cell? ⟨b5,1,none⟩=some (I B)) V:=fun V kv=>⟨⟨kv.cell d0,kv.cell d1,kv.cell d2,kv.cell d3,kv.cell d4⟩,kv.cell c0,kv.cell c1⟩
 have hS0:=HSn _ hdr;clear c0 c1 d0 d1 d2 d3 d4;refine ar (fun w':World=>(w'.cell? ⟨b7,0,none⟩=some (.string q.name)∧w'.cell? ⟨b7,1,none⟩=some (.slice q.aa q.acts.length q.ac)∧w'.cell? ⟨b7,2,none⟩=some (.slice q.ea q.edges.length q.ec)∧w'.cell? ⟨b7,3,none⟩=some (.slice q.ia q.ins.length q.ic)∧w'.cell? ⟨b7,4,none⟩=some (.slice q.oa q.outs.length q.oc))∧w'.cell? ⟨b5,0,none⟩=some (I A)∧w'.cell? ⟨b5,1,none⟩=some (I B)) [3,4] (by kernel_rfl) hS0 ?_;generalize W5.drew=wd at hdr hS0 ⊢;refine ae 0 hS0 ?_;refine ae 1 hS0 ?_;refine ah 2 ?_;intro K hK;(try simp only[Act.put,sLs])
 go_simp;refine(hwr _).mono ?_;rintro e w6 ⟨rfl,n6⟩;have hn6:=hdr.trans n6;refine hK _ _ (fun _=>HSn _ hn6) ?_;clear hK K;have HR6:=Keeps.heap hn6 HR5.out (fun h=>h);obtain⟨z0,z1,z2,z3,z4,hZl⟩:=aw HR6;have gz0:=unfrozen_of_block HR6 0;have gz1:=unfrozen_of_block HR6 1;have gz2:=unfrozen_of_block HR6 2;have gz3:=unfrozen_of_block HR6 3;have gz4:=unfrozen_of_block HR6 4;refine ah 3 ?_;intro K hK;(try simp only[Act.put,sLs])
 go_simp;refine hK _ _ (fun hx=>by cases hx) ?_;clear hK K;refine ah 4 ?_;intro K hK;(try simp only[Act.put,sLs])
 go_simp;refine hK _ _ (fun hx=>by cases hx) ?_;clear hK K;refine aB (by kernel_rfl) ?_;(try simp only[Act.put,sLs])
 (try simp only[Exit.then])
 obtain⟨hb9,k9⟩:=eh HR6 (.string q.name) (.slice q.aa q.acts.length q.ac) (.slice q.ea q.edges.length q.ec) (.slice q.ia q.ins.length q.ic) (.slice q.oa q.outs.length q.oc);generalize(((((w6.setCell ⟨R,0,none⟩ (.string q.name)).setCell ⟨R,1,none⟩ (.slice q.aa q.acts.length q.ac)).setCell ⟨R,2,none⟩ (.slice q.ea q.edges.length q.ec)).setCell ⟨R,3,none⟩ (.slice q.ia q.ins.length q.ic)).setCell ⟨R,4,none⟩ (.slice q.oa q.outs.length q.oc))=W9 at hb9 k9 ⊢;clear z0 z1 z2 z3 z4 hZl gz0 gz1 gz2 gz3 gz4;have kk:Keeps (fun k=>k=R∨k=b5) w3 W9:=(K5.out.mono (fun _ _ h=> .inr h)).trans ((hn6.mono (fun _ _ h=>h.elim)).trans k9 (fun _ _ h=>h)) (fun _ _ h=> .inl h);have hfin:=HFIN.out w3 W9 R b5 _ _ (New.refl _) HR4.out HF3.out kk;have hnew:=N4.out.keeps kk (fun i hi h=>by have h1:=HRE.out;have h2:=HLE.out;omega);obtain⟨z0,z1,z2,z3,z4,hZl⟩:=aw hb9;go_wp2_with fail;refine bodyPost_ret (v:= .tuple #[.agg #[.string q.name,.slice q.aa q.acts.length q.ac,.slice q.ea q.edges.length q.ec,.slice q.ia q.ins.length q.ic,.slice q.oa q.outs.length q.oc],ev]) (by simp[results,Tryz.results10,go_sem,z0,z1,z2,z3,z4,hZl]) rfl ?_;rw[<-HPO.out];exact⟨⟨_,rfl,hfin⟩,hnew⟩
theorem uM {x:LSk} {t:Sk} {n:Nat} (h:ReadOk x n) (hn:n<=1048576) (ht:t.bare=x.mem):SLen t∧(∀y∈t.items,0<=y.kind∧y.kind<=255)∧t.items.length*64<=140737488355328∧∀y∈t.items,y.xs.length*8<=140737488355328:=by
 have hb:=(h.bnd hn).mem ht;obtain⟨-,e2⟩:=lv ht;have hm:t.items.map SIt.bare=x.mem.items:=congrArg Sk.items ht;have hq:∀y∈t.items,y.bare∈x.mem.items:=fun y hy=>hm▸List.mem_map_of_mem hy
 have hxl:∀y∈t.items,y.xs.length<=n+1:=fun y hy=>by
  obtain⟨z,hz,e⟩:=List.mem_map.1 (hq y hy);have e3:z.xs=y.xs:=congrArg SIt.xs e;rw[<-e3];exact h.xl z hz
 refine⟨⟨hb.i,hb.n,fun y hy=>?_⟩,fun y hy=>?_,?_,fun y hy=>?_⟩
 ·have a:=hb.sz y hy;exact⟨(hb.bd y hy).ln,a.n,a.t,a.f,a.o⟩
 ·have hr:=List.all_eq_true.1 h.rt _ (hq y hy);have hk:y.bare.kind=y.kind:=rfl;unfold aP at hr;rw[hk] at hr;by_cases k1:y.kind=1
  ·omega
  by_cases k2:y.kind=2
  ·omega
  by_cases k3:y.kind=3
  ·omega
  by_cases k4:y.kind=4
  ·omega
  rw[if_neg k1,if_neg k2,if_neg k3,if_neg k4] at hr;cases hr
 ·have:=h.it;omega
 ·have:=hxl y hy;omega
def j6 (w:World) (l:List UInt8) (e:Ending) (w':World):Prop:=
 ((gH l).1≠0∧e= .returned (.tuple #[zGr,.iface 33 (.agg #[I (gH l).1,I (gH l).2])])∧New w w')∨
 ((gH l).1=0∧∃B q,w.heap.size<=B∧e= .returned (.tuple #[q.v,.nilIface])∧GrOwn w' B q∧q.bare=jL l∧New w w')
theorem lg (w:World) (s:ByteArray) (he:Env w) (hs:s.size<=9223372036854775807):Calls Tryz.prog 10 #[.string s] w (j6 w s.data.toList):=by
 obtain⟨r,hA⟩:∃r,dv s.data.toList=r:=⟨_,rfl⟩
 cases r with
 |error ck=>
  obtain⟨c,k⟩:=ck;have e1:gH s.data.toList=(c,(k:Int)):=by unfold gH;rw[hA]
  refine(pi w s he hs c k hA).mono ?_;rintro e w' ⟨rfl,hn⟩;unfold j6;rw[e1];exact .inl ⟨(ir hA).1,rfl,hn⟩
 |ok x=>
  have e1:gH s.data.toList=cZ x.mem:=by unfold gH;rw[hA]
  have e2:jL s.data.toList=bK x.mem:=by unfold jL;rw[hA]
  obtain⟨hok,hlen⟩:=pM hA;have n1:New w (w.alloc (.cells #[.string ⟨#[]⟩,.slice none 0 0,.slice none 0 0,.slice none 0 0,.slice none 0 0] 26)):=(New.refl w).alloc _;refine(nQ w s (fun t w1=>t.bare=x.mem∧w.heap.size<=w1.heap.size∧∃B,SkOwn w1 B t)
   (fun v w'=>((gH s.data.toList).1≠0∧v= .tuple #[zGr,.iface 33 (.agg #[I (gH s.data.toList).1,I (gH s.data.toList).2])])∨((gH s.data.toList).1=0∧∃B q,w.heap.size<=B∧v= .tuple #[q.v,.nilIface]∧GrOwn w' B q∧q.bare=jL s.data.toList)) ?_ ?_).mono ?_
  ·refine(pe _ s (he.new n1) hs x hA).mono ?_;rintro e w1 ⟨t,ht,rfl,hown,hn⟩;exact⟨t,rfl,⟨ht,(n1.trans hn).size,_,hown⟩,hn⟩
  ·rintro t w1 W ⟨ht,hsz,B,hown⟩ hk;obtain⟨q1,q2,q3,q4⟩:=uM hok hlen ht;have e3:cZ t=cZ x.mem:=by rw[<-mL,ht]
   have e4:bK t=bK x.mem:=by rw[<-jQ,ht]
   refine(of W t (hown.new hk).at q1 q2 q3 q4).mono ?_;intro e w' hB;unfold j8 at hB;rw[e3,e4] at hB;rw[e1,e2];by_cases hf:(cZ x.mem).1≠0
   ·rw[if_pos hf] at hB;obtain⟨rfl,hn⟩:=hB;exact⟨⟨⟨#[]⟩,none,0,[],none,0,[],none,0,[],none,0,[]⟩,_,_,_,rfl,fun V=>l5 V _ _ hf,hn,fun _ _ _ _ _ _ _ _ _ _=> .inl ⟨hf,rfl⟩⟩
   ·rw[if_neg hf] at hB;obtain⟨q,rfl,hq,hqb,hn⟩:=hB;refine⟨q,0,0,.nilIface,rfl,fun V=>l6 V,hn,fun w8 w9 R1 R2 c1 c2 h8 h1 h2 kk=> .inr ⟨by simpa using hf,W.heap.size,q,?_,rfl,(hq.new h8).results h1 h2 kk,hqb⟩⟩;have:=hk.size;omega
  ·rintro e w' ⟨⟨v,rfl,hv⟩,hn⟩;unfold j6;rcases hv with⟨h1,rfl⟩|⟨h1,B,q,h2,rfl,h3,h4⟩
   ·exact .inl ⟨h1,rfl,hn⟩
   ·exact .inr ⟨h1,B,q,h2,rfl,h3,h4,hn⟩
abbrev zG0:Gr:=⟨⟨#[]⟩,none,0,[],none,0,[],none,0,[],none,0,[]⟩
theorem sw {l:List UInt8} {q:Gr} (h:(gH l).1=0) (hq:q.bare=jL l):(aX q).1=0∧GNum q∧Fair q∧q.bare=(jL l).bare:=by
 obtain⟨_,h2,h3,h4⟩:=t6 h;have e:q.bare=(jL l).bare:=by rw[h4];exact hq
 have e1:(aX q).1=0:=by rw[gR e];exact h2
 exact⟨e1,h3.same e.symm,(jB e1).1,e⟩
def awA:ByteArray:=⟨#[103,114,97,112,104,32,103,32,123,32,105,110,32,120,32,45,62,32,97,46,48,59,32,111,117,116,32,97,46,48,32,45,62,32,121,59,32,97,99,116,111,114,32,97,32,61,32,117,112,32,50,32,59,32,125]⟩
def awB:ByteArray:=⟨#[103,114,97,112,104,32,103,32,123,32,97,99,116,111,114,32,97,32,61,32,117,112,32,48,59,32,125]⟩
def awW:ByteArray:=⟨#[103,114,97,112,104,32,103,32,123,10,32,32,97,99,116,111,114,32,97,32,61,32,117,112,32,50,59,10,32,32,105,110,32,120,32,45,62,32,97,46,48,59,10,32,32,111,117,116,32,97,46,48,32,45,62,32,121,59,10,125,10]⟩
theorem wj:gH awA.data.toList=(0,0):=by kernel_rfl
theorem wk:gH awB.data.toList=(61,10):=by kernel_rfl
theorem wl:(⟨(bY (da (jL awA.data.toList))).toArray⟩:ByteArray)=awW:=by kernel_rfl
set_option maxRecDepth 100000 in
set_option maxHeartbeats 8000000 in
theorem pU (w:World) (he:EnvS w):Calls Tryz.prog 14 #[] w fun e w'=>e= .returned (.bool true)∧New w w':=by
 have h1:∀W,Env W->Calls Tryz.prog 10 #[.string ⟨#[103,114,97,112,104,32,103,32,123,32,105,110,32,120,32,45,62,32,97,46,48,59,32,111,117,116,32,97,46,48,32,45,62,32,121,59,32,97,99,116,111,114,32,97,32,61,32,117,112,32,50,32,59,32,125]⟩] W _:=fun W e=>lg W awA e (by decide)
 have h2:∀W,Env W->Calls Tryz.prog 10 #[.string ⟨#[103,114,97,112,104,32,103,32,123,32,97,99,116,111,114,32,97,32,61,32,117,112,32,48,59,32,125]⟩] W _:=fun W e=>lg W awB e (by decide)
 have HE:=Lib.hid he;go_enter Tryz.func14,Tryz.ntmps14;go_wp2_with fail;refine(h1 _ HE.out.env).mono ?_;intro e w1 hP;have a0:(gH awA.data.toList).1=0:=by rw[wj]
 rcases hP with⟨hne,_⟩|⟨_,B,q,_,rfl,hown,hqb,n1⟩
 ·exact absurd a0 hne
 obtain⟨f1,f2,f3,f4⟩:=sw a0 hqb;have n2:New w1 (w1.alloc (.cells q.cs 26)):=(New.refl _).alloc _;have hpr:=l0 (w1.alloc (.cells q.cs 26)) q (HE.out.env.new (n1.trans n2)) (hown.at.new n2) f1 f2;have eW:(⟨(bY (da q)).toArray⟩:ByteArray)=awW:=by rw[lB f4];exact wl
 rw[eW] at hpr;have N2:=Lib.hid (n1.trans n2);simp only[Gr.v,Gr.cs] at hpr ⊢;clear h1 n1 n2 a0 hown hqb f1 f2 f3 f4 eW he;go_wp2_with fail;refine hpr.mono ?_;rintro e w2 ⟨rfl,n3⟩;have hp2:=h2 w2 (HE.out.env.new (N2.out.trans n3));have N3:=Lib.hid (N2.out.trans n3);clear hpr n3 h2;go_wp2_with fail;refine hp2.mono ?_;intro e w3 hP;have b1:gH awB.data.toList=(61,10):=wk;unfold j6 at hP;rw[b1] at hP;rcases hP with⟨_,rfl,n4⟩|⟨h0,_⟩
 rotate_left
 ·simp at h0
 have n5:New w3 (w3.alloc (.cells zG0.cs 26)):=(New.refl _).alloc _;have hf:=qq (w3.alloc (.cells zG0.cs 26)) 61 10 (by decide) (HE.out.et.new ((N3.out.trans n4).trans n5));have N4:=Lib.hid ((N3.out.trans n4).trans n5);simp only[Gr.cs,zG0,List.length_nil] at hf;unfold awW;clear hp2 b1 n4 n5;go_wp2_with fail;refine hf.mono ?_;rintro e w4 ⟨rfl,n6⟩;have N5:=Lib.hid (N4.out.trans n6);clear hf n6;go_wp2_with fail;(try go_ret)
 exact⟨rfl,N5.out.alloc _⟩
end Go.Proofs.YtnedmonlofbahaaGreatDoor
