/-
  SrcA, SrcP, SrcB, SrcC: what is wanted of them.
-/
import Derived.Test.YtnedmonlofbahaaGreatDoorSwD
import Derived.Test.YtnedmonlofbahaaGreatDoorGwG
import Derived.Test.YtnedmonlofbahaaGreatDoorDbl
import Derived.Test.YtnedmonlofbahaaGreatDoorBs
import Derived.WalkKit
import Derived.LaidEql
import Derived.Stop.Asserts
import Derived.RowKitTokens
import Derived.Deep.MidRow
import Derived.Test.YtnedmonlofbahaaGreatDoorGwF
import Derived.Test.YtnedmonlofbahaaGreatDoorSwD
set_option maxRecDepth 100000
set_option maxHeartbeats 16000000
namespace Go.Proofs.YtnedmonlofbahaaGreatDoor
open Go Go.RowKit Go.Joins Go.Extern.Stop Go.Stop Go.Extern
set_option linter.all false
abbrev hdl (t:Nat):Value:= .pointer (some ⟨6,t,none⟩)
theorem rlm (z:Sem Value) (f:TypeId->Addr->Nat->Nat->Sem Value) (v:Value):
  ReflectliteValue.method z f #[v]=(do match<-ReflectliteValue.parts v with|none=>z|some (t,a,fl)=>f t a fl (fl%32)):=rfl
theorem rls (v x:Value):ReflectliteValue.set #[v,x]=(do
  let(some (dst,a,fl),some (src,b,_)):=(<-ReflectliteValue.parts v,<-ReflectliteValue.parts x)
   |unsupported (.noEntry "extern/(internal/reflectlite.Value).Set.zeroValue")
  if fl/ReflectliteValue.flagAddr%2==0 then unsupported (.noEntry "extern/(internal/reflectlite.Value).Set.unaddressable")
  let val<-loadVar src b
  if<-Rtype.directlyAssignable dst src then storeVar dst a val
  else if<-Rtype.implements dst src then
   if(<-Rtype.kind src)==20 then
    match val with
    | .nilIface=>unsupported (.noEntry "extern/reflectlite: a nil value of one interface type handed on as a value of another")
    |_=>storeVar dst a val
   else storeVar dst a (.iface src val)
  else panicString ("reflectlite.Set: value of type " ++(<-Rtype.spelt src)++ " is not assignable to type " ++(<-Rtype.spelt dst))
  pure (.tuple #[])):=rfl
theorem Cv (h:Value) (w:World):(Go.method 390 167 (.agg #[h]) "Kind").run Tryz.prog w= .ok (198,h) w:=by kernel_rfl
theorem Ch (h:Value) (w:World):(Go.method 390 167 (.agg #[h]) "Elem").run Tryz.prog w= .ok (211,.agg #[h]) w:=by kernel_rfl
theorem Cu (h:Value) (w:World):(Go.method 390 167 (.agg #[h]) "Implements").run Tryz.prog w= .ok (212,.agg #[h]) w:=by kernel_rfl
theorem zT (h:Value) (w:World):(Go.method 390 167 (.agg #[h]) "AssignableTo").run Tryz.prog w= .ok (209,.agg #[h]) w:=by kernel_rfl
theorem Bb (t:Addr) (w:World):(ReflectliteValue.unpack (.iface 59 (.pointer (some t)))).run Tryz.prog w
  = .ok (.agg #[hdl 59,.pointer (some ⟨w.heap.size,0,none⟩),.int .u64 150]) (w.alloc (.cells #[.pointer (some t)] 59)):=by kernel_rfl
theorem Ba (a:Addr) (w:World):(ReflectliteValue.methodAny (ReflectliteValue.valueError "reflectlite.Value.Type" 0) (fun t _ _ _=>ReflectliteType.toType t) #[.agg #[hdl 59,.pointer (some a),.int .u64 150]]).run Tryz.prog w
  = .ok (.iface 167 (.agg #[hdl 59])) w:=by kernel_rfl
theorem A8 (w:World):((ReflectliteType.abiMethod fun t=>(fun a:Nat=>Value.int IntKind.u8 (a:Int))<$>Rtype.kind t) #[hdl 59]).run Tryz.prog w= .ok (.int .u8 22) w:=by kernel_rfl
theorem Cn (w:World):((ReflectliteType.abiMethod fun t=>(fun a:Nat=>Value.int IntKind.u8 (a:Int))<$>Rtype.kind t) #[hdl 33]).run Tryz.prog w= .ok (.int .u8 25) w:=by kernel_rfl
theorem xw (a:Addr) (w:World):(ReflectliteValue.parts (.agg #[hdl 59,.pointer (some a),.int .u64 150])).run Tryz.prog w= .ok (some (59,a,150)) w:=by kernel_rfl
theorem Co (a p:Addr) (W:World) (ha:W.cell? a=some (.pointer (some p))):
  (ReflectliteValue.method (ReflectliteValue.valueError "reflectlite.Value.IsNil" 0) ReflectliteValue.isNil #[.agg #[hdl 59,.pointer (some a),.int .u64 150]]).run Tryz.prog W= .ok (.bool false) W:=by
 rw[rlm];simp only[Sem.run_bind,xw,Result.andThen];simp[ReflectliteValue.isNil,loadVar,isAgg,underlying,Tryz.underlying59,ha,Result.andThen]
theorem A7 (w:World):(ReflectliteType.method ReflectliteType.elem #[.agg #[hdl 59]]).run Tryz.prog w= .ok (.iface 167 (.agg #[hdl 33])) w:=by kernel_rfl
theorem Cm (w:World):(ReflectliteType.relation "Implements" ReflectliteType.implements_ #[.agg #[hdl 33],.iface 167 (.agg #[hdl 28])]).run Tryz.prog w= .ok (.bool true) w:=by kernel_rfl
theorem Cr (v:Value) (w:World):(ReflectliteType.typeOf #[.iface 33 v]).run Tryz.prog w= .ok (.iface 167 (.agg #[hdl 33])) w:=by kernel_rfl
theorem Ci (w:World):(ReflectliteType.relation "AssignableTo" ReflectliteType.assignableTo #[.agg #[hdl 33],.iface 167 (.agg #[hdl 33])]).run Tryz.prog w= .ok (.bool true) w:=by kernel_rfl
theorem Ct (c k:Int) (w:World):(ReflectliteValue.unpack (.iface 33 (.agg #[.int .i64 c,.int .i64 k]))).run Tryz.prog w
  = .ok (.agg #[hdl 33,.pointer (some ⟨w.heap.size,0,none⟩),.int .u64 153]) (w.alloc (.cells #[.int .i64 c,.int .i64 k] 33)):=by kernel_rfl
theorem Cl (w:World):(Rtype.elem? 59).run Tryz.prog w= .ok (some 33) w:=by kernel_rfl
theorem Dm (p:Addr) (w:World):(ReflectliteValue.mk 33 p ReflectliteValue.flagAddr).run Tryz.prog w= .ok (.agg #[hdl 33,.pointer (some p),.int .u64 409]) w:=by kernel_rfl
theorem Ck (a p:Addr) (W:World) (ha:W.cell? a=some (.pointer (some p))):
  (ReflectliteValue.method (ReflectliteValue.valueError "reflectlite.Value.Elem" 0) ReflectliteValue.elem #[.agg #[hdl 59,.pointer (some a),.int .u64 150]]).run Tryz.prog W
   = .ok (.agg #[hdl 33,.pointer (some p),.int .u64 409]) W:=by
 rw[rlm];simp only[Sem.run_bind,xw,Result.andThen];simp[ReflectliteValue.elem,loadVar,isAgg,underlying,Tryz.underlying59,ha,Result.andThen,Cl,Dm]
theorem A9 (a:Addr) (w:World):(ReflectliteValue.parts (.agg #[hdl 33,.pointer (some a),.int .u64 409])).run Tryz.prog w= .ok (some (33,a,409)) w:=by kernel_rfl
theorem Cp (a:Addr) (w:World):(ReflectliteValue.parts (.agg #[hdl 33,.pointer (some a),.int .u64 153])).run Tryz.prog w= .ok (some (33,a,153)) w:=by kernel_rfl
theorem Cj (w:World):(Rtype.directlyAssignable 33 33).run Tryz.prog w= .ok true w:=by kernel_rfl
theorem AO:(Tryz.prog.info? 33).map (·.size)=some 2:=by kernel_rfl
theorem Cs:∃d,Tryz.prog.underlying 33=some d∧d.isRow=true:=⟨_,Tryz.underlying33,rfl⟩
theorem Cq (t b:Nat) (c k:Int) (W:World) (hb:W.rangeAt b 0 [.int .i64 c,.int .i64 k]) (ht:W.there t 0 2):
  (ReflectliteValue.set #[.agg #[hdl 33,.pointer (some ⟨t,0,none⟩),.int .u64 409],.agg #[hdl 33,.pointer (some ⟨b,0,none⟩),.int .u64 153]]).run Tryz.prog W
   = .ok (.tuple #[]) ((W.setCell ⟨t,0,none⟩ (.int .i64 c)).setCell ⟨t,1,none⟩ (.int .i64 k)):=by
 obtain⟨d,hd1,hd2⟩:=Cs;have h1:=run_loadVar_mid (P:=Tryz.prog) W b 0 33 [.int .i64 c,.int .i64 k] d hb hd1 hd2 AO;have h2:=run_storeVar_mid (P:=Tryz.prog) W t 0 33 #[.int .i64 c,.int .i64 k] ht AO (by simp[Value.oneCell']);rw[rls];simp only[Sem.run_bind,A9,Cp,Result.andThen];simp[ReflectliteValue.flagAddr,Result.andThen,Cj,h1,h2,World.setCells]
theorem zW (c k:Int) (t:Nat) (w:World) (hg:w.cell? ⟨0,0,none⟩=some (.iface 167 (.agg #[hdl 28]))) (x0 x1:Value) (ht:w.heap[t]? =some (.cells #[x0,x1] 33 (0,0))):
  Calls Tryz.prog 29 #[.iface 33 (.agg #[.int .i64 c,.int .i64 k]),.iface 59 (.pointer (some ⟨t,0,none⟩))] w fun ev w'=>ev= .returned (.bool true)∧w'=(((((w.alloc (.cells #[.pointer (some ⟨t,0,none⟩)] 59)).alloc (.cells #[hdl 59,.pointer (some ⟨w.heap.size,0,none⟩),.int .u64 150] 127)).alloc (.cells #[hdl 59,.pointer (some ⟨w.heap.size,0,none⟩),.int .u64 150] 127)).alloc (.cells #[.int .i64 c,.int .i64 k] 33)).setCell ⟨t,0,none⟩ (.int .i64 c)).setCell ⟨t,1,none⟩ (.int .i64 k):=by
 have h6:= @run_callFunc_extern Tryz.prog 65 _ (fun args=>ReflectliteValue.unpack (args.getD 0 (.tuple #[]))) Tryz.func65 (by kernel_rfl) (by kernel_rfl) (by kernel_rfl) (by kernel_rfl);have h7:= @run_callFunc_extern Tryz.prog 66 _ (ReflectliteValue.methodAny (ReflectliteValue.valueError "reflectlite.Value.Type" 0) (fun t _ _ _=>ReflectliteType.toType t)) Tryz.func66 (by kernel_rfl) (by kernel_rfl) (by kernel_rfl) (by kernel_rfl);have h8:= @run_callFunc_extern Tryz.prog 67 _ (ReflectliteValue.method (ReflectliteValue.valueError "reflectlite.Value.IsNil" 0) ReflectliteValue.isNil) Tryz.func67 (by kernel_rfl) (by kernel_rfl) (by kernel_rfl) (by kernel_rfl);have h27:= @run_callFunc_extern Tryz.prog 198 _ (ReflectliteType.abiMethod fun t=>do pure (.int .u8 (<-Rtype.kind t))) Tryz.func198 (by kernel_rfl) (by kernel_rfl) (by kernel_rfl) (by kernel_rfl);have h37:= @run_callFunc_extern Tryz.prog 211 _ (ReflectliteType.method ReflectliteType.elem) Tryz.func211 (by kernel_rfl) (by kernel_rfl) (by kernel_rfl) (by kernel_rfl);have h38:= @run_callFunc_extern Tryz.prog 212 _ (ReflectliteType.relation "Implements" ReflectliteType.implements_) Tryz.func212 (by kernel_rfl) (by kernel_rfl) (by kernel_rfl) (by kernel_rfl);have h10:= @run_callFunc_extern Tryz.prog 56 _ ReflectliteType.typeOf Tryz.func56 (by kernel_rfl) (by kernel_rfl) (by kernel_rfl) (by kernel_rfl);have h35:= @run_callFunc_extern Tryz.prog 209 _ (ReflectliteType.relation "AssignableTo" ReflectliteType.assignableTo) Tryz.func209 (by kernel_rfl) (by kernel_rfl) (by kernel_rfl) (by kernel_rfl);have h11:= @run_callFunc_extern Tryz.prog 108 _ (ReflectliteValue.method (ReflectliteValue.valueError "reflectlite.Value.Elem" 0) ReflectliteValue.elem) Tryz.func108 (by kernel_rfl) (by kernel_rfl) (by kernel_rfl) (by kernel_rfl);have h12:= @run_callFunc_extern Tryz.prog 109 _ ReflectliteValue.set Tryz.func109 (by kernel_rfl) (by kernel_rfl) (by kernel_rfl) (by kernel_rfl);have tO:=Cr;have mA:=zT;have a25:=Ci;have v25:=Ct;have f6:=Bb;have f7:=Ba;have mK:=Cv;have mE:=Ch;have mI:=Cu;have k27:=A8;have k25:=Cn;have e27:=A7;have i25:=Cm;have htl:t<w.heap.size:=(Array.getElem?_eq_some_iff.1 ht).1;have hgl:0<w.heap.size:=World.block_lt_of_cell? _ _ hg;have n8:=Co ⟨w.heap.size,0,none⟩ ⟨t,0,none⟩ ((w.alloc (.cells #[.pointer (some ⟨t,0,none⟩)] 59)).alloc (.cells #[hdl 59,.pointer (some ⟨w.heap.size,0,none⟩),.int .u64 150] 127)) (by simp);have hg2:((w.alloc (.cells #[.pointer (some ⟨t,0,none⟩)] 59)).alloc (.cells #[hdl 59,.pointer (some ⟨w.heap.size,0,none⟩),.int .u64 150] 127)).cell? ⟨0,0,none⟩=some (.iface 167 (.agg #[hdl 28])):=by
  rw[World.cell?_alloc_lt _ _ ⟨0,0,none⟩ (by simp),World.cell?_alloc_lt _ _ ⟨0,0,none⟩ hgl];exact hg
 have el:=Ck ⟨w.heap.size,0,none⟩ ⟨t,0,none⟩ (((w.alloc (.cells #[.pointer (some ⟨t,0,none⟩)] 59)).alloc (.cells #[hdl 59,.pointer (some ⟨w.heap.size,0,none⟩),.int .u64 150] 127)).alloc (.cells #[hdl 59,.pointer (some ⟨w.heap.size,0,none⟩),.int .u64 150] 127)) (by rw[World.cell?_alloc_lt _ _ ⟨w.heap.size,0,none⟩ (by simp;omega)];simp);have hc:∀(j:Nat),((((w.alloc (.cells #[.pointer (some ⟨t,0,none⟩)] 59)).alloc (.cells #[hdl 59,.pointer (some ⟨w.heap.size,0,none⟩),.int .u64 150] 127)).alloc (.cells #[hdl 59,.pointer (some ⟨w.heap.size,0,none⟩),.int .u64 150] 127)).alloc (.cells #[.int .i64 c,.int .i64 k] 33)).cell? ⟨t,j,none⟩=w.cell? ⟨t,j,none⟩:=fun j=>by
  rw[World.cell?_alloc_lt _ _ ⟨t,j,none⟩ (by simp;omega),World.cell?_alloc_lt _ _ ⟨t,j,none⟩ (by simp;omega),World.cell?_alloc_lt _ _ ⟨t,j,none⟩ (by simp;omega),World.cell?_alloc_lt _ _ ⟨t,j,none⟩ htl]
 have hf:∀(j:Nat),((((w.alloc (.cells #[.pointer (some ⟨t,0,none⟩)] 59)).alloc (.cells #[hdl 59,.pointer (some ⟨w.heap.size,0,none⟩),.int .u64 150] 127)).alloc (.cells #[hdl 59,.pointer (some ⟨w.heap.size,0,none⟩),.int .u64 150] 127)).alloc (.cells #[.int .i64 c,.int .i64 k] 33)).frozen? ⟨t,j,none⟩=w.frozen? ⟨t,j,none⟩:=fun j=>by
  rw[World.frozen?_alloc_old _ _ ⟨t,j,none⟩ (by simp;omega),World.frozen?_alloc_old _ _ ⟨t,j,none⟩ (by simp;omega),World.frozen?_alloc_old _ _ ⟨t,j,none⟩ (by simp;omega),World.frozen?_alloc_old _ _ ⟨t,j,none⟩ (Nat.ne_of_lt htl)]
 have st:=Cq t (w.heap.size+1+1+1) c k ((((w.alloc (.cells #[.pointer (some ⟨t,0,none⟩)] 59)).alloc (.cells #[hdl 59,.pointer (some ⟨w.heap.size,0,none⟩),.int .u64 150] 127)).alloc (.cells #[hdl 59,.pointer (some ⟨w.heap.size,0,none⟩),.int .u64 150] 127)).alloc (.cells #[.int .i64 c,.int .i64 k] 33))
  (by
   intro j v hv;rcases j with _|_|j
   ·simp at hv;subst hv;rw[World.cell?_alloc_at _ _ _ _ (by simp)];rfl
   ·simp at hv;subst hv;rw[World.cell?_alloc_at _ _ _ _ (by simp)];rfl
   ·simp at hv)
  (by
   intro j hj;rw[Nat.zero_add,hc,hf];refine⟨?_,unfrozen_of_block ht j⟩;rw[cell_of_block ht];rcases j with _|_|j
   ·rfl
   ·rfl
   ·omega)
 clear hc hf ht;go_enter Tryz.func29,Tryz.ntmps29;go_wp2
 refine wp_loop_rounds 1 ?_;rw[rounds_succ];go_wp2
 go_ret
 exact⟨rfl,rfl⟩
end Go.Proofs.YtnedmonlofbahaaGreatDoor
namespace Go.Proofs.YtnedmonlofbahaaGreatDoor
open Go Go.RowKit Go.Joins
set_option linter.all false
structure GNum (g:Gr):Prop where
 ax:∀x∈g.acts,∀y∈x.xs,dR y
 en:∀x∈g.edges,dR x.fp∧dR x.tp
 ex:∀x∈g.edges,∀y∈x.xs,dR y
 ix:∀x∈g.ins,dR x.po
 ox:∀x∈g.outs,dR x.po
theorem GNum.same {g h:Gr} (e:g.bare=h.bare) (k:GNum g):GNum h:=by
 obtain⟨-,e2,e3,e4,e5⟩:=g8 e;have ha:∀x∈h.acts,∃y∈g.acts,y.xs=x.xs:=fun x hx=>by
  have hm:x.bare∈g.acts.map GAct.bare:=e2▸List.mem_map_of_mem hx;obtain⟨y,hy,he⟩:=List.mem_map.1 hm;exact⟨y,hy,by have:=congrArg GAct.xs he;exact this⟩
 have hb:∀x∈h.edges,∃y∈g.edges,y.xs=x.xs∧y.fp=x.fp∧y.tp=x.tp:=fun x hx=>by
  have hm:x.bare∈g.edges.map GEdge.bare:=e3▸List.mem_map_of_mem hx;obtain⟨y,hy,he⟩:=List.mem_map.1 hm;exact⟨y,hy,by have:=congrArg GEdge.xs he;exact this,by have:=congrArg GEdge.fp he;exact this,by have:=congrArg GEdge.tp he;exact this⟩
 refine⟨fun x hx y hy=>?_,fun x hx=>?_,fun x hx y hy=>?_,fun x hx=>k.ix x (e4▸hx),fun x hx=>k.ox x (e5▸hx)⟩
 ·obtain⟨z,hz,hq⟩:=ha x hx;exact k.ax z hz y (hq▸hy)
 ·obtain⟨z,hz,_,q1,q2⟩:=hb x hx;rw[<-q1,<-q2];exact k.en z hz
 ·obtain⟨z,hz,hq,_⟩:=hb x hx;exact k.ex z hz y (hq▸hy)
theorem xe {t:Int} (h1:1<=t) (h2:t<=11):aQ (lf t).1=true:=by
 rcases gp h1 h2 with rfl|rfl|rfl|rfl|rfl|rfl|rfl|rfl|rfl|rfl|rfl<;>kernel_rfl
theorem kr {g:Gr} (hf:Fair g) {a:Int} (h0:0<=a) (h1:a<g.acts.length):aQ (fR g a)=true:=by
 obtain⟨k,rfl⟩:∃k:Nat,a=k:=⟨a.toNat,by omega⟩
 have hk:k<g.acts.length:=by omega
 rw[jb g hk];exact hf.nms _ (List.mem_append.2 (.inl (List.mem_map.2 ⟨_,List.getElem_mem hk,rfl⟩)))
theorem yF {g:Gr} (hf:Fair g) {x:GPort} (hx:x∈g.ins):0<=x.ac∧x.ac<g.acts.length:=by
 obtain⟨k,hk,e1,e2,-⟩:=hf.irr (x.ac,x.po) (List.mem_append.2 (.inr (List.mem_map.2 ⟨x,hx,rfl⟩)));simp only at e1;omega
theorem wy {g:Gr} (hf:Fair g) {x:GPort} (hx:x∈g.outs):0<=x.ac∧x.ac<g.acts.length:=by
 obtain⟨k,hk,e1,e2,-⟩:=hf.orr (x.ac,x.po) (List.mem_append.2 (.inr (List.mem_map.2 ⟨x,hx,rfl⟩)));simp only at e1;omega
theorem qJ {g:Gr} (hf:Fair g) {x:GPort} (hx:x∈g.ins):aQ x.name=true:=
 hf.nms _ (List.mem_append.2 (.inr (List.mem_append.2 (.inl (List.mem_map.2 ⟨_,hx,rfl⟩)))))
theorem oP {g:Gr} (hf:Fair g) {x:GPort} (hx:x∈g.outs):aQ x.name=true:=
 hf.nms _ (List.mem_append.2 (.inr (List.mem_append.2 (.inr (List.mem_map.2 ⟨_,hx,rfl⟩)))))
theorem lI {g:Gr} (hf:Fair g) {x:GAct} (hx:x∈g.acts):aQ x.name=true:=
 hf.nms _ (List.mem_append.2 (.inl (List.mem_map.2 ⟨_,hx,rfl⟩)))
theorem td {g:Gr} (hf:Fair g):(dZ g).all bD=true:=by
 rw[List.all_eq_true];have hz:fY ⟨#[]⟩ 0=true:=by kernel_rfl
 have he:dI ⟨#[]⟩=true:=by kernel_rfl
 intro x hx;unfold dZ at hx;simp only[List.mem_append,List.mem_map] at hx;rcases hx with((⟨y,hy,rfl⟩|⟨y,hy,rfl⟩)|⟨y,hy,rfl⟩)|⟨y,hy,rfl⟩
 ·have hs:=fD (hf.shp y hy);unfold bD eE;simp only[if_pos,lI hf hy,xe hs.1 hs.2.1,hz,Bool.and_true]
 ·obtain⟨i,hi,rfl⟩:=List.getElem_of_mem hy;obtain⟨⟨a1,a2,-⟩,b1,b2,-⟩:=hf.ends hi;unfold bD cT;simp only[if_neg (show ¬(2:Int)=1 by decide),if_pos,he,kr hf a1 a2,kr hf b1 b2,Bool.and_true]
 ·obtain⟨a,b⟩:=yF hf hy;unfold bD i6;simp only[if_neg (show ¬(3:Int)=1 by decide),if_neg (show ¬(3:Int)=2 by decide),if_pos,qJ hf hy,he,hz,kr hf a b,List.length_nil,Bool.and_true,beq_self_eq_true]
 ·obtain⟨a,b⟩:=wy hf hy;unfold bD gA;simp only[if_neg (show ¬(4:Int)=1 by decide),if_neg (show ¬(4:Int)=2 by decide),if_neg (show ¬(4:Int)=3 by decide),if_pos,oP hf hy,he,hz,kr hf a b,List.length_nil,Bool.and_true,beq_self_eq_true]
theorem rA {g:Gr} (hn:GNum g):∀x∈dZ g,dR x.fp∧dR x.tp∧∀n∈x.xs,dR n:=by
 intro x hx;unfold dZ at hx;simp only[List.mem_append,List.mem_map] at hx;have z0:dR 0:=⟨by decide,by decide⟩
 rcases hx with((⟨y,hy,rfl⟩|⟨y,hy,rfl⟩)|⟨y,hy,rfl⟩)|⟨y,hy,rfl⟩
 ·exact⟨z0,z0,hn.ax y hy⟩
 ·exact⟨(hn.en y hy).1,(hn.en y hy).2,hn.ex y hy⟩
 ·exact⟨z0,hn.ix y hy,fun n h=>(by cases h)⟩
 ·exact⟨hn.ox y hy,z0,fun n h=>(by cases h)⟩
theorem Bf {g:Gr} (hf:Fair g):GFew g:=by
 have:=hf.na;have:=hf.ne;have:=hf.ni;have:=hf.no;refine⟨by omega,fun x hx=>?_,fun x hx=>?_⟩
 ·have:=(fD (hf.shp x hx)).2.2;omega
 ·have:=hf.ln x hx;omega
theorem xW {g:Gr} (hf:Fair g):GLen g:=by
 have:=hf.na;have:=hf.ne;have:=hf.ni;have:=hf.no;refine⟨by omega,by omega,by omega,by omega,fun x hx=>?_,fun x hx=>?_,fun x hx=>?_,fun x hx=>?_,?_⟩
 ·have:=(fD (hf.shp x hx)).2.2;have:=cK (lI hf hx);omega
 ·have:=hf.ln x hx;omega
 ·have:=cK (qJ hf hx);omega
 ·have:=cK (oP hf hx);omega
 ·have:=cK hf.nm;omega
theorem Af {g:Gr} (hf:Fair g):∀x∈g.acts,0<=x.tag∧x.tag<=255:=fun x hx=>by
 have:=fD (hf.shp x hx);omega
theorem tT:∀xs:List Int,(∀n∈xs,dR n)->(bL xs).length<=22*xs.length:=by
 intro xs;induction xs with
 |nil=>intro _;exact Nat.le_refl _
 |cons x r ih=>
  intro h;have i1:=ih (fun n hn=>h n (List.mem_cons_of_mem _ hn));have h1:=Lib.itoa_length_le x (h x List.mem_cons_self).1 (h x List.mem_cons_self).2;have e:bL (x::r)=32::(Lib.itoa x++bL r):=by unfold bL;simp
  rw[e];simp only[List.length_cons,List.length_append];omega
theorem jg (s:ByteArray):s.data.toList.length=s.size:=by rw[Array.length_toList];rfl
theorem pY {n:ByteArray} {p:Int} (hn:n.size<=20) (hp:dR p):(dL n p).length<=42:=by
 unfold dL;have:=Lib.itoa_length_le p hp.1 hp.2;simp only[List.length_append,List.length_cons,jg];omega
theorem yg {x:SIt} (h1:x.name.size<=20) (h2:x.tag.size<=20) (h3:x.fn.size<=20) (h4:x.tn.size<=20) (h5:dR x.fp) (h6:dR x.tp):(ft x).length<=200:=by
 have p1:=pY h3 h5;have p2:=pY h4 h6;unfold ft;split
 ·simp only[List.length_append,List.length_cons,List.length_nil,jg];omega
 ·split
  ·split<;>(simp only[List.length_append,List.length_cons,List.length_nil];omega)
  ·split
   ·simp only[List.length_append,List.length_cons,List.length_nil,jg];omega
   ·split
    ·simp only[List.length_append,List.length_cons,List.length_nil,jg];omega
    ·simp
theorem ky (B:Nat):∀l:List SIt,(∀x∈l,(cl x).length<=B)->(l.flatMap cl).length<=l.length*B:=by
 intro l;induction l with
 |nil=>intro _;simp
 |cons x r ih=>
  intro h;have i1:=ih (fun y hy=>h y (List.mem_cons_of_mem _ hy));have h1:=h x List.mem_cons_self;rw[List.flatMap_cons,List.length_append,List.length_cons,Nat.add_mul,Nat.one_mul];omega
theorem lZ {x:SIt} {k:Nat} (h1:x.name.size<=20) (h2:x.tag.size<=20) (h3:x.fn.size<=20) (h4:x.tn.size<=20) (h5:dR x.fp) (h6:dR x.tp) (h7:∀n∈x.xs,dR n) (h8:x.xs.length<=k):(cl x).length<=202+22*k:=by
 have a:=yg h1 h2 h3 h4 h5 h6;have b:=tT x.xs h7;unfold cl;simp only[List.length_append,List.length_cons,List.length_nil];omega
theorem xO {g:Gr} (hf:Fair g) (hn:GNum g):(dE (fs g)).length<=1048576:=by
 have hnm:∀a,(fR g a).size<=20:=fun a=>by
  unfold fR;by_cases ha:a.toNat<g.acts.length
  ·rw[List.getD_eq_getElem?_getD,List.getElem?_eq_getElem ha];have:=cK (lI hf (List.getElem_mem ha));exact Nat.le_trans this (by decide)
  ·rw[List.getD_eq_getElem?_getD,List.getElem?_eq_none (by omega)];decide
 have h0:(⟨#[]⟩:ByteArray).size<=20:=by decide
 have hb:=rA hn;have m1:∀y∈g.acts,eE y∈dZ g:=fun y hy=>by unfold dZ;simp only[List.mem_append,List.mem_map];exact .inl (.inl (.inl ⟨y,hy,rfl⟩))
 have m2:∀y∈g.edges,cT g y∈dZ g:=fun y hy=>by unfold dZ;simp only[List.mem_append,List.mem_map];exact .inl (.inl (.inr ⟨y,hy,rfl⟩))
 have m3:∀y∈g.ins,i6 g y∈dZ g:=fun y hy=>by unfold dZ;simp only[List.mem_append,List.mem_map];exact .inl (.inr ⟨y,hy,rfl⟩)
 have m4:∀y∈g.outs,gA g y∈dZ g:=fun y hy=>by unfold dZ;simp only[List.mem_append,List.mem_map];exact .inr ⟨y,hy,rfl⟩
 have a1:=ky (202+22*16) (g.acts.map eE) (fun x hx=>by
  obtain⟨y,hy,rfl⟩:=List.mem_map.1 hx;obtain⟨q1,q2,q3⟩:=hb _ (m1 y hy);exact lZ (Nat.le_trans (cK (lI hf hy)) (by decide)) (sL _) h0 h0 q1 q2 q3 (fD (hf.shp y hy)).2.2)
 have a2:=ky (202+22*256) (g.edges.map (cT g)) (fun x hx=>by
  obtain⟨y,hy,rfl⟩:=List.mem_map.1 hx;obtain⟨q1,q2,q3⟩:=hb _ (m2 y hy);exact lZ h0 h0 (hnm _) (hnm _) q1 q2 q3 (hf.ln y hy))
 have a3:=ky (202+22*0) (g.ins.map (i6 g)) (fun x hx=>by
  obtain⟨y,hy,rfl⟩:=List.mem_map.1 hx;obtain⟨q1,q2,q3⟩:=hb _ (m3 y hy);exact lZ (Nat.le_trans (cK (qJ hf hy)) (by decide)) h0 h0 (hnm _) q1 q2 q3 (Nat.le_refl _))
 have a4:=ky (202+22*0) (g.outs.map (gA g)) (fun x hx=>by
  obtain⟨y,hy,rfl⟩:=List.mem_map.1 hx;obtain⟨q1,q2,q3⟩:=hb _ (m4 y hy);exact lZ (Nat.le_trans (cK (oP hf hy)) (by decide)) h0 (hnm _) h0 q1 q2 q3 (Nat.le_refl _))
 rw[List.length_map] at a1 a2 a3 a4;have:=hf.na;have:=hf.ne;have:=hf.ni;have:=hf.no;have hg:=cK hf.nm;have e:(fs g).items.flatMap cl=(((g.acts.map eE).flatMap cl++(g.edges.map (cT g)).flatMap cl)++(g.ins.map (i6 g)).flatMap cl)++(g.outs.map (gA g)).flatMap cl:=by
  unfold fs dZ;simp only[List.flatMap_append]
 unfold dE;rw[e];simp only[List.length_append,List.length_cons,List.length_nil,jg];have hg':(fs g).name.size<=16:=hg;omega
theorem t8 {g:Gr} (hf:Fair g) (hn:GNum g):dW (fs g)=(dE (fs g),0):=by
 unfold dW;have h1:aQ (fs g).name=true:=hf.nm;have h2:(fs g).items.all bD=true:=td hf;rw[h1,h2];have h3:=xO hf hn;rw[if_neg (by decide),if_neg (by omega)]
theorem vI {g h:Gr} (e:g.bare=h.bare):fs g=fs h:=by
 obtain⟨e1,e2,e3,e4,e5⟩:=g8 e;have hN:fR g=fR h:=by
  funext a
  unfold fR;have h1:(g.acts.map GAct.bare).map GAct.name=(h.acts.map GAct.bare).map GAct.name:=by rw[e2]
  simp only[List.map_map] at h1;have h2:g.acts.map GAct.name=h.acts.map GAct.name:=h1;have h3:(g.acts.map GAct.name)[a.toNat]? =(h.acts.map GAct.name)[a.toNat]? :=by rw[h2]
  simp only[List.getElem?_map] at h3;rw[List.getD_eq_getElem?_getD,List.getD_eq_getElem?_getD];cases hx:g.acts[a.toNat]? with
  |none=>
   cases hy:h.acts[a.toNat]? with
   |none=>rfl
   |some y=>rw[hx,hy] at h3;cases h3
  |some x=>
   cases hy:h.acts[a.toNat]? with
   |none=>rw[hx,hy] at h3;cases h3
   |some y=>rw[hx,hy] at h3;simpa using h3
 have f1:g.acts.map eE=h.acts.map eE:=by
  have h1:(g.acts.map GAct.bare).map eE=(h.acts.map GAct.bare).map eE:=by rw[e2]
  simp only[List.map_map] at h1;exact h1
 have f2:g.edges.map (cT g)=h.edges.map (cT h):=by
  have h0:cT g=cT h:=by funext x;unfold cT;rw[hN]
  have h1:(g.edges.map GEdge.bare).map (cT h)=(h.edges.map GEdge.bare).map (cT h):=by rw[e3]
  simp only[List.map_map] at h1;rw[h0];exact h1
 have f3:g.ins.map (i6 g)=h.ins.map (i6 h):=by
  have h0:i6 g=i6 h:=by funext x;unfold i6;rw[hN]
  rw[h0,e4]
 have f4:g.outs.map (gA g)=h.outs.map (gA h):=by
  have h0:gA g=gA h:=by funext x;unfold gA;rw[hN]
  rw[h0,e5]
 unfold fs dZ;rw[f1,f2,f3,f4,e1]
def SIt.pl (x:SIt):SIt:= { x with a:=none,c:=0,fa:=0,ta:=0,at_:=0 }
theorem mZ {s:Sk} :(cx s).1=0 ↔ s.items.find? gZ=none∧(bz (aX s)).1=0:=by
 unfold cx;cases h:s.items.find? gZ with
 |some x=>simp
 |none=>
  by_cases h2:(bz (aX s)).1=0
  ·simp[h2]
  ·simp[h2]
theorem qx {s:Sk} (h:(cx s).1=0):cx s=(0,0):=by
 obtain⟨h1,h2⟩:=mZ.1 h;unfold cx;rw[h1];simp only[h2,if_pos]
def dP (l:List UInt8):Int×Int:=match cz l with
 | .error e=>(e.1,(e.2:Int))
 | .ok x=>cx x.mem
def kP (l:List UInt8):Gr:=match cz l with
 | .error _=>⟨⟨#[]⟩,none,0,[],none,0,[],none,0,[],none,0,[]⟩
 | .ok x=>aX x.mem
theorem vw {s:Sk} (h:∀x∈s.items,dR x.fp∧dR x.tp∧∀n∈x.xs,dR n):GNum (aX s):=by
 have hk:∀k,∀x∈ofK k s.items,dR x.fp∧dR x.tp∧∀n∈x.xs,dR n:=fun k x hx=>h x (List.mem_filter.1 hx).1
 unfold aX bv;refine⟨fun x hx=>?_,fun x hx=>?_,fun x hx=>?_,fun x hx=>?_,fun x hx=>?_⟩;all_goals
  simp only[List.mem_map] at hx;obtain⟨y,hy,rfl⟩:=hx
 ·exact(hk _ y hy).2.2
 ·exact⟨(hk _ y hy).1,(hk _ y hy).2.1⟩
 ·exact(hk _ y hy).2.2
 ·exact(hk _ y hy).2.1
 ·exact(hk _ y hy).1
theorem sS (s:Sk):(aX s).bare=aX s:=by
 unfold aX bv Gr.bare;simp only[List.map_map];rfl
theorem o8 {l:List UInt8} (h:(dP l).1=0):dP l=(0,0)∧(bz (kP l)).1=0∧GNum (kP l)∧(kP l).bare=kP l:=by
 unfold dP kP at*;cases hA:cz l with
 |error e=>
  rw[hA] at h;simp only at h;exact absurd h (iK (c:=e.1) (k:=e.2) hA).1
 |ok x=>
  rw[hA] at h;simp only at h;exact⟨qx h,(mZ.1 h).2,vw (qR hA).1.bd,sS _⟩
theorem qo (w:World) (c k:Int) (hc:c≠0):Calls Tryz.prog 26 #[.agg #[I c,I k]] w fun e w'=>e= .returned (.iface 33 (.agg #[I c,I k]))∧New w w':=by
 have hc0:(c==0)=false:=by simpa using hc
 go_enter Tryz.func26,Tryz.ntmps26;go_wp2_with fail;go_ret
 exact⟨rfl,(New.refl w).alloc _⟩
theorem qr (w:World):Calls Tryz.prog 26 #[.agg #[I 0,I 0]] w fun e w'=>e= .returned .nilIface∧New w w':=by
 go_enter Tryz.func26,Tryz.ntmps26;go_wp2_with fail;go_ret
 exact⟨rfl,(New.refl w).alloc _⟩
def qs (w:World):Prop:=w.cell? ⟨0,0,none⟩=some (.iface 167 (.agg #[hdl 28]))
theorem qs.new {w w':World} (h:qs w) (k:New w w'):qs w':=New.cell k h
theorem Dn (w:World) (c k:Int) (t:Nat) (x0 x1:Value) (he:qs w) (ht:w.heap[t]? =some (.cells #[x0,x1] 33 (0,0))):
  Calls Tryz.prog 29 #[.iface 33 (.agg #[I c,I k]),.iface 59 (.pointer (some ⟨t,0,none⟩))] w fun e w'=>e= .returned (.bool true)∧Keeps (fun b=>b=t) w w'∧w'.heap[t]? =some (.cells #[I c,I k] 33 (0,0)):=by
 refine(zW c k t w he x0 x1 ht).mono ?_;rintro e w' ⟨rfl,hw⟩;refine⟨rfl,?_⟩;generalize hW:World.alloc (World.alloc (World.alloc (World.alloc w _) _) _) _=W at hw;have kW:New w W:=by rw[<-hW];exact((((New.refl w).alloc _).alloc _).alloc _).alloc _
 have hT:=Keeps.heap kW ht (fun h=>h);subst hw;refine⟨(kW.mono (fun _ _ h=>h.elim)).trans ((Keeps.setCell (S:=fun b=>b=t) W _ _ rfl).trans (Keeps.setCell (S:=fun b=>b=t) _ _ _ rfl) (fun _ _ h=>h)) (fun _ _ h=>h),?_⟩;have:=block_setCell (i:=1) (block_setCell (i:=0) hT (I c)) (I k);simpa using this
theorem vN (w:World):Calls Tryz.prog 12 #[.nilIface] w fun e w'=>e= .returned (.tuple #[.agg #[I 0,I 0],.bool true])∧New w w':=by
 go_enter Tryz.func12,Tryz.ntmps12;go_wp2_with fail;exact bodyPost_ret (v:= .tuple #[.agg #[I 0,I 0],.bool true]) (by simp[results,Tryz.results12,go_sem]) rfl ⟨rfl,(New.refl w).alloc _⟩
theorem py (w:World) (c k:Int) (hc:c≠0) (he:qs w):Calls Tryz.prog 12 #[.iface 33 (.agg #[I c,I k])] w fun e w'=>e= .returned (.tuple #[.agg #[I c,I k],.bool true])∧New w w':=by
 have hc0:(c==0)=false:=by simpa using hc
 have hc1:(c != 0)=true:=by simpa using hc
 have n1:New w ((w.alloc (.cells #[I 0,I 0] 33)).alloc (.cells #[I 0,I 0] 33)):=((New.refl w).alloc _).alloc _;have hh:=Dn ((w.alloc (.cells #[I 0,I 0] 33)).alloc (.cells #[I 0,I 0] 33)) c k (w.heap.size+1) (I 0) (I 0) (he.new n1) (by have:=heap_alloc_new (w.alloc (.cells #[I 0,I 0] 33)) (.cells #[I 0,I 0] 33);simpa using this);have hr:((w.alloc (.cells #[I 0,I 0] 33)).alloc (.cells #[I 0,I 0] 33)).heap[w.heap.size]? =some (.cells #[I 0,I 0] 33 (0,0)):=Keeps.heap (Keeps.alloc (S:=fun _=>False) _ _) (heap_alloc_new w _) (fun h=>h);have N1:=Lib.hid n1;have HR:=Lib.hid hr;clear n1 he hc hr;go_enter Tryz.func12,Tryz.ntmps12;go_wp2_with fail;refine hh.mono ?_;rintro e w' ⟨rfl,hk,ht⟩;have c0:w'.cell? ⟨w.heap.size+1,0,none⟩=some (I c):=by rw[cell_of_block ht];rfl
 have c1:w'.cell? ⟨w.heap.size+1,1,none⟩=some (I k):=by rw[cell_of_block ht];rfl
 have hR:=hk.heap HR.out (by omega);have d0:w'.cell? ⟨w.heap.size,0,none⟩=some (I 0):=by rw[cell_of_block hR];rfl
 have d1:w'.cell? ⟨w.heap.size,1,none⟩=some (I 0):=by rw[cell_of_block hR];rfl
 have e0:=unfrozen_of_block hR 0;have e1:=unfrozen_of_block hR 1;have hlt:=(Array.getElem?_eq_some_iff.1 hR).1;have Ep:=(Array.getElem?_eq_some_iff.1 ht).1;have N2:=Lib.hid (N1.out.keeps hk (fun i hi h=>by omega));clear hk ht hh hR;go_wp2_with fail;go_region
 all_goals(go_wp2_with fail)
 all_goals exact bodyPost_ret (v:= .tuple #[.agg #[I c,I k],.bool true]) (by simp[results,Tryz.results12,go_sem,c0,c1,d0,d1,hlt]) rfl ⟨rfl,by repeat' (first|exact N2.out|exact N2.out.drewN _|refine New.setCell ?_ (by simp) _|refine New.drew ?_)⟩
theorem iQ {w:World} {R:Nat} {x0 x1:Value} {T:TypeId} (h:w.heap[R]? =some (.cells #[x0,x1] T (0,0))):
  w.cell? ⟨R,0,none⟩=some x0∧w.cell? ⟨R,1,none⟩=some x1∧w.frozen? ⟨R,0,none⟩=false∧w.frozen? ⟨R,1,none⟩=false∧R<w.heap.size:=by
 refine⟨?_,?_,unfrozen_of_block h 0,unfrozen_of_block h 1,(Array.getElem?_eq_some_iff.1 h).1⟩
 ·rw[cell_of_block h 0];rfl
 ·rw[cell_of_block h 1];rfl
structure EnvS (w:World):Prop where
 env:Env w
 et:qs w
theorem EnvS.new {w w':World} (h:EnvS w) (k:New w w'):EnvS w':=⟨h.env.new k,h.et.new k⟩
theorem vK {s:Sk} {g:Gr} (h:s.bare=fs g) (hf:Fair g) (hn:GNum g):SBnd s:=by
 obtain⟨hl,hk,hi,hx⟩:=te h hf (Bf hf);have hb:=rA hn;have hm:s.items.map SIt.bare=dZ g:=congrArg Sk.items h;have hq:∀x∈s.items,x.bare∈dZ g:=fun x hx=>hm▸List.mem_map_of_mem hx
 refine⟨hl.n,hl.i,fun x hx=>?_,fun x hx=>?_⟩
 ·obtain⟨a,b,c,d,e⟩:=hl.ix x hx;exact⟨b,c,d,e⟩
 ·obtain⟨a,b,c⟩:=hb _ (hq x hx);exact⟨a,b,c,(hl.ix x hx).1⟩
theorem wQ (w:World) (g:Gr) (he:Env w) (hg:GrAt w g) (h:(bz g).1=0) (hn:GNum g):
  Calls Tryz.prog 18 #[g.v] w fun e w'=>e= .returned (.tuple #[.string ⟨(dE (fs g)).toArray⟩,.nilIface])∧New w w':=by
 have hf:=(pz h).1;have n1:New w (w.alloc (.cells g.cs 26)):=(New.refl w).alloc _;have hd:=sW (w.alloc (.cells g.cs 26)) g (hg.new n1) (xW hf) (Af hf) h;have hp:=t8 hf hn;have hB:=fun(s:Sk) (e:s.bare=fs g)=>vK e hf hn
 have N1:=Lib.hid n1;have HP:=Lib.hid hp;have HB:=Lib.hid hB;simp only[Gr.v,Gr.cs] at hd ⊢;clear n1 hg hp hB hf hn h;go_enter Tryz.func18,Tryz.ntmps18;go_wp2_with fail;refine hd.mono ?_;rintro e w1 ⟨s,rfl,aK,hs,n2⟩;have n3:New w1 (w1.alloc (.cells s.cs 52)):=(New.refl w1).alloc _;have hpr:=wI (w1.alloc (.cells s.cs 52)) s (he.new ((N1.out.trans n2).trans n3)) (aK.at.new n3) (HB.out s hs);rw[<-ss,hs,HP.out] at hpr;have N2:=Lib.hid ((N1.out.trans n2).trans n3);simp only[Sk.v,Sk.cs] at hpr ⊢;clear hd n2 n3 aK hs;go_wp2_with fail;refine hpr.mono ?_;rintro e w2 ⟨rfl,n4⟩;have N3:=Lib.hid (N2.out.trans n4);clear hpr n4;go_wp2_with fail;exact bodyPost_ret (v:= .tuple #[.string ⟨(dE (fs g)).toArray⟩,.nilIface]) (by simp[results,Tryz.results18,go_sem]) rfl ⟨rfl,N3.out⟩
abbrev zGr:Value:= .agg #[.string ⟨#[]⟩,.slice none 0 0,.slice none 0 0,.slice none 0 0,.slice none 0 0]
theorem uo (w:World) (s:ByteArray) (he:Env w) (hs:s.size<=9223372036854775807) (c:Int) (k:Nat) (h:cz s.data.toList= .error (c,k)):
  Calls Tryz.prog 10 #[.string s] w fun e w'=>e= .returned (.tuple #[zGr,.iface 33 (.agg #[I c,I (k:Int)])])∧New w w':=by
 have hc:=(iK h).1;have n1:New w (w.alloc (.cells #[.string ⟨#[]⟩,.slice none 0 0,.slice none 0 0,.slice none 0 0,.slice none 0 0] 26)):=(New.refl w).alloc _;have hno:=uj (w.alloc (.cells #[.string ⟨#[]⟩,.slice none 0 0,.slice none 0 0,.slice none 0 0,.slice none 0 0] 26)) s (he.new n1) hs c k h;have hwr:=fun W=>qo W c k hc
 have N1:=Lib.hid n1;have hR:=heap_alloc_new w (.cells #[.string ⟨#[]⟩,.slice none 0 0,.slice none 0 0,.slice none 0 0,.slice none 0 0] 26);have HR:=Lib.hid hR;clear n1 h hc hR;go_enter Tryz.func10,Tryz.ntmps10;go_wp2_with fail;refine hno.mono ?_;rintro e w1 ⟨rfl,n2⟩;have n3:New w1 ((w1.alloc (.cells #[.string ⟨#[]⟩,.slice none 0 0] 52)).alloc (.cells #[I c,I (k:Int)] 33)):=((New.refl _).alloc _).alloc _;have hR2:=Keeps.heap (n2.trans n3) HR.out (fun h=>h);have N2:=Lib.hid ((N1.out.trans n2).trans n3);have HR2:=Lib.hid hR2;have hwx:=hwr ((w1.alloc (.cells #[.string ⟨#[]⟩,.slice none 0 0] 52)).alloc (.cells #[I c,I (k:Int)] 33));clear hno n2 n3 hR2 hwr;go_wp2_with fail;refine hwx.mono ?_;rintro e w2 ⟨rfl,n4⟩;have hR4:=Keeps.heap n4 HR2.out (fun h=>h);obtain⟨z0,z1,z2,z3,z4,hZl⟩:=an hR4;have gz0:=unfrozen_of_block hR4 0;have gz1:=unfrozen_of_block hR4 1;have gz2:=unfrozen_of_block hR4 2;have gz3:=unfrozen_of_block hR4 3;have gz4:=unfrozen_of_block hR4 4;have N3:=Lib.hid (N2.out.trans n4);have HR4:=Lib.hid hR4;clear hwx n4 hR4;go_wp2_with fail;obtain⟨hb9,k9⟩:=aW HR4.out (.string ⟨#[]⟩) (.slice none 0 0) (.slice none 0 0) (.slice none 0 0) (.slice none 0 0);generalize(((((w2.setCell ⟨w.heap.size,0,none⟩ (.string ⟨#[]⟩)).setCell ⟨w.heap.size,1,none⟩ (.slice none 0 0)).setCell ⟨w.heap.size,2,none⟩ (.slice none 0 0)).setCell ⟨w.heap.size,3,none⟩ (.slice none 0 0)).setCell ⟨w.heap.size,4,none⟩ (.slice none 0 0))=W9 at hb9 k9 ⊢;clear z0 z1 z2 z3 z4 hZl gz0 gz1 gz2 gz3 gz4;obtain⟨z0,z1,z2,z3,z4,hZl⟩:=an hb9;exact bodyPost_ret (v:= .tuple #[zGr,.iface 33 (.agg #[I c,I (k:Int)])]) (by simp[results,Tryz.results10,go_sem,z0,z1,z2,z3,z4,hZl]) rfl ⟨rfl,N3.out.keeps k9 (fun i hi h=>by omega)⟩
theorem sH (w:World) (s:ByteArray) (P:Sk->World->Prop) (F:Value->World->Prop)
  (lW:Calls Tryz.prog 23 #[.string s] (w.alloc (.cells #[.string ⟨#[]⟩,.slice none 0 0,.slice none 0 0,.slice none 0 0,.slice none 0 0] 26)) fun e w1=>∃t:Sk,e= .returned (.tuple #[t.v,.agg #[I 0,I 0]])∧P t w1∧New (w.alloc (.cells #[.string ⟨#[]⟩,.slice none 0 0,.slice none 0 0,.slice none 0 0,.slice none 0 0] 26)) w1)
  (hbu:∀t w1 W,P t w1->New w1 W->Calls Tryz.prog 24 #[t.v] W fun e w'=>∃(q:Gr) (A B:Int) (ev:Value),e= .returned (.tuple #[q.v,.agg #[I A,I B]])∧
   (∀V,Calls Tryz.prog 26 #[.agg #[I A,I B]] V fun e w''=>e= .returned ev∧New V w'')∧New W w'∧
   (∀w8 w9 R1 R2 c1 c2,New w' w8->w8.heap[R1]? =some (.cells c1 26 (0,0))->w8.heap[R2]? =some (.cells c2 33 (0,0))->Keeps (fun k=>k=R1∨k=R2) w8 w9->F (.tuple #[q.v,ev]) w9)):
  Calls Tryz.prog 10 #[.string s] w fun e w'=>(∃v,e= .returned v∧F v w')∧New w w':=by
 have n1:New w (w.alloc (.cells #[.string ⟨#[]⟩,.slice none 0 0,.slice none 0 0,.slice none 0 0,.slice none 0 0] 26)):=(New.refl w).alloc _;have hR:=heap_alloc_new w (.cells #[.string ⟨#[]⟩,.slice none 0 0,.slice none 0 0,.slice none 0 0,.slice none 0 0] 26);have N1:=Lib.hid n1;have HR:=Lib.hid hR;clear n1 hR;obtain⟨R,hRe⟩:∃R,w.heap.size=R:=⟨_,rfl⟩
 rw[hRe] at HR;have HRE:=Lib.hid hRe;obtain⟨post,cu⟩:∃post,(fun(e:Ending) (w':World)=>(∃v,e= .returned v∧F v w')∧New w w')=post:=⟨_,rfl⟩
 have HPO:=Lib.hid cu;rw[cu];clear cu;go_enter Tryz.func10,Tryz.ntmps10;go_wp2_with fail;refine lW.mono ?_;rintro e w1 ⟨t,rfl,hP,n2⟩;have m1:New w1 ((w1.alloc (.cells t.cs 52)).alloc (.cells #[I 0,I 0] 33)):=((New.refl _).alloc _).alloc _;have hS:((w1.alloc (.cells t.cs 52)).alloc (.cells #[I 0,I 0] 33)).heap[w1.heap.size]? =some (.cells t.cs 52 (0,0)):=Keeps.heap (Keeps.alloc (S:=fun _=>False) _ _) (heap_alloc_new w1 _) (fun h=>h);have hF:((w1.alloc (.cells t.cs 52)).alloc (.cells #[I 0,I 0] 33)).heap[w1.heap.size+1]? =some (.cells #[I 0,I 0] 33 (0,0)):=by
  have:=heap_alloc_new (w1.alloc (.cells t.cs 52)) (.cells #[I 0,I 0] 33);simpa using this
 have HB:=Lib.hid (fun W=>hbu t w1 W hP);have N2:=Lib.hid ((N1.out.trans n2).trans m1);have M1:=Lib.hid m1;have HSZ:=Lib.hid (N1.out.trans n2).size;have HR2:=Lib.hid (Keeps.heap (n2.trans m1) HR.out (fun h=>h));have HS:=Lib.hid hS;have HF:=Lib.hid hF;have hw0:=qr ((w1.alloc (.cells t.cs 52)).alloc (.cells #[I 0,I 0] 33));obtain⟨name,ia,ic,items⟩:=t;simp only[Sk.cs] at hw0;have hv:Sk.v ⟨name,ia,ic,items⟩= .agg #[.string name,.slice ia items.length ic]:=rfl;rw[hv];clear lW hbu n2 m1 hS hF hP HR N1 hv;go_wp2_with fail;refine hw0.mono ?_;rintro e w2 ⟨rfl,n3⟩;have HB2:=Lib.hid (HB.out w2 (M1.out.trans n3));have hS2:=Keeps.heap n3 HS.out (fun h=>h);have hF2:=Keeps.heap n3 HF.out (fun h=>h);have HR3:=Lib.hid (Keeps.heap n3 HR2.out (fun h=>h));have N3:=Lib.hid (N2.out.trans n3);simp only[Sk.cs] at hS2;obtain⟨p0,p1,-,-,hSl⟩:=iQ hS2;have HF2:=Lib.hid hF2;have hne:R≠w1.heap.size+1:=fun h=>by
  have h1:=HR2.out;rw[h] at h1;rw[HF.out] at h1;simp at h1
 have HNE:=Lib.hid hne;have HLE:Hid (w.heap.size<=w1.heap.size+1):=Lib.hid (by have:=HSZ.out;omega);generalize w1.heap.size+1=b5 at HF2 HNE HLE ⊢;generalize w1.heap.size=b4 at p0 p1 hSl ⊢;clear hw0 n3 hS2 hF2 HS HF HR2 N2 M1 HB hne;go_wp2_with fail;refine HB2.out.mono ?_;rintro e w3 ⟨q,A,B,ev,rfl,hwr,n4,dj⟩;have HR4:=Lib.hid (Keeps.heap n4 HR3.out (fun h=>h));have hF3:=Keeps.heap n4 HF2.out (fun h=>h);have N4:=Lib.hid (N3.out.trans n4);obtain⟨x0,x1,y0,y1,hFl⟩:=iQ hF3;have HF3:=Lib.hid hF3;have iU:=Lib.hid dj;have hqv:q.v= .agg #[.string q.name,.slice q.aa q.acts.length q.ac,.slice q.ea q.edges.length q.ec,.slice q.ia q.ins.length q.ic,.slice q.oa q.outs.length q.oc]:=rfl;rw[hqv];clear p0 p1 hSl n4 hF3 HF2 HR3 N3 HB2 dj hqv;go_wp2_with fail;obtain⟨g1,g2⟩:=lQ HF3.out (I A) (I B);have hR5:=g2.heap HR4.out HNE.out;have k5:Keeps (fun k=>k=b5) w3 (((w3.setCell ⟨b5,0,none⟩ (I A)).setCell ⟨b5,1,none⟩ (I B)).alloc (.cells #[.string q.name,.slice q.aa q.acts.length q.ac,.slice q.ea q.edges.length q.ec,.slice q.ia q.ins.length q.ic,.slice q.oa q.outs.length q.oc] 26)):=g2.trans (Keeps.alloc (S:=fun _=>False) _ _) (fun _ _ h=>h.elim);have g3:=Keeps.heap (Keeps.alloc (S:=fun _=>False) _ (.cells #[.string q.name,.slice q.aa q.acts.length q.ac,.slice q.ea q.edges.length q.ec,.slice q.ia q.ins.length q.ic,.slice q.oa q.outs.length q.oc] 26)) g1 (fun h=>h);have g4:=Keeps.heap (Keeps.alloc (S:=fun _=>False) _ (.cells #[.string q.name,.slice q.aa q.acts.length q.ac,.slice q.ea q.edges.length q.ec,.slice q.ia q.ins.length q.ic,.slice q.oa q.outs.length q.oc] 26)) hR5 (fun h=>h);have hsz:((w3.setCell ⟨b5,0,none⟩ (I A)).setCell ⟨b5,1,none⟩ (I B)).heap.size=w3.heap.size:=by simp
 have g5:=heap_alloc_new ((w3.setCell ⟨b5,0,none⟩ (I A)).setCell ⟨b5,1,none⟩ (I B)) (.cells #[.string q.name,.slice q.aa q.acts.length q.ac,.slice q.ea q.edges.length q.ec,.slice q.ia q.ins.length q.ic,.slice q.oa q.outs.length q.oc] 26);rw[hsz] at g5;have DG:R<w3.heap.size:=(Array.getElem?_eq_some_iff.1 HR4.out).1;generalize((w3.setCell ⟨b5,0,none⟩ (I A)).setCell ⟨b5,1,none⟩ (I B)).alloc (.cells #[.string q.name,.slice q.aa q.acts.length q.ac,.slice q.ea q.edges.length q.ec,.slice q.ia q.ins.length q.ic,.slice q.oa q.outs.length q.oc] 26)=W5 at k5 g3 g4 g5 ⊢;have K5:=Lib.hid k5;have HR5:=Lib.hid g4;obtain⟨c0,c1,-,-,hcl⟩:=iQ g3;obtain⟨d0,d1,d2,d3,d4,hdl⟩:=an g5;generalize w3.heap.size=b7 at d0 d1 d2 d3 d4 hdl ⊢;clear x0 x1 y0 y1 hFl g1 g2 g3 g4 g5 k5 hsz DG hR5;have hdr:New W5 W5.drew:=(New.refl W5).drew;have HSn:∀V,New W5 V->(fun w':World=>(w'.cell? ⟨b7,0,none⟩=some (.string q.name)∧w'.cell? ⟨b7,1,none⟩=some (.slice q.aa q.acts.length q.ac)∧w'.cell? ⟨b7,2,none⟩=some (.slice q.ea q.edges.length q.ec)∧w'.cell? ⟨b7,3,none⟩=some (.slice q.ia q.ins.length q.ic)∧w'.cell? ⟨b7,4,none⟩=some (.slice q.oa q.outs.length q.oc))∧w'.cell? ⟨b5,0,none⟩=some (I A)∧w'.cell? ⟨b5,1,none⟩=some (I B)) V:=fun V kv=>⟨⟨kv.cell d0,kv.cell d1,kv.cell d2,kv.cell d3,kv.cell d4⟩,kv.cell c0,kv.cell c1⟩
 have hS0:=HSn _ hdr;clear c0 c1 d0 d1 d2 d3 d4;refine aj (fun w':World=>(w'.cell? ⟨b7,0,none⟩=some (.string q.name)∧w'.cell? ⟨b7,1,none⟩=some (.slice q.aa q.acts.length q.ac)∧w'.cell? ⟨b7,2,none⟩=some (.slice q.ea q.edges.length q.ec)∧w'.cell? ⟨b7,3,none⟩=some (.slice q.ia q.ins.length q.ic)∧w'.cell? ⟨b7,4,none⟩=some (.slice q.oa q.outs.length q.oc))∧w'.cell? ⟨b5,0,none⟩=some (I A)∧w'.cell? ⟨b5,1,none⟩=some (I B)) [3,4] (by kernel_rfl) hS0 ?_;generalize W5.drew=wd at hdr hS0 ⊢;refine ae 0 hS0 ?_;refine ae 1 hS0 ?_;refine ag 2 ?_;intro K hK;(try simp only[Act.put,sLs])
 go_simp;refine(hwr _).mono ?_;rintro e w6 ⟨rfl,n6⟩;have hn6:=hdr.trans n6;refine hK _ _ (fun _=>HSn _ hn6) ?_;clear hK K;have HR6:=Keeps.heap hn6 HR5.out (fun h=>h);obtain⟨z0,z1,z2,z3,z4,hZl⟩:=an HR6;have gz0:=unfrozen_of_block HR6 0;have gz1:=unfrozen_of_block HR6 1;have gz2:=unfrozen_of_block HR6 2;have gz3:=unfrozen_of_block HR6 3;have gz4:=unfrozen_of_block HR6 4;refine ag 3 ?_;intro K hK;(try simp only[Act.put,sLs])
 go_simp;refine hK _ _ (fun hx=>by cases hx) ?_;clear hK K;refine ag 4 ?_;intro K hK;(try simp only[Act.put,sLs])
 go_simp;refine hK _ _ (fun hx=>by cases hx) ?_;clear hK K;refine av (by kernel_rfl) ?_;(try simp only[Act.put,sLs])
 (try simp only[Exit.then])
 obtain⟨hb9,k9⟩:=aW HR6 (.string q.name) (.slice q.aa q.acts.length q.ac) (.slice q.ea q.edges.length q.ec) (.slice q.ia q.ins.length q.ic) (.slice q.oa q.outs.length q.oc);generalize(((((w6.setCell ⟨R,0,none⟩ (.string q.name)).setCell ⟨R,1,none⟩ (.slice q.aa q.acts.length q.ac)).setCell ⟨R,2,none⟩ (.slice q.ea q.edges.length q.ec)).setCell ⟨R,3,none⟩ (.slice q.ia q.ins.length q.ic)).setCell ⟨R,4,none⟩ (.slice q.oa q.outs.length q.oc))=W9 at hb9 k9 ⊢;clear z0 z1 z2 z3 z4 hZl gz0 gz1 gz2 gz3 gz4;have kk:Keeps (fun k=>k=R∨k=b5) w3 W9:=(K5.out.mono (fun _ _ h=> .inr h)).trans ((hn6.mono (fun _ _ h=>h.elim)).trans k9 (fun _ _ h=>h)) (fun _ _ h=> .inl h);have dj:=iU.out w3 W9 R b5 _ _ (New.refl _) HR4.out HF3.out kk;have hnew:=N4.out.keeps kk (fun i hi h=>by have h1:=HRE.out;have h2:=HLE.out;omega);obtain⟨z0,z1,z2,z3,z4,hZl⟩:=an hb9;go_wp2_with fail;refine bodyPost_ret (v:= .tuple #[.agg #[.string q.name,.slice q.aa q.acts.length q.ac,.slice q.ea q.edges.length q.ec,.slice q.ia q.ins.length q.ic,.slice q.oa q.outs.length q.oc],ev]) (by simp[results,Tryz.results10,go_sem,z0,z1,z2,z3,z4,hZl]) rfl ?_;rw[<-HPO.out];exact⟨⟨_,rfl,dj⟩,hnew⟩
theorem uY {x:LSk} {t:Sk} {n:Nat} (h:ReadOk x n) (hn:n<=1048576) (ht:t.bare=x.mem):SLen t∧(∀y∈t.items,0<=y.kind∧y.kind<=255)∧t.items.length*64<=140737488355328∧∀y∈t.items,y.xs.length*8<=140737488355328:=by
 have hb:=(h.bnd hn).mem ht;obtain⟨-,e2⟩:=pr ht;have hm:t.items.map SIt.bare=x.mem.items:=congrArg Sk.items ht;have hq:∀y∈t.items,y.bare∈x.mem.items:=fun y hy=>hm▸List.mem_map_of_mem hy
 have hxl:∀y∈t.items,y.xs.length<=n+1:=fun y hy=>by
  obtain⟨z,hz,e⟩:=List.mem_map.1 (hq y hy);have e3:z.xs=y.xs:=congrArg SIt.xs e;rw[<-e3];exact h.xl z hz
 refine⟨⟨hb.i,hb.n,fun y hy=>?_⟩,fun y hy=>?_,?_,fun y hy=>?_⟩
 ·have a:=hb.sz y hy;exact⟨(hb.bd y hy).ln,a.n,a.t,a.f,a.o⟩
 ·have hr:=List.all_eq_true.1 h.rt _ (hq y hy);have hk:y.bare.kind=y.kind:=rfl;unfold bD at hr;rw[hk] at hr;by_cases k1:y.kind=1
  ·omega
  by_cases k2:y.kind=2
  ·omega
  by_cases k3:y.kind=3
  ·omega
  by_cases k4:y.kind=4
  ·omega
  rw[if_neg k1,if_neg k2,if_neg k3,if_neg k4] at hr;cases hr
 ·have:=h.it;omega
 ·have:=hxl y hy;omega
def lF (w:World) (l:List UInt8) (e:Ending) (w':World):Prop:=
 ((dP l).1≠0∧e= .returned (.tuple #[zGr,.iface 33 (.agg #[I (dP l).1,I (dP l).2])])∧New w w')∨
 ((dP l).1=0∧∃B q,w.heap.size<=B∧e= .returned (.tuple #[q.v,.nilIface])∧GrOwn w' B q∧q.bare=kP l∧New w w')
theorem lD (w:World) (s:ByteArray) (he:Env w) (hs:s.size<=9223372036854775807):Calls Tryz.prog 10 #[.string s] w (lF w s.data.toList):=by
 obtain⟨r,hA⟩:∃r,cz s.data.toList=r:=⟨_,rfl⟩
 cases r with
 |error ck=>
  obtain⟨c,k⟩:=ck;have e1:dP s.data.toList=(c,(k:Int)):=by unfold dP;rw[hA]
  refine(uo w s he hs c k hA).mono ?_;rintro e w' ⟨rfl,hn⟩;unfold lF;rw[e1];exact .inl ⟨(iK hA).1,rfl,hn⟩
 |ok x=>
  have e1:dP s.data.toList=cx x.mem:=by unfold dP;rw[hA]
  have e2:kP s.data.toList=aX x.mem:=by unfold kP;rw[hA]
  obtain⟨hok,aU⟩:=qR hA;have n1:New w (w.alloc (.cells #[.string ⟨#[]⟩,.slice none 0 0,.slice none 0 0,.slice none 0 0,.slice none 0 0] 26)):=(New.refl w).alloc _;refine(sH w s (fun t w1=>t.bare=x.mem∧w.heap.size<=w1.heap.size∧∃B,SkOwn w1 B t)
   (fun v w'=>((dP s.data.toList).1≠0∧v= .tuple #[zGr,.iface 33 (.agg #[I (dP s.data.toList).1,I (dP s.data.toList).2])])∨((dP s.data.toList).1=0∧∃B q,w.heap.size<=B∧v= .tuple #[q.v,.nilIface]∧GrOwn w' B q∧q.bare=kP s.data.toList)) ?_ ?_).mono ?_
  ·refine(uk _ s (he.new n1) hs x hA).mono ?_;rintro e w1 ⟨t,ht,rfl,aK,hn⟩;exact⟨t,rfl,⟨ht,(n1.trans hn).size,_,aK⟩,hn⟩
  ·rintro t w1 W ⟨ht,hsz,B,aK⟩ hk;obtain⟨q1,q2,q3,q4⟩:=uY hok aU ht;have e3:cx t=cx x.mem:=by rw[<-mY,ht]
   have e4:aX t=aX x.mem:=by rw[<-jU,ht]
   refine(sU W t (aK.new hk).at q1 q2 q3 q4).mono ?_;intro e w' hB;unfold nN at hB;rw[e3,e4] at hB;rw[e1,e2];by_cases hf:(cx x.mem).1≠0
   ·rw[if_pos hf] at hB;obtain⟨rfl,hn⟩:=hB;exact⟨⟨⟨#[]⟩,none,0,[],none,0,[],none,0,[],none,0,[]⟩,_,_,_,rfl,fun V=>qo V _ _ hf,hn,fun _ _ _ _ _ _ _ _ _ _=> .inl ⟨hf,rfl⟩⟩
   ·rw[if_neg hf] at hB;obtain⟨q,rfl,hq,hqb,hn⟩:=hB;refine⟨q,0,0,.nilIface,rfl,fun V=>qr V,hn,fun w8 w9 R1 R2 c1 c2 h8 h1 h2 kk=> .inr ⟨by simpa using hf,W.heap.size,q,?_,rfl,(hq.new h8).results h1 h2 kk,hqb⟩⟩;have:=hk.size;omega
  ·rintro e w' ⟨⟨v,rfl,hv⟩,hn⟩;unfold lF;rcases hv with⟨h1,rfl⟩|⟨h1,B,q,h2,rfl,h3,h4⟩
   ·exact .inl ⟨h1,rfl,hn⟩
   ·exact .inr ⟨h1,B,q,h2,rfl,h3,h4,hn⟩
abbrev zG0:Gr:=⟨⟨#[]⟩,none,0,[],none,0,[],none,0,[],none,0,[]⟩
theorem zO (w:World):GrAt w zG0:=⟨ar.nil _ _,ar.nil _ _,ar.nil _ _,ar.nil _ _,(fun x hx=>by cases hx),(fun x hx=>by cases hx)⟩
theorem AL:GLen zG0:=⟨by decide,by decide,by decide,by decide,(fun x hx=>by cases hx),(fun x hx=>by cases hx),(fun x hx=>by cases hx),(fun x hx=>by cases hx),by decide⟩
def sI (l:List UInt8):Gr:=if(dP l).1=0 then kP l else zG0
def xR (f:Int×Int):Value:=if f.1=0 then .nilIface else .iface 33 (.agg #[I f.1,I f.2])
theorem vM (w:World) (f:Int×Int) (hz:f.1=0->f.2=0) (he:qs w):Calls Tryz.prog 12 #[xR f] w fun e w'=>e= .returned (.tuple #[.agg #[I f.1,I f.2],.bool true])∧New w w':=by
 unfold xR;by_cases h:f.1=0
 ·rw[if_pos h,h,hz h];exact vN w
 ·rw[if_neg h];exact py w f.1 f.2 h he
theorem zF {l:List UInt8} (h:(dP l).1=0):(dP l).2=0:=by rw[(o8 h).1]
theorem rG {l:List UInt8} {q:Gr} (h:(dP l).1=0) (hq:q.bare=kP l):(bz q).1=0∧GNum q∧Fair q∧q.bare=(kP l).bare:=by
 obtain⟨_,h2,h3,h4⟩:=o8 h;have e:q.bare=(kP l).bare:=by rw[h4];exact hq
 have e1:(bz q).1=0:=by rw[tf e];exact h2
 exact⟨e1,h3.same e.symm,(pz e1).1,e⟩
def awA:ByteArray:=⟨#[103,114,97,112,104,32,103,32,123,32,105,110,32,120,32,45,62,32,97,46,48,59,32,111,117,116,32,97,46,48,32,45,62,32,121,59,32,97,99,116,111,114,32,97,32,61,32,117,112,32,50,32,59,32,125]⟩
def awB:ByteArray:=⟨#[103,114,97,112,104,32,103,32,123,32,97,99,116,111,114,32,97,32,61,32,117,112,32,48,59,32,125]⟩
def awW:ByteArray:=⟨#[103,114,97,112,104,32,103,32,123,10,32,32,97,99,116,111,114,32,97,32,61,32,117,112,32,50,59,10,32,32,105,110,32,120,32,45,62,32,97,46,48,59,10,32,32,111,117,116,32,97,46,48,32,45,62,32,121,59,10,125,10]⟩
theorem Do:dP awA.data.toList=(0,0):=by kernel_rfl
theorem Dp:dP awB.data.toList=(61,10):=by kernel_rfl
theorem Dq:(⟨(dE (fs (kP awA.data.toList))).toArray⟩:ByteArray)=awW:=by kernel_rfl
theorem vp (w:World) (he:EnvS w):Calls Tryz.prog 14 #[] w fun e w'=>e= .returned (.bool true)∧New w w':=by
 have h1:∀W,Env W->Calls Tryz.prog 10 #[.string ⟨#[103,114,97,112,104,32,103,32,123,32,105,110,32,120,32,45,62,32,97,46,48,59,32,111,117,116,32,97,46,48,32,45,62,32,121,59,32,97,99,116,111,114,32,97,32,61,32,117,112,32,50,32,59,32,125]⟩] W _:=fun W e=>lD W awA e (by decide)
 have h2:∀W,Env W->Calls Tryz.prog 10 #[.string ⟨#[103,114,97,112,104,32,103,32,123,32,97,99,116,111,114,32,97,32,61,32,117,112,32,48,59,32,125]⟩] W _:=fun W e=>lD W awB e (by decide)
 have HE:=Lib.hid he;go_enter Tryz.func14,Tryz.ntmps14;go_wp2_with fail;refine(h1 _ HE.out.env).mono ?_;intro e w1 hP;have a0:(dP awA.data.toList).1=0:=by rw[Do]
 rcases hP with⟨hne,_⟩|⟨_,B,q,_,rfl,aK,hqb,n1⟩
 ·exact absurd a0 hne
 obtain⟨f1,f2,f3,f4⟩:=rG a0 hqb;have n2:New w1 (w1.alloc (.cells q.cs 26)):=(New.refl _).alloc _;have hpr:=wQ (w1.alloc (.cells q.cs 26)) q (HE.out.env.new (n1.trans n2)) (aK.at.new n2) f1 f2;have eW:(⟨(dE (fs q)).toArray⟩:ByteArray)=awW:=by rw[vI f4];exact Dq
 rw[eW] at hpr;have N2:=Lib.hid (n1.trans n2);simp only[Gr.v,Gr.cs] at hpr ⊢;clear h1 n1 n2 a0 aK hqb f1 f2 f3 f4 eW he;go_wp2_with fail;refine hpr.mono ?_;rintro e w2 ⟨rfl,n3⟩;have hp2:=h2 w2 (HE.out.env.new (N2.out.trans n3));have N3:=Lib.hid (N2.out.trans n3);clear hpr n3 h2;go_wp2_with fail;refine hp2.mono ?_;intro e w3 hP;have b1:dP awB.data.toList=(61,10):=Dp;unfold lF at hP;rw[b1] at hP;rcases hP with⟨_,rfl,n4⟩|⟨h0,_⟩
 rotate_left
 ·simp at h0
 have n5:New w3 (w3.alloc (.cells zG0.cs 26)):=(New.refl _).alloc _;have hf:=py (w3.alloc (.cells zG0.cs 26)) 61 10 (by decide) (HE.out.et.new ((N3.out.trans n4).trans n5));have N4:=Lib.hid ((N3.out.trans n4).trans n5);simp only[Gr.cs,zG0,List.length_nil] at hf;unfold awW;clear hp2 b1 n4 n5;go_wp2_with fail;refine hf.mono ?_;rintro e w4 ⟨rfl,n6⟩;have N5:=Lib.hid (N4.out.trans n6);clear hf n6;go_wp2_with fail;(try go_ret)
 exact⟨rfl,N5.out.alloc _⟩
end Go.Proofs.YtnedmonlofbahaaGreatDoor
