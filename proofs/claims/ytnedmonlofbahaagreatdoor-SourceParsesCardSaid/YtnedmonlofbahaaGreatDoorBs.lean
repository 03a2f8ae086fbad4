/-
  Mem, ShapeA, ShapeB, ShapeC, GrP, Mem2, Mem3, GrA, RegionX, GrB, Read: what is wanted of them.
-/
import Derived.WalkKit
import Derived.WalkLawsBesides
import Derived.WalkSpells
import Derived.Deep.QuietTactic
import Derived.BigQuiet
import Derived.Lib.Hide
import Derived.IntWalk
import Derived.Test.YtnedmonlofbahaaGreatDoorChecked
import Derived.Outline
import Derived.Deep.DeepMust
import Derived.Deep.RegionWith
import Derived.Deep.RegionHeld3
import Derived.Deep.Slices
import Derived.Deep.Fields
import Derived.ChangeSame
import Derived.Lib.SmallJoins
import Derived.StillTailTactics
import Derived.Test.YtnedmonlofbahaaGreatDoorRows
import Derived.ProofKit
import Derived.OpenShut
import Derived.ShutString
import Derived.ChangeOld
import Derived.Below
import Derived.SizedLaws
set_option maxRecDepth 100000
set_option maxHeartbeats 8000000
namespace Go.Proofs.YtnedmonlofbahaaGreatDoor
open Go Go.RowKit
set_option linter.all false
theorem sLs {α:Type} :(∀(l:List α) (i:Nat) (a:α),l.toArray.setIfInBounds i a=(l.set i a).toArray)∧(∀(a b:α) (l:List α),(a::l).set 0 b=b::l)∧(∀(a b:α) (i:Nat) (l:List α),(a::l).set (i+1) b=a::l.set i b):=⟨fun _ _ _=>List.setIfInBounds_toArray _ _ _,fun _ _ _=>rfl,fun _ _ _ _=>rfl⟩
theorem sLq {α:Type} :(∀(l:List α) (i:Nat),l.toArray[i]? =l[i]?)∧(∀(a:α) (i:Nat) (l:List α),(a::l)[i+1]? =l[i]?)∧(∀(a:α) (l:List α),(a::l)[0]? =some a)∧(∀a b:α,(some a=some b)=(a=b)):=⟨fun _ _=>List.getElem?_toArray,fun _ _ _=>List.getElem?_cons_succ,fun _ _=>List.getElem?_cons_zero,fun _ _=>Option.some.injEq _ _⟩
structure Keeps (S:Nat->Prop) (w w':World):Prop where
 os:w'.os=w.os
 tape:w'.tape=w.tape
 output:w'.output=w.output
 size:w.heap.size<=w'.heap.size
 block:∀k,k<w.heap.size->¬S k->w'.heap[k]? =w.heap[k]?
def New (w w':World):Prop:=Keeps (fun _=>False) w w'
namespace Keeps
variable {S T:Nat->Prop} {a b c w w':World}
theorem refl (S:Nat->Prop) (w:World):Keeps S w w:=⟨rfl,rfl,rfl,Nat.le_refl _,fun _ _ _=>rfl⟩
theorem trans (h:Keeps S a b) (k:Keeps T b c) (hT:∀i,i<a.heap.size->T i->S i):Keeps S a c:=
 ⟨k.os.trans h.os,k.tape.trans h.tape,k.output.trans h.output,Nat.le_trans h.size k.size,
  fun i hi hn=>(k.block i (Nat.lt_of_lt_of_le hi h.size) (fun t=>hn (hT i hi t))).trans (h.block i hi hn)⟩
theorem mono (h:Keeps S a b) (hT:∀i,i<a.heap.size->S i->T i):Keeps T a b:=
 ⟨h.os,h.tape,h.output,h.size,fun i hi hn=>h.block i hi (fun s=>hn (hT i hi s))⟩
theorem alloc (w:World) (o:Obj):Keeps S w (w.alloc o):=⟨rfl,rfl,rfl,by simp,fun k hk _=>Below.heap_alloc w o k hk⟩
theorem drew (w:World):Keeps S w w.drew:=⟨rfl,rfl,rfl,Nat.le_refl _,fun _ _ _=>rfl⟩
theorem drewN (w:World) (n:Nat):Keeps S w (w.drewN n):=by
 refine⟨?_,?_,?_,?_,?_⟩<;>simp[World.drewN]
theorem setCell (w:World) (p:Addr) (v:Value) (hp:S p.block):Keeps S w (w.setCell p v):=
 ⟨rfl,rfl,rfl,by simp[World.setCell],fun k _ hk=>Below.heap_setCell _ _ _ _ (fun e=>hk (e▸hp))⟩
theorem grown {row:Option Nat} (h:w.grownBy w' row) (hr:∀k,some k=row->S k):Keeps S w w':=
 ⟨h.os,h.tape,h.output,h.size,fun k hk hn=>h.block k hk (fun e=>hn (hr k e))⟩
theorem below {B:Nat} (h:Keeps S w w') (hB:B<=w.heap.size) (hS:∀k,k<B->¬S k):Below B w w':=
 ⟨h.os,h.tape,h.output,h.size,fun k hk=>h.block k (Nat.lt_of_lt_of_le hk hB) (hS k hk)⟩
theorem heap (h:Keeps S w w') {k:Nat} {o:Obj} (hk:w.heap[k]? =some o) (hn:¬S k):w'.heap[k]? =some o:=
 (h.block k (Array.getElem?_eq_some_iff.1 hk).1 hn).trans hk
theorem cell (h:Keeps S w w') {p:Addr} {v:Value} (hv:w.cell? p=some v) (hn:¬S p.block):w'.cell? p=some v:=
 (World.cell?_of_block (w:=w) (h.block p.block (World.block_lt_of_cell? w p hv) hn)).trans hv
theorem gH (h:Keeps S w w') {p:Addr} (hp:p.block<w.heap.size) (hn:¬S p.block):w'.frozen? p=w.frozen? p:=
 World.frozen?_of_block (w:=w) (h.block p.block hp hn)
theorem owns {B:Nat} {e:TypeId} {size:Nat} {v:Value} {n:Nat} {xs:List Value} (h:Keeps S w w') (hv:w.ownsRow B e size v n xs)
  (hn:∀k,v.ownBlock=some k->¬S k):w'.ownsRow B e size v n xs:=by
 refine⟨hv.1,?_⟩;rcases hv.2 with h0|⟨g,cap,cur,rfl,hb,hg,rest⟩
 ·exact .inl h0
 ·exact .inr ⟨g,cap,cur,rfl,hb,h.heap hg (hn g rfl),rest⟩
end Keeps
namespace New
variable {a b c w w':World}
theorem refl (w:World):New w w:=Keeps.refl _ w
theorem trans (h:New a b) (k:New b c):New a c:=Keeps.trans h k (fun _ _ h=>h)
theorem alloc (h:New a w) (o:Obj):New a (w.alloc o):=h.trans (Keeps.alloc w o)
theorem drew (h:New a w):New a w.drew:=h.trans (Keeps.drew w)
theorem drewN (h:New a w) (n:Nat):New a (w.drewN n):=h.trans (Keeps.drewN w n)
theorem below (h:New w w'):Below w.heap.size w w':=Keeps.below h (Nat.le_refl _) (fun _ _ h=>h)
theorem cell (h:New w w') {p:Addr} {v:Value} (hv:w.cell? p=some v):w'.cell? p=some v:=Keeps.cell h hv (fun h=>h)
theorem owns {B:Nat} {e:TypeId} {size:Nat} {v:Value} {n:Nat} {xs:List Value} (h:New w w') (hv:w.ownsRow B e size v n xs):w'.ownsRow B e size v n xs:=
 Keeps.owns h hv (fun _ _ h=>h)
theorem size (h:New w w'):w.heap.size<=w'.heap.size:=Keeps.size h
theorem setCell (h:New a w) {p:Addr} (hp:a.heap.size<=p.block) (v:Value):New a (w.setCell p v):=
 Keeps.trans h (Keeps.setCell (S:=fun k=>k=p.block) w p v rfl) (fun i hi e=>by omega)
theorem keeps {S:Nat->Prop} (h:New a w) (k:Keeps S w w') (hS:∀i,i<a.heap.size->¬S i):New a w':=
 Keeps.trans h k (fun i hi s=>hS i hi s)
end New
def ar (w:World) (ao:Option Addr) (cs:List Value):Prop:=
 ∀i,i<cs.length->∃b off,ao=some ⟨b,off,none⟩∧w.cell? ⟨b,off+i,none⟩=some (cs.getD i undef)
theorem ar.at {w:World} {ao:Option Addr} {cs:List Value} (h:ar w ao cs) {i:Nat} (hi:i<cs.length):
  ∃b off,ao=some ⟨b,off,none⟩∧w.cell? ⟨b,off+i,none⟩=some cs[i]:=by
 obtain⟨b,off,e,c⟩:=h i hi;refine⟨b,off,e,?_⟩;rw[c];simp[hi]
theorem ar.nil (w:World) (ao:Option Addr):ar w ao []:=fun i hi=>by simp at hi
theorem ar.keeps {S:Nat->Prop} {w w':World} {ao:Option Addr} {cs:List Value} (h:ar w ao cs) (k:Keeps S w w') (hn:∀a,ao=some a->¬S a.block):ar w' ao cs:=by
 intro i hi;obtain⟨b,off,e,c⟩:=h i hi;exact⟨b,off,e,k.cell c (fun s=>hn _ e s)⟩
theorem ar.new {w w':World} {ao:Option Addr} {cs:List Value} (h:ar w ao cs) (k:New w w'):ar w' ao cs:=h.keeps k (fun _ _ h=>h)
theorem ar.drewN {w:World} {ao:Option Addr} {cs:List Value} (h:ar w ao cs) (n:Nat):ar (w.drewN n) ao cs:=h.new (Keeps.drewN w n)
theorem ar.of_owns {w:World} {B:Nat} {e:TypeId} {size n c:Nat} {ao:Option Addr} {xs:List Value} (h:w.ownsRow B e size (.slice ao n c) n xs):ar w ao xs:=by
 intro i hi;rcases h.2 with⟨h0,h1⟩|⟨g,cap,cur,h0,hb,hg,hnc,hcm,hcs,htake⟩
 ·have:=h.1;rw[h1] at this;simp at this;subst this;simp at hi
 ·simp only[Value.slice.injEq] at h0;obtain⟨rfl,_,rfl⟩:=h0;refine⟨g,0,rfl,?_⟩;have:=h.cellAt i (by rw[h.1] at hi;exact hi);rw[Nat.zero_add,this];simp[hi]
theorem ar.drop {w:World} {b off:Nat} {cs:List Value} (h:ar w (some ⟨b,off,none⟩) cs) (k:Nat):ar w (some ⟨b,off+k,none⟩) (cs.drop k):=by
 intro i hi;simp at hi;obtain⟨b',nD,e,c⟩:=h (k+i) (by omega);simp only[Option.some.injEq,Addr.mk.injEq,and_true] at e;obtain⟨rfl,rfl⟩:=e;refine⟨b,off+k,rfl,?_⟩;rw[Nat.add_assoc,c];simp
theorem ar.take {w:World} {ao:Option Addr} {cs:List Value} (h:ar w ao cs) (k:Nat):ar w ao (cs.take k):=by
 intro i hi;simp at hi;obtain⟨b',nD,e,c⟩:=h i (by omega);refine⟨b',nD,e,?_⟩;rw[c];simp[List.getElem?_take,show i<k by omega]
theorem cG (k:IntKind) (xs:List Int):∀u∈xs.map (Value.int k),u.oneCell'=true:=ints_oneCell k xs
def kQ (w w':World) (e:TypeId) (ao:Option Addr) (len:Nat):Prop:=
 ∀a cur,ao=some a->w.heap[a.block]? =some (.cells cur e (0,0))->∃ry,w'.heap[a.block]? =some (.cells ry e (0,0))∧ry.size=cur.size∧ry.toList.take len=cur.toList.take len
def dS (w:World) (ao ao':Option Addr):Prop:=ao'=ao∨∃g,ao'=some ⟨g,0,none⟩∧w.heap.size<=g
def blk (ao:Option Addr) (k:Nat):Prop:=∃a,ao=some a∧a.block=k
theorem uX {P:Program} (w:World) (base:Nat) (t ty e:TypeId) (i:TypeInfo) (z:Value) (size bytes:Nat) (ht:P.underlying t=some (.slice e)) (hi:P.info? e=some i) (hz:i.zero=some z)
  (rQ:i.size=size) (hby:i.bytes=bytes) (hzs:z.cells.size=size) (hsz:0<size)
  (ao:Option Addr) (n c:Nat) (xs:List Value) (aK:w.ownsRow base e size (.slice ao n c) n xs)
  (ad:Option Addr) (m cc:Nat) (news:List Value) (hl:news.length=m*size) (hat:ar w ad news) (h1:∀u∈news,u.oneCell'=true)
  (h63:n+m<=maxLen) (mx:(n+m)*bytes<=140737488355328) (kS:base<=w.heap.size):
  ∃ao' c' w',(Builtin.append_ #[t,t] ty #[.slice ao n c,.slice ad m cc]).run P w= .ok (.slice ao' (n+m) c') w'∧w'.ownsRow base e size (.slice ao' (n+m) c') (n+m) (xs++news)∧
   Keeps (blk ao) w w'∧dS w ao ao'∧kQ w w' e ao (n*size):=by
 by_cases hm:m=0
 ·subst hm;have hn:news=[]:=List.eq_nil_of_length_eq_zero (by simpa using hl);subst hn;have hr:(Builtin.append_ #[t,t] ty #[.slice ao n c,.slice ad 0 cc]).run P w= .ok (.slice ao n c) w:=by
   rcases aK.2 with⟨hv,rfl⟩|⟨g,cap,cur,hv,_,_,hnc,_⟩
   ·simp only[Value.slice.injEq,true_and] at hv;obtain⟨rfl,rfl⟩:=hv;cases ad<;>simp[Builtin.append_,run_underlying ht,sizeOf,typeInfo,hi,Builtin.lenOf,Builtin.firstCells,loadCells,loadCellsFrom,storeCells]
   ·simp only[Value.slice.injEq] at hv;obtain⟨rfl,_,rfl⟩:=hv;cases ad<;>simp[Builtin.append_,run_underlying ht,sizeOf,typeInfo,hi,Builtin.lenOf,Builtin.firstCells,hnc,loadCells,loadCellsFrom,storeCells]
  exact⟨ao,c,w,by simpa using hr,by simpa using aK,Keeps.refl _ _,.inl rfl,fun a cur _ h=>⟨cur,h,rfl,rfl⟩⟩
 ·obtain⟨b,off,rfl,_⟩:=hat 0 (by rw[hl];exact Nat.mul_pos (by omega) hsz);have yu:∀j u,news[j]? =some u->w.cell? ((⟨b,off,none⟩:Addr).add j)=some u:=by
   intro j u hu;obtain⟨hj,hju⟩:=List.getElem?_eq_some_iff.1 hu;obtain⟨b',nD,e',c'⟩:=hat.at hj;simp only[Option.some.injEq,Addr.mk.injEq,and_true] at e';obtain⟨rfl,rfl⟩:=e';rw[Addr.add_lit,c',hju]
  have aU:(xs++news).length=(n+m)*size:=by rw[List.length_append,aK.1,hl,Nat.add_mul]
  have DV:n+m<=9223372036854775807:=by simp only[maxLen] at h63;omega
  subst rQ;subst hby;have grow:∀old,old<n+m->
    (w.drew.alloc (.cells (xs.toArray++news.toArray++Builtin.zeroCells z.cells (grownCap w (n+m) old e-(n+m))) e)).ownsRow base e i.size
     (.slice (some ⟨w.heap.size,0,none⟩) (n+m) (grownCap w (n+m) old e)) (n+m) (xs++news):=by
   intro old ho;have hge:=grownCap_ge w (n+m) old e;have hcm:grownCap w (n+m) old e<=maxLen:=grownCap_le_maxLen w (n+m) old e h63;refine⟨aU,.inr ⟨w.heap.size,_,_,rfl,kS,heap_alloc_new w.drew _,hge,hcm,?_,?_⟩⟩
   ·simp only[Array.size_append,List.size_toArray,size_zeroCells,hzs,aK.1,hl,<-Nat.add_mul];congr 1
    omega
   ·simp only[Array.toList_append,List.append_assoc];rw[<-List.append_assoc,<-aU];exact List.take_left
  have rN:∀(S:Nat->Prop) (o:Obj),Keeps S w (w.drew.alloc o):=fun S o=>(Keeps.drew w).trans (Keeps.alloc _ _) (fun _ _ h=>h)
  rcases aK.2 with⟨hv,rfl⟩|⟨g,cap,cur,hv,hbg,hg,hnc,hcm,hcs,htake⟩
  ·simp only[Value.slice.injEq,true_and] at hv;obtain⟨rfl,rfl⟩:=hv;have hx:xs=[]:=List.eq_nil_of_length_eq_zero (by simpa using aK.1);subst hx;have hr:=run_append_nil (P:=P) w t ty e i z ht hi hz ⟨b,off,none⟩ m cc news hl yu (by omega) (by omega) (by have hb:=mx;simp only[Nat.zero_add] at hb;omega);have hgr:=grow 0 (by omega);simp only[Nat.zero_add,List.nil_append,Array.empty_append] at hgr ⊢;exact⟨_,_,_,hr,hgr,rN _ _,.inr ⟨_,rfl,Nat.le_refl _⟩,fun a cur h=>by cases h⟩
  ·simp only[Value.slice.injEq] at hv;obtain⟨rfl,_,rfl⟩:=hv;by_cases ov:n+m<=c
   ·have Dz:n*i.size+news.length<=cur.size:=by rw[hl,hcs,<-Nat.add_mul];exact Nat.mul_le_mul_right _ ov
    have hr:=run_append_room (P:=P) w t ty e i ht hi g n c cur hg ⟨b,off,none⟩ m cc news hl yu h1 ov Dz;have hcl:n*i.size<=cur.toList.length:=by simp;omega
    refine⟨_,_,_,hr,⟨aU,.inr ⟨g,c,_,rfl,hbg,setRow_heap w g cur _ e _ hg,ov,hcm,?_,?_⟩⟩,?_,.inl rfl,?_⟩
    ·simp only[List.size_toArray,List.length_append,List.length_take,List.length_drop,Array.length_toList];omega
    ·rw[htake,<-aU];exact List.take_left
    ·exact⟨rfl,rfl,rfl,by simp,fun k _ hk=>setRow_other w g k _ (fun e=>hk ⟨_,rfl,e.symm⟩)⟩
    ·intro a ry ha hc';simp only[Option.some.injEq] at ha;subst ha;rw[hg] at hc';simp only[Option.some.injEq,Obj.cells.injEq,and_true,true_and] at hc';subst hc';refine⟨_,setRow_heap w g cur _ e _ hg,?_,?_⟩
     ·simp only[List.size_toArray,List.length_append,List.length_take,List.length_drop,Array.length_toList];omega
     ·show List.take _ (_++_++_)=_
      rw[List.append_assoc,List.take_append_of_le_length (by rw[List.length_take];omega),List.take_take,Nat.min_self]
   ·have holds:∀j u,xs[j]? =some u->w.cell? ((⟨g,0,none⟩:Addr).add j)=some u:=aK.cells (g:=g) rfl;have hr:=run_append_grow (P:=P) w t ty e i z ht hi hz ⟨g,0,none⟩ n c xs aK.1 holds ⟨b,off,none⟩ m cc news hl yu (by omega) (by omega) (growslice_fits (by omega) mx);refine⟨_,_,_,hr,grow c (by omega),rN _ _,.inr ⟨_,rfl,Nat.le_refl _⟩,?_⟩;intro a ry ha hc';exact⟨ry,(rN (fun _=>False) _).heap hc' (fun h=>h),rfl,rfl⟩
theorem aR {P:Program} {w:World} {ops:Array Oper} {rest:List Oper} {o:Oper} {a:Act} {Q:Exit->Act->World->Prop} (hgd:o.guard=none) (s x:Operand) (t:TypeId)
  (ho:o.op= .call { callee:= .builtin .append,args:=#[s,x],argTypes:=#[t,t] })
  (base:Nat) (e:TypeId) (i:TypeInfo) (z:Value) (size bytes:Nat) (ht:P.underlying t=some (.slice e)) (hi:P.info? e=some i) (hz:i.zero=some z)
  (rQ:i.size=size) (hby:i.bytes=bytes) (hzs:z.cells.size=size) (hsz:0<size)
  (ao:Option Addr) (n c:Nat) (xs:List Value) (hs:a.eval s= .slice ao n c) (aK:w.ownsRow base e size (.slice ao n c) n xs)
  (ad:Option Addr) (m cc:Nat) (news:List Value) (hx:a.eval x= .slice ad m cc) (hl:news.length=m*size) (hat:ar w ad news) (h1:∀u∈news,u.oneCell'=true)
  (h63:n+m<=maxLen) (mx:(n+m)*bytes<=140737488355328) (kS:base<=w.heap.size)
  (h:∀ao' c' w',w'.ownsRow base e size (.slice ao' (n+m) c') (n+m) (xs++news)->Keeps (blk ao) w w'->dS w ao ao'->kQ w w' e ao (n*size)->wpList P ops Q rest (a.put o.dst (.slice ao' (n+m) c')) w'):wpList P ops Q (o::rest) a w:=by
 refine wpList_plain hgd fun K hK=>?_
 obtain⟨ao',c',w',hr,h2,h3,h4,h5⟩:=uX (P:=P) w base t o.type e i z size bytes ht hi hz rQ hby hzs hsz ao n c xs aK ad m cc news hl hat h1 h63 mx kS;unfold Oper.wp execOp;simp only[ho,resolve,invoke,builtin,Sem.run_bind,Sem.run_pure,Result.andThen_ok,List.map_toArray,List.map_cons,List.map_nil,hs,hx,hr];exact hK _ _ (h ao' c' w' h2 h3 h4 h5)
theorem ar.block {w:World} {g:Nat} {cs:List Value} {e:TypeId} {fr:Nat×Nat} (h:w.heap[g]? =some (.cells cs.toArray e fr)):ar w (some ⟨g,0,none⟩) cs:=by
 intro i hi;refine⟨g,0,rfl,?_⟩;rw[Nat.zero_add,cell_of_row w g i _ e fr h];simp[hi]
theorem ar.lit (w:World) (cs:Array Value) (e:TypeId):ar (w.alloc (.cells cs e)) (some ⟨w.heap.size,0,none⟩) cs.toList:=by
 intro i hi;refine⟨_,_,rfl,?_⟩;simp at hi;simp[hi]
theorem iJ {w w':World} {base:Nat} {e:TypeId} {size n c:Nat} {ao:Option Addr} {xs:List Value} (h:w.ownsRow base e size (.slice ao n c) n xs) {len:Nat} (hh:kQ w w' e ao len) (hl:n*size<=len):
  w'.ownsRow base e size (.slice ao n c) n xs:=by
 refine⟨h.1,?_⟩;rcases h.2 with h0|⟨g,cap,cur,hv,hbg,hg,hnc,hcm,hcs,htake⟩
 ·exact .inl h0
 ·have hv':=hv;simp only[Value.slice.injEq] at hv';obtain⟨rfl,_,rfl⟩:=hv';obtain⟨ry,hg',hs',ht'⟩:=hh _ cur rfl hg;refine .inr ⟨g,c,ry,rfl,hbg,hg',hnc,hcm,by rw[hs',hcs],?_⟩;rw[<-htake];have:=congrArg (List.take (n*size)) ht';simpa[List.take_take,Nat.min_eq_left hl] using this
theorem eO {w:World} {base AQ:Nat} {e:TypeId} {size n:Nat} {v:Value} {xs:List Value} (h:w.ownsRow base e size v n xs) (hb:∀k,v.ownBlock=some k->AQ<=k):w.ownsRow AQ e size v n xs:=by
 refine⟨h.1,?_⟩;rcases h.2 with h0|⟨g,cap,cur,rfl,hbg,r⟩
 ·exact .inl h0
 ·exact .inr ⟨g,cap,cur,rfl,hb g rfl,r⟩
end Go.Proofs.YtnedmonlofbahaaGreatDoor
namespace Go.Proofs.YtnedmonlofbahaaGreatDoor
open Go Go.RowKit
set_option linter.all false
abbrev I (n:Int):Value:= .int .i64 n
abbrev Is (xs:List Int):List Value:=xs.map (Value.int .i64)
theorem Tryz.infoInt:(Tryz.prog.info? 3).map (fun i=>(i.zero,i.size,i.bytes))=some (some (.int .i64 0),1,8):=by kernel_rfl
def bc (w:World) (B:Nat) (ao:Option Addr) (c:Nat) (xs:List Int):Prop:=w.ownsRow B 3 1 (.slice ao xs.length c) xs.length (Is xs)
theorem bc.sl {w:World} {B:Nat} {ao:Option Addr} {c:Nat} {xs:List Int} (h:bc w B ao c xs):ar w ao (Is xs):=ar.of_owns h
theorem bc.new {w w':World} {B:Nat} {ao:Option Addr} {c:Nat} {xs:List Int} (h:bc w B ao c xs) (k:New w w'):bc w' B ao c xs:=k.owns h
theorem bc.lt {w:World} {B:Nat} {ao:Option Addr} {c:Nat} {xs:List Int} (h:bc w B ao c xs):∀a,ao=some a->B<=a.block∧a.block<w.heap.size:=fun a ha=>
 World.ownsRow.lt h a.block (by subst ha;rfl)
theorem fK {w:World} {ao:Option Addr} {xs:List Int} (h:ar w ao (Is xs)) {i:Nat} (hi:i<xs.length):
  ∃b off,ao=some ⟨b,off,none⟩∧w.cell? ⟨b,off+i,none⟩=some (.int .i64 xs[i]):=by
 obtain⟨b,off,e,c⟩:=h.at (i:=i) (by simpa using hi);exact⟨b,off,e,by rw[c];simp⟩
theorem qW (w:World) (ao bo:Option Addr) (xs ys:List Int) (c d:Nat) (hx:ar w ao (Is xs)) (hy:ar w bo (Is ys))
   (lx:xs.length<=9223372036854775807):
    Calls Tryz.prog 30 #[.slice ao xs.length c,.slice bo ys.length d] w fun e w'=>e= .returned (.bool (decide (xs=ys)))∧∃n,w'=w.drewN n:=by
  by_cases hl:xs.length=ys.length
  · have hl':((xs.length:Int) != (ys.length:Int))=false:=by simp[hl]
    have HL:=Lib.hid hl;clear hl;have hle:xs.length<=ys.length:=by have:=HL.out;omega
    have hge:ys.length<=xs.length:=by have:=HL.out;omega
    go_enter Tryz.func30,Tryz.ntmps30;go_wp2
    go_loopw [5] (fun i wr=>∃k:Nat,k<=xs.length∧i= .int .i64 k∧(∀j,j<k->xs[j]? =ys[j]?)∧∃n,wr=w.drewN n) (fun i _=>xs.length-(intOf i).toNat)
    case atStart=>exact⟨0,by omega,rfl,by omega,0,rfl⟩
    case round=>
      obtain⟨k,hk,rfl,di,n,rfl⟩:=hrel;have HA:=Lib.hid di;clear di;by_cases hkl:k<xs.length
      · obtain⟨b,off,rfl,hc⟩:=fK hx hkl
        obtain⟨b',nD,rfl,hc'⟩:=fK hy (i:=k) (by omega);go_wp2
        go_quiet (fail)
        go_wp2
        · have hne:(xs[k] != ys[k])=true:=by assumption
          go_ret
          refine⟨?_,n+nq,by simp⟩;have:xs≠ys:=by rintro rfl;simp at hne
          simp[this]
        · have hne:(xs[k] != ys[k])=false:=by assumption
          go_roundw
          case rel=>
            refine⟨k+1,by omega,by go_num,?_,_,rfl⟩;intro j hj;by_cases e:j<k
            · exact HA.out j e
            · obtain rfl:j=k:=by omega
              simp at hne;rw[List.getElem?_eq_getElem hkl,List.getElem?_eq_getElem (by omega),hne]
          case measure=>simp[intOf];omega
      · go_wp2
        go_ret
        refine⟨?_,_,rfl⟩;have:xs=ys:=by
          apply List.ext_getElem?;intro i;by_cases e:i<k
          · exact HA.out i e
          · rw[List.getElem?_eq_none (by omega),List.getElem?_eq_none (by omega)]
        simp[this]
  · have hl':((xs.length:Int) != (ys.length:Int))=true:=by simp;omega
    go_enter Tryz.func30,Tryz.ntmps30;go_wp2
    go_ret
    refine⟨?_,0,rfl⟩;have:xs≠ys:=by rintro rfl;exact hl rfl
    simp[this]
set_option maxRecDepth 512 in
theorem dX (n m:Int) (w:World):
  Calls Tryz.prog 142 #[I n,I m] w fun e w'=>e= .returned (.bool (decide (1<=n∧n<=m)))∧w'=w:=by
 by_cases h1:1<=n
 ·by_cases h2:n<=m
  all_goals
   go_enter Tryz.func142,Tryz.ntmps142;go_wp2
   go_ret
   exact⟨by simp[h1,h2];try omega,rfl⟩
 ·go_enter Tryz.func142,Tryz.ntmps142;go_wp2
  go_ret
  exact⟨by simp;omega,rfl⟩
theorem qS (n:Nat) (r:Int) (w:World) (hn:n<=64):
  Calls Tryz.prog 153 #[I n,I r] w fun e w'=>∃ao c,e= .returned (.slice ao n c)∧bc w' w.heap.size ao c (List.replicate n r)∧New w w':=by
 obtain⟨i0,hi,hz0,hz1,hz2⟩:=info_parts Tryz.infoInt;go_enter Tryz.func153,Tryz.ntmps153;go_wp2
 go_loopw [5,6] (fun v i wr=>∃k:Nat,k<=n∧i= .int .i64 k∧(∃ao c,v= .slice ao k c∧wr.ownsRow w.heap.size 3 1 (.slice ao k c) k (List.replicate k (I r)))∧New w wr) (fun _ i _=>n-(intOf i).toNat)
 case atStart=>exact⟨0,Nat.zero_le _,rfl,⟨_,_,rfl,World.ownsRow_nil _ _ _ _⟩,New.refl _⟩
 case round=>
  obtain⟨k,hk,rfl,⟨ao,c,rfl,aK⟩,hnew⟩:=hrel;by_cases hkn:k<n
  ·have hs:=hnew.size;go_wp2_with ((at_builtin;refine aR rfl _ _ 61 rfl w.heap.size 3 i0 (.int .i64 0) 1 8 Tryz.underlying61 hi hz0 hz1 hz2 rfl (by decide) ao k c _ rfl ((Keeps.alloc (S:=fun _=>False) _ _).owns aK (fun _ _ h=>h)) _ 1 1 [I r] rfl rfl ?c0 ?c1 ?c2 ?c3 ?c4 ?c5));case c0=>exact ar.lit _ _ _
   case c1=>intro u hu;simp at hu;subst hu;rfl
   case c2=>unfold maxLen;omega
   case c3=>omega
   case c4=>simp;omega
   case c5=>
    intro ao' c' w' az hk' hmv _;have aN:New w w':=(hnew.alloc _).keeps hk' (fun i hi ⟨a,ha,hb⟩=>by
     have:=World.ownsRow.lt aK a.block (by subst ha;rfl);omega)
    clear aK hk';go_wp2
    go_roundw
    case rel=>exact⟨k+1,by omega,by go_num,⟨_,_,rfl,by rw[List.replicate_succ'];exact az⟩,aN⟩
    case measure=>simp[intOf];omega
  ·obtain rfl:k=n:=by omega
   go_wp2
   go_ret
   exact⟨_,_,rfl,by unfold bc;simpa using aK,hnew⟩
end Go.Proofs.YtnedmonlofbahaaGreatDoor
namespace Go.Proofs.YtnedmonlofbahaaGreatDoor
open Go Go.RowKit
set_option linter.all false
set_option maxRecDepth 512 in
theorem nj (ao:Option Addr) (c:Nat) (xs:List Int) (w:World) (hx:ar w ao (Is xs)) (hn:xs.length<=64):
  Calls Tryz.prog 143 #[.slice ao xs.length c] w fun e w'=>∃ao' c',e= .returned (.slice ao' xs.length c')∧bc w' w.heap.size ao' c' xs∧New w w':=by
 obtain⟨i0,hi,hz0,hz1,hz2⟩:=info_parts Tryz.infoInt;have hx2:∀o,ar (w.alloc o) ao (Is xs):=fun o=>hx.new (Keeps.alloc w o)
 go_enter Tryz.func143,Tryz.ntmps143;go_wp2_with ((at_builtin;refine aR rfl _ _ 61 rfl w.heap.size 3 i0 (.int .i64 0) 1 8 Tryz.underlying61 hi hz0 hz1 hz2 rfl (by decide) _ 0 0 [] rfl ?cc ao xs.length c (Is xs) rfl ?c00 ?c0 ?c1 ?c2 ?c3 ?c4 ?c5));case cc=>exact World.ownsRow_made (size:=1) _ #[] 0 (Nat.le_refl _) (by decide) (by simp)
 case c00=>simp
 case c0=>exact hx2 _
 case c1=>exact cG _ _
 case c2=>unfold maxLen;omega
 case c3=>omega
 case c4=>simp
 case c5=>
  intro ao' c' w' az hk' hmv _;go_wp2
  go_ret
  refine⟨ao',c',by simp,by unfold bc;simpa using az,(New.refl w).trans (Keeps.trans (Keeps.alloc w _) hk' (fun i hi ⟨a,ha,hb⟩=>?_))⟩;simp only[Option.some.injEq] at ha;subst ha;simp at hb;omega
theorem uh (n:Nat) (r:Int) (w:World) (hn:n<=64):
  Calls Tryz.prog 144 #[I n,I r] w fun e w'=>∃ao c,e= .returned (.slice ao n c)∧bc w' w.heap.size ao c (List.replicate n r)∧New w w':=by
 obtain⟨i0,hi,hz0,hz1,hz2⟩:=info_parts Tryz.infoInt;go_enter Tryz.func144,Tryz.ntmps144;go_wp2_with (at_make;refine wpList_make_full _ rfl _ _ 61 rfl w.heap.size 3 i0 (.int .i64 0) 1 Tryz.underlying61 hi hz0 hz1 _ _ _ _ n rfl rfl rfl rfl ?b1 ?b2 ?b3 ?b4);case b1=>rw[hz2];omega
 case b2=>unfold maxLen;omega
 case b3=>simp
 case b4=>
  intro w1 aK hg;rw[toList_madeCells_one] at aK;have hnew:New w w1:=Keeps.grown hg (fun k h=>by cases h);go_wp2
  go_loopw [11] (fun i wr=>∃k:Nat,k<=n∧i= .int .i64 k∧wr.ownsRow w.heap.size 3 1 (.slice (some ⟨w.heap.size,0,none⟩) n n) n (List.replicate k (I r)++List.replicate (n-k) (I 0))∧New w wr) (fun i _=>n-(intOf i).toNat)
  case atStart=>exact⟨0,Nat.zero_le _,rfl,by simpa using aK,hnew⟩
  case round=>
   clear aK hnew hg;obtain⟨k,hk,rfl,aK,hnew⟩:=hrel;by_cases hkn:k<n
   ·have gM:wr.cell? ⟨w.heap.size,k,none⟩=some (I 0):=by
     rw[aK.cellAt k (by omega)];simp[List.getElem?_append];rw[List.getElem?_replicate,if_pos (by omega)]
    have hfz:=aK.frozenAt k;have hst:=aK.stored k (I r);go_wp2
    go_roundw
    case rel=>
     refine⟨k+1,by omega,by go_num,?_,hnew.setCell (by simp) _⟩;have e:(List.replicate k (I r)++List.replicate (n-k) (I 0)).set k (I r)=List.replicate (k+1) (I r)++List.replicate (n-(k+1)) (I 0):=by
      rw[List.set_append_right _ _ (by simp)];obtain⟨m,hm⟩:∃m,n-k=m+1:=⟨n-k-1,by omega⟩
      have hm':n-(k+1)=m:=by omega
      rw[hm,hm',List.replicate_succ (n:=m),List.replicate_succ' (n:=k)];simp
     rw[<-e];exact hst.1
    case measure=>simp[intOf];omega
   ·obtain rfl:k=n:=by omega
    go_wp2
    go_ret
    exact⟨_,_,rfl,by unfold bc;simpa using aK,hnew⟩
theorem is {a b:Bool} (h:a=b):Ending.returned (.bool a)= .returned (.bool b):=by rw[h]
def l7 (ps:List Int) (D3:Int):Bool:=match ps with
 |[n]=>decide (1<=n∧n<=D3)
 |_=>false
set_option maxRecDepth 512 in
theorem Ap (ao:Option Addr) (c:Nat) (ps:List Int) (m:Int) (w:World) (hx:ar w ao (Is ps)) (hl:ps.length<=9223372036854775807):
  Calls Tryz.prog 162 #[.slice ao ps.length c,I m] w fun e w'=>e= .returned (.bool (l7 ps m))∧w'=w:=by
 by_cases h1:ps.length=1
 ·match ps,h1 with
  |[n],_=>
   obtain⟨b,off,rfl,hc⟩:=fK hx (i:=0) (by simp);simp only[Nat.add_zero,List.getElem_cons_zero] at hc;by_cases h2:1<=n
   ·by_cases h3:n<=m
    all_goals
     go_enter Tryz.func162,Tryz.ntmps162;go_wp2
     go_ret
     exact⟨by simp[l7,h2,h3];try omega,rfl⟩
   ·go_enter Tryz.func162,Tryz.ntmps162;go_wp2
    go_ret
    exact⟨by simp[l7];omega,rfl⟩
 ·have h1':((ps.length:Int)==1)=false:=by simp;omega
  have e:l7 ps m=false:=by
   match ps,h1 with
   |[],_=>rfl
   |_::_::_,_=>rfl
  go_enter Tryz.func162,Tryz.ntmps162;have E:=Lib.hid e;clear e;go_wp2
  go_ret
  exact⟨is E.out.symm,rfl⟩
def jI (ps:List Int):Bool:=match ps with
 |[n,m]=>decide (1<=n∧n<=16∧1<=m∧m<=64∧n*m<=64)
 |_=>false
set_option maxRecDepth 512 in
theorem AK (ao:Option Addr) (c:Nat) (ps:List Int) (w:World) (hx:ar w ao (Is ps)) (hl:ps.length<=9223372036854775807):
  Calls Tryz.prog 163 #[.slice ao ps.length c] w fun e w'=>e= .returned (.bool (jI ps))∧∃n,w'=w.drewN n:=by
 by_cases h1:ps.length=2
 ·match ps,h1 with
  |[n,m],_=>
   obtain⟨b,off,rfl,hc⟩:=fK hx (i:=0) (by simp);obtain⟨b',nD,e,hc'⟩:=fK hx (i:=1) (by simp);simp only[Option.some.injEq,Addr.mk.injEq,and_true] at e;obtain⟨rfl,rfl⟩:=e;simp only[Nat.add_zero,List.getElem_cons_zero,List.getElem_cons_succ] at hc hc';by_cases h2:1<=n∧n<=16∧1<=m∧m<=64
   ·obtain⟨h21,h22,h23,h24⟩:=h2;have hb1:1<=n*m:=by have:=Int.mul_le_mul h21 h23 (by omega) (by omega);simpa using this
    have hb2:n*m<=1024:=by have:=Int.mul_le_mul h22 h24 (by omega) (by omega);simpa using this
    by_cases h3:n*m<=64
    all_goals
     go_enter Tryz.func163,Tryz.ntmps163;go_wp2
     go_quiet (fail)
     go_wp2
     go_ret
     exact⟨by simp[jI,h21,h22,h23,h24,h3];try omega,_,rfl⟩
   ·have e2:jI [n,m]=false:=by simp[jI];omega
    have E2:=Lib.hid e2;clear e2;go_enter Tryz.func163,Tryz.ntmps163;go_wp2
    all_goals
     go_ret
     exact⟨is E2.out.symm,0,rfl⟩
 ·have h1':((ps.length:Int) != 2)=true:=by simp;omega
  have e:jI ps=false:=by
   match ps,h1 with
   |[],_=>rfl
   |[_],_=>rfl
   |_::_::_::_,_=>rfl
  go_enter Tryz.func163,Tryz.ntmps163;have E:=Lib.hid e;clear e;go_wp2
  go_ret
  exact⟨is E.out.symm,0,rfl⟩
def bB (tag:Int) (ps:List Int):Bool:=
 if tag=1 then decide (1<=ps.length∧ps.length<=16)
 else if tag=2∨tag=3∨tag=11 then l7 ps 64
 else if tag=4∨tag=5 then jI ps
 else if tag=6∨tag=9 then l7 ps 16
 else if tag=10 then decide (ps.length=2)
 else decide (ps.length=0)
set_option maxRecDepth 512 in
theorem eg (tag:Int) (ao:Option Addr) (c:Nat) (ps:List Int) (w:World) (h1:1<=tag) (h2:tag<=11) (hx:ar w ao (Is ps)) (hl:ps.length<=9223372036854775807):
  Calls Tryz.prog 152 #[.int .u8 tag,.slice ao ps.length c] w fun e w'=>e= .returned (.bool (bB tag ps))∧∃n,w'=w.drewN n:=by
 have hc:tag=1∨tag=2∨tag=3∨tag=4∨tag=5∨tag=6∨tag=7∨tag=8∨tag=9∨tag=10∨tag=11:=by omega
 clear h1 h2;rcases hc with rfl|rfl|rfl|rfl|rfl|rfl|rfl|rfl|rfl|rfl|rfl
 all_goals
  go_enter Tryz.func152,Tryz.ntmps152;go_wp2_with (first
   |(go_at_call 162;refine(Ap _ _ _ _ _ hx hl).mono ?_;rintro e w' ⟨rfl,rfl⟩)
   |(go_at_call 163;refine(AK _ _ _ _ hx hl).mono ?_;rintro e w' ⟨rfl,n,rfl⟩))
 all_goals go_ret
 all_goals first
  |(refine⟨is ?_,0,rfl⟩;first|rfl|(simp[bB];done)|(simp[bB];omega))
  |(refine⟨is ?_,_,rfl⟩;first|rfl|(simp[bB];done))
  |(refine⟨is ?_,0,rfl⟩;rw[Bool.eq_iff_iff];simp[bB];omega)
  |(refine⟨is ?_,0,rfl⟩;rw[Bool.eq_iff_iff];simp[bB];done)
end Go.Proofs.YtnedmonlofbahaaGreatDoor
namespace Go.Proofs.YtnedmonlofbahaaGreatDoor
open Go Go.RowKit
set_option linter.all false
theorem dh (n:Int) (r:Int) (w:World) (hn:0<=n∧n<=64):
  Calls Tryz.prog 153 #[I n,I r] w fun e w'=>∃ao c,e= .returned (.slice ao n.toNat c)∧bc w' w.heap.size ao c (List.replicate n.toNat r)∧New w w':=by
 obtain⟨k,rfl⟩:=Int.eq_ofNat_of_zero_le hn.1;exact qS k r w (by omega)
def gC (tag:Int) (ps:List Int):List Int×List Int:=
 let n:=ps.getD 0 0
 let m:=ps.getD 1 0
 if tag=2 then([1],[n])
 else if tag=3 then([n],[1])
 else if tag=4 then(List.replicate n.toNat m,[n*m])
 else if tag=5 then([n*m],List.replicate n.toNat m)
 else if tag=6 then(List.replicate n.toNat 1,[1])
 else if tag=7 then([1,1],[1])
 else if tag=9 then([1],List.replicate n.toNat 1)
 else if tag=10 then([],[1])
 else if tag=11 then([n],[])
 else([1],[1])
def bs (tag:Int) (ps:List Int):Int×List Int×List Int:=
 if 1<=tag∧tag<=11 then(if bB tag ps then(0,gC tag ps) else(61,[],[])) else(60,[],[])
def aP (w:World) (r:Int×List Int×List Int) (e:Ending) (w':World):Prop:=
 ∃a ca b cb,e= .returned (.tuple #[.slice a r.2.1.length ca,.slice b r.2.2.length cb,I r.1])∧bc w' w.heap.size a ca r.2.1∧bc w' w.heap.size b cb r.2.2∧
  (∀x y,a=some x->b=some y->x.block≠y.block)∧New w w'
theorem bc.nil (w:World) (B:Nat):bc w B Option.none 0 []:=World.ownsRow_nil _ _ _ _
theorem aP.none (w w':World) (k:Int) (h:New w w'):aP w (k,[],[]) (.returned (.tuple #[.slice none 0 0,.slice none 0 0,I k])) w':=
 ⟨Option.none,0,Option.none,0,rfl,World.ownsRow_nil _ _ _ _,World.ownsRow_nil _ _ _ _,(fun x y h=>by cases h),h⟩
theorem aP.mk {w w0 w1 w2:World} {a b:Option Addr} {ca cb na nb:Nat} {xs ys xs' ys':List Int} (h0:New w w0) (ha:bc w1 w0.heap.size a ca xs) (h1:New w0 w1) (hb:bc w2 w1.heap.size b cb ys) (h2:New w1 w2)
  (hxs:xs=xs'∧na=xs'.length) (hys:ys=ys'∧nb=ys'.length):
  aP w (0,xs',ys') (.returned (.tuple #[.slice a na ca,.slice b nb cb,I 0])) w2:=by
 obtain⟨rfl,rfl⟩:=hxs;obtain⟨rfl,rfl⟩:=hys;have s0:=h0.size;have s1:=h1.size;exact⟨a,ca,b,cb,rfl,eO (ha.new h2) (fun k hk=>by have:=World.ownsRow.lt ha k hk;omega),eO hb (fun k hk=>by have:=World.ownsRow.lt hb k hk;omega),
  (fun x y hx hy=>by have:=ha.lt x hx;have:=hb.lt y hy;omega),(h0.trans h1).trans h2⟩
theorem aP.fst {w w0 w1:World} {a:Option Addr} {ca na:Nat} {xs xs':List Int} (h0:New w w0) (ha:bc w1 w0.heap.size a ca xs) (h1:New w0 w1) (hxs:xs=xs'∧na=xs'.length):
  aP w (0,xs',[]) (.returned (.tuple #[.slice a na ca,.slice Option.none 0 0,I 0])) w1:=
 aP.mk h0 ha h1 (bc.nil _ _) (New.refl w1) hxs ⟨rfl,rfl⟩
theorem aP.snd {w w0 w1:World} {a:Option Addr} {ca na:Nat} {xs xs':List Int} (h0:New w w0) (ha:bc w1 w0.heap.size a ca xs) (h1:New w0 w1) (hxs:xs=xs'∧na=xs'.length):
  aP w (0,[],xs') (.returned (.tuple #[.slice Option.none 0 0,.slice a na ca,I 0])) w1:=
 aP.mk h0 (bc.nil _ _) (New.refl w0) ha h1 ⟨rfl,rfl⟩ hxs
theorem Aw (tag:Int) (ao:Option Addr) (c:Nat) (n:Int) (w:World) (ht:tag=2) (hx:ar w ao (Is [n])) (hn:1<=n) (hn2:n<=64):
  Calls Tryz.prog 134 #[.int .u8 tag,.slice ao ([n]:List Int).length c] w (aP w (0,[1],[n])):=by
 have hg:bB 2 [n]=true:=by simp[bB,l7,hn,hn2]
 subst ht;obtain⟨b,off,rfl,hc⟩:=fK hx (i:=0) (by simp);simp only[Nat.add_zero,List.getElem_cons_zero] at hc;go_enter Tryz.func134,Tryz.ntmps134;go_wp2_with (go_at_call 152;refine(eg _ _ _ [n] _ (by omega) (by omega) hx (by first|omega|simp)).mono ?_;rw[hg];rintro e w' ⟨rfl,nq,rfl⟩);go_region_held3 (fun w'=>w'.cell? ⟨b,off,none⟩=some (.int .i64 n))
  (first|exact hc|assumption)
  (first|(go_at_call 153;refine(dh _ _ _ (by omega)).mono ?_;rintro e w' ⟨ao',c',rfl,az,aN⟩;have hc2:w'.cell? ⟨b,off,none⟩=some (I n):=(by first|exact aN.cell hc|exact aN.cell (by assumption))))
 all_goals
  go_wp2
  go_ret3
  exact aP.mk (Keeps.drewN w _) (by assumption) (by assumption) az aN (by simp) (by simp)
theorem Ax (tag:Int) (ao:Option Addr) (c:Nat) (n:Int) (w:World) (ht:tag=3) (hx:ar w ao (Is [n])) (hn:1<=n) (hn2:n<=64):
  Calls Tryz.prog 134 #[.int .u8 tag,.slice ao ([n]:List Int).length c] w (aP w (0,[n],[1])):=by
 have hg:bB 3 [n]=true:=by simp[bB,l7,hn,hn2]
 subst ht;obtain⟨b,off,rfl,hc⟩:=fK hx (i:=0) (by simp);simp only[Nat.add_zero,List.getElem_cons_zero] at hc;go_enter Tryz.func134,Tryz.ntmps134;go_wp2_with (first|(go_at_call 152;refine(eg _ _ _ [n] _ (by omega) (by omega) hx (by first|omega|simp)).mono ?_;rw[hg];rintro e w' ⟨rfl,nq,rfl⟩)|(go_at_call 153;refine(dh _ _ _ (by omega)).mono ?_;rintro e w' ⟨ao',c',rfl,az,aN⟩;have hc2:w'.cell? ⟨b,off,none⟩=some (I n):=(by first|exact aN.cell hc|exact aN.cell (by assumption))));all_goals
  go_ret3
  exact aP.mk (Keeps.drewN w _) (by assumption) (by assumption) az aN (by simp) (by simp)
theorem Ay (tag:Int) (ao:Option Addr) (c:Nat) (n m:Int) (w:World) (ht:tag=4) (hx:ar w ao (Is [n,m])) (hn:1<=n) (hn2:n<=16) (hm:1<=m) (hm2:m<=64) (hp1:1<=n*m) (hp:n*m<=64):
  Calls Tryz.prog 134 #[.int .u8 tag,.slice ao ([n,m]:List Int).length c] w (aP w (0,List.replicate n.toNat m,[n*m])):=by
 have hg:bB 4 [n,m]=true:=by simp[bB,jI,hn,hn2,hm,hm2,hp]
 subst ht;obtain⟨b,off,rfl,hc⟩:=fK hx (i:=0) (by simp);obtain⟨b',nD,e,hd⟩:=fK hx (i:=1) (by simp);simp only[Option.some.injEq,Addr.mk.injEq,and_true] at e;obtain⟨rfl,rfl⟩:=e;simp only[List.getElem_cons_zero,List.getElem_cons_succ] at hd;simp only[Nat.add_zero,List.getElem_cons_zero] at hc;go_enter Tryz.func134,Tryz.ntmps134;have hwr:IntKind.i64.wrap (n*m)=n*m:=IntWalk.i64_in _ (by omega);go_wp2_with (go_at_call 152;refine(eg _ _ _ [n,m] _ (by omega) (by omega) hx (by first|omega|simp)).mono ?_;rw[hg];rintro e w' ⟨rfl,nq,rfl⟩);go_region_held3 (fun w'=>w'.cell? ⟨b,off,none⟩=some (.int .i64 n)∧w'.cell? ⟨b,off+1,none⟩=some (.int .i64 m))
  (first|exact⟨hc,hd⟩|exact⟨by assumption,by assumption⟩)
  (first|(go_at_call 153;refine(dh _ _ _ (by omega)).mono ?_;rintro e w' ⟨ao',c',rfl,az,aN⟩;have hc2:w'.cell? ⟨b,off,none⟩=some (I n):=(by first|exact aN.cell hc|exact aN.cell (by assumption));have hd2:w'.cell? ⟨b,off+1,none⟩=some (I m):=(by first|exact aN.cell hd|exact aN.cell (by assumption))))
 all_goals
  go_wp2
  go_ret3
  exact aP.mk (Keeps.drewN w _) (by assumption) (by assumption) az aN (by simp) (by simp)
theorem Az (tag:Int) (ao:Option Addr) (c:Nat) (n m:Int) (w:World) (ht:tag=5) (hx:ar w ao (Is [n,m])) (hn:1<=n) (hn2:n<=16) (hm:1<=m) (hm2:m<=64) (hp1:1<=n*m) (hp:n*m<=64):
  Calls Tryz.prog 134 #[.int .u8 tag,.slice ao ([n,m]:List Int).length c] w (aP w (0,[n*m],List.replicate n.toNat m)):=by
 have hg:bB 5 [n,m]=true:=by simp[bB,jI,hn,hn2,hm,hm2,hp]
 subst ht;obtain⟨b,off,rfl,hc⟩:=fK hx (i:=0) (by simp);obtain⟨b',nD,e,hd⟩:=fK hx (i:=1) (by simp);simp only[Option.some.injEq,Addr.mk.injEq,and_true] at e;obtain⟨rfl,rfl⟩:=e;simp only[List.getElem_cons_zero,List.getElem_cons_succ] at hd;simp only[Nat.add_zero,List.getElem_cons_zero] at hc;go_enter Tryz.func134,Tryz.ntmps134;have hwr:IntKind.i64.wrap (n*m)=n*m:=IntWalk.i64_in _ (by omega);go_wp2_with (go_at_call 152;refine(eg _ _ _ [n,m] _ (by omega) (by omega) hx (by first|omega|simp)).mono ?_;rw[hg];rintro e w' ⟨rfl,nq,rfl⟩);go_region_held3 (fun w'=>w'.cell? ⟨b,off,none⟩=some (.int .i64 n)∧w'.cell? ⟨b,off+1,none⟩=some (.int .i64 m))
  (first|exact⟨hc,hd⟩|exact⟨by assumption,by assumption⟩)
  (first|(go_at_call 153;refine(dh _ _ _ (by omega)).mono ?_;rintro e w' ⟨ao',c',rfl,az,aN⟩;have hc2:w'.cell? ⟨b,off,none⟩=some (I n):=(by first|exact aN.cell hc|exact aN.cell (by assumption));have hd2:w'.cell? ⟨b,off+1,none⟩=some (I m):=(by first|exact aN.cell hd|exact aN.cell (by assumption))))
 all_goals
  go_wp2
  go_ret3
  exact aP.mk (Keeps.drewN w _) (by assumption) (by assumption) az aN (by simp) (by simp)
theorem AA (tag:Int) (ao:Option Addr) (c:Nat) (n:Int) (w:World) (ht:tag=6) (hx:ar w ao (Is [n])) (hn:1<=n) (hn2:n<=16):
  Calls Tryz.prog 134 #[.int .u8 tag,.slice ao ([n]:List Int).length c] w (aP w (0,List.replicate n.toNat 1,[1])):=by
 have hg:bB 6 [n]=true:=by simp[bB,l7,hn,hn2]
 subst ht;obtain⟨b,off,rfl,hc⟩:=fK hx (i:=0) (by simp);simp only[Nat.add_zero,List.getElem_cons_zero] at hc;go_enter Tryz.func134,Tryz.ntmps134;go_wp2_with (first|(go_at_call 152;refine(eg _ _ _ [n] _ (by omega) (by omega) hx (by first|omega|simp)).mono ?_;rw[hg];rintro e w' ⟨rfl,nq,rfl⟩)|(go_at_call 153;refine(dh _ _ _ (by omega)).mono ?_;rintro e w' ⟨ao',c',rfl,az,aN⟩;have hc2:w'.cell? ⟨b,off,none⟩=some (I n):=(by first|exact aN.cell hc|exact aN.cell (by assumption))));all_goals
  go_ret3
  exact aP.mk (Keeps.drewN w _) (by assumption) (by assumption) az aN (by simp) (by simp)
theorem AD (tag:Int) (ao:Option Addr) (c:Nat) (n:Int) (w:World) (ht:tag=9) (hx:ar w ao (Is [n])) (hn:1<=n) (hn2:n<=16):
  Calls Tryz.prog 134 #[.int .u8 tag,.slice ao ([n]:List Int).length c] w (aP w (0,[1],List.replicate n.toNat 1)):=by
 have hg:bB 9 [n]=true:=by simp[bB,l7,hn,hn2]
 subst ht;obtain⟨b,off,rfl,hc⟩:=fK hx (i:=0) (by simp);simp only[Nat.add_zero,List.getElem_cons_zero] at hc;go_enter Tryz.func134,Tryz.ntmps134;go_wp2_with (go_at_call 152;refine(eg _ _ _ [n] _ (by omega) (by omega) hx (by first|omega|simp)).mono ?_;rw[hg];rintro e w' ⟨rfl,nq,rfl⟩);go_region_held3 (fun w'=>w'.cell? ⟨b,off,none⟩=some (.int .i64 n))
  (first|exact hc|assumption)
  (first|(go_at_call 153;refine(dh _ _ _ (by omega)).mono ?_;rintro e w' ⟨ao',c',rfl,az,aN⟩;have hc2:w'.cell? ⟨b,off,none⟩=some (I n):=(by first|exact aN.cell hc|exact aN.cell (by assumption))))
 all_goals
  go_wp2
  go_ret3
  exact aP.mk (Keeps.drewN w _) (by assumption) (by assumption) az aN (by simp) (by simp)
theorem zp (tag:Int) (ao:Option Addr) (c:Nat) (n:Int) (w:World) (ht:tag=11) (hx:ar w ao (Is [n])) (hn:1<=n) (hn2:n<=64):
  Calls Tryz.prog 134 #[.int .u8 tag,.slice ao ([n]:List Int).length c] w (aP w (0,[n],[])):=by
 have hg:bB 11 [n]=true:=by simp[bB,l7,hn,hn2]
 subst ht;obtain⟨b,off,rfl,hc⟩:=fK hx (i:=0) (by simp);simp only[Nat.add_zero,List.getElem_cons_zero] at hc;go_enter Tryz.func134,Tryz.ntmps134;go_wp2_with (first|(go_at_call 152;refine(eg _ _ _ [n] _ (by omega) (by omega) hx (by first|omega|simp)).mono ?_;rw[hg];rintro e w' ⟨rfl,nq,rfl⟩)|(go_at_call 153;refine(dh _ _ _ (by omega)).mono ?_;rintro e w' ⟨ao',c',rfl,az,aN⟩;have hc2:w'.cell? ⟨b,off,none⟩=some (I n):=(by first|exact aN.cell hc|exact aN.cell (by assumption))));all_goals
  go_ret3
  exact aP.fst (Keeps.drewN w _) az aN (by simp)
theorem AB (tag:Int) (ao:Option Addr) (c:Nat) (w:World) (ht:tag=7) (hx:ar w ao (Is [])):
  Calls Tryz.prog 134 #[.int .u8 tag,.slice ao ([]:List Int).length c] w (aP w (0,[1,1],[1])):=by
 have hg:bB 7 []=true:=by rfl
 subst ht;go_enter Tryz.func134,Tryz.ntmps134;go_wp2_with (first|(go_at_call 152;refine(eg _ _ _ [] _ (by omega) (by omega) hx (by first|omega|simp)).mono ?_;rw[hg];rintro e w' ⟨rfl,nq,rfl⟩)|(go_at_call 153;refine(dh _ _ _ (by omega)).mono ?_;rintro e w' ⟨ao',c',rfl,az,aN⟩));all_goals
  go_ret3
  exact aP.mk (Keeps.drewN w _) (by assumption) (by assumption) az aN (by simp) (by simp)
theorem AC (tag:Int) (ao:Option Addr) (c:Nat) (w:World) (ht:tag=8) (hx:ar w ao (Is [])):
  Calls Tryz.prog 134 #[.int .u8 tag,.slice ao ([]:List Int).length c] w (aP w (0,[1],[1])):=by
 have hg:bB 8 []=true:=by rfl
 subst ht;go_enter Tryz.func134,Tryz.ntmps134;go_wp2_with (first|(go_at_call 152;refine(eg _ _ _ [] _ (by omega) (by omega) hx (by first|omega|simp)).mono ?_;rw[hg];rintro e w' ⟨rfl,nq,rfl⟩)|(go_at_call 153;refine(dh _ _ _ (by omega)).mono ?_;rintro e w' ⟨ao',c',rfl,az,aN⟩));all_goals
  go_ret3
  exact aP.mk (Keeps.drewN w _) (by assumption) (by assumption) az aN (by simp) (by simp)
theorem Av (tag:Int) (ao:Option Addr) (c:Nat) (ps:List Int) (w:World) (ht:tag=1) (hx:ar w ao (Is ps)) (hl1:1<=ps.length) (hl2:ps.length<=16):
  Calls Tryz.prog 134 #[.int .u8 tag,.slice ao (ps:List Int).length c] w (aP w (0,[1],[1])):=by
 have hg:bB 1 ps=true:=by simp[bB,hl1,hl2]
 subst ht;go_enter Tryz.func134,Tryz.ntmps134;go_wp2_with (first|(go_at_call 152;refine(eg _ _ _ ps _ (by omega) (by omega) hx (by first|omega|simp)).mono ?_;rw[hg];rintro e w' ⟨rfl,nq,rfl⟩)|(go_at_call 153;refine(dh _ _ _ (by omega)).mono ?_;rintro e w' ⟨ao',c',rfl,az,aN⟩));all_goals
  go_ret3
  exact aP.mk (Keeps.drewN w _) (by assumption) (by assumption) az aN (by simp) (by simp)
theorem zo (tag:Int) (ao:Option Addr) (c:Nat) (ps:List Int) (w:World) (ht:tag=10) (hx:ar w ao (Is ps)) (hl1:2<=ps.length) (hl2:ps.length<=2):
  Calls Tryz.prog 134 #[.int .u8 tag,.slice ao (ps:List Int).length c] w (aP w (0,[],[1])):=by
 have hg:bB 10 ps=true:=by simp[bB];omega
 subst ht;go_enter Tryz.func134,Tryz.ntmps134;go_wp2_with (first|(go_at_call 152;refine(eg _ _ _ ps _ (by omega) (by omega) hx (by first|omega|simp)).mono ?_;rw[hg];rintro e w' ⟨rfl,nq,rfl⟩)|(go_at_call 153;refine(dh _ _ _ (by omega)).mono ?_;rintro e w' ⟨ao',c',rfl,az,aN⟩));all_goals
  go_ret3
  exact aP.snd (Keeps.drewN w _) az aN (by simp)
end Go.Proofs.YtnedmonlofbahaaGreatDoor
namespace Go.Proofs.YtnedmonlofbahaaGreatDoor
open Go
set_option linter.all false
structure GAct where
 name:ByteArray
 tag:Int
 a:Option Addr
 c:Nat
 xs:List Int
structure GEdge where
 f:Int
 fp:Int
 t:Int
 tp:Int
 a:Option Addr
 c:Nat
 xs:List Int
structure GPort where
 name:ByteArray
 ac:Int
 po:Int
structure Gr where
 name:ByteArray
 aa:Option Addr
 ac:Nat
 acts:List GAct
 ea:Option Addr
 ec:Nat
 edges:List GEdge
 ia:Option Addr
 ic:Nat
 ins:List GPort
 oa:Option Addr
 oc:Nat
 outs:List GPort
def bg (b:Int):Bool:=decide (97<=b∧b<=122)
def bw (b:Int):Bool:=decide (48<=b∧b<=57)
def be (b:Int):Bool:=bg b||bw b||decide (b=95)
def aB (s:ByteArray):List Int:=s.data.toList.map fun b=>(b.toNat:Int)
theorem cL (s:ByteArray):(aB s).length=s.size:=by unfold aB;rw[List.length_map,Array.length_toList];rfl
def uT (l:List Int):Bool:=match l with
 |[]=>false
 |b::r=>bg b&&(r.all be&&decide (r.length<=15))
def aQ (s:ByteArray):Bool:=uT (aB s)
def nIn (x:GAct):Nat:=(bs x.tag x.xs).2.1.length
def cr (x:GAct):Nat:=(bs x.tag x.xs).2.2.length
def aZ (g:Gr) (e o:Nat) (a p:Int):Bool:=(g.edges.take e).any (fun x=>decide (x.f=a∧x.fp=p))||(g.outs.take o).any (fun x=>decide (x.ac=a∧x.po=p))
def bZ (g:Gr) (e i:Nat) (a p:Int):Bool:=(g.edges.take e).any (fun x=>decide (x.t=a∧x.tp=p))||(g.ins.take i).any (fun x=>decide (x.ac=a∧x.po=p))
def dp (g:Gr) (n:GAct->Nat) (tk:Bool) (a p:Int):Int:=
 if h:0<=a∧a<g.acts.length then(if 0<=p∧p<n (g.acts[a.toNat]'(by omega)) then(if tk then 86 else 0) else 85) else 84
def aw (g:Gr) (a i o:Nat):List ByteArray:=(g.acts.take a).map (·.name)++((g.ins.take i).map (·.name)++(g.outs.take o).map (·.name))
def cP (l:List ByteArray) (s:ByteArray):Int:=if aQ s=false then 82 else if l.any (fun t=>decide (aB t=aB s)) then 83 else 0
def fo (g:Gr) (i:Nat) (x:GAct):Int×Int:=if cP (aw g i 0 0) x.name≠0 then(cP (aw g i 0 0) x.name,0) else((bs x.tag x.xs).1,0)
def dd (g:Gr) (i:Nat) (x:GEdge):Int×Int:=
 if dp g cr (aZ g i 0 x.f x.fp) x.f x.fp≠0 then(dp g cr (aZ g i 0 x.f x.fp) x.f x.fp,1)
 else if dp g nIn (bZ g i 0 x.t x.tp) x.t x.tp≠0 then(dp g nIn (bZ g i 0 x.t x.tp) x.t x.tp,2)
 else if 256<x.xs.length then(88,0) else(0,0)
def inE (g:Gr) (i:Nat) (x:GPort):Int×Int:=
 if cP (aw g g.acts.length i 0) x.name≠0 then(cP (aw g g.acts.length i 0) x.name,0) else(dp g nIn (bZ g g.edges.length i x.ac x.po) x.ac x.po,2)
def fu (g:Gr) (i:Nat) (x:GPort):Int×Int:=
 if cP (aw g g.acts.length g.ins.length i) x.name≠0 then(cP (aw g g.acts.length g.ins.length i) x.name,0) else(dp g cr (aZ g g.edges.length i x.ac x.po) x.ac x.po,1)
def e8 (g:Gr) (i:Nat) (x:GAct):Bool:=
 (List.range (nIn x)).any (fun k=> !bZ g g.edges.length g.ins.length i k)||(List.range (cr x)).any (fun k=> !aZ g g.edges.length g.outs.length i k)
def aD {α:Type} (E:Nat->α->Int×Int):Nat->List α->Option (Nat×Int×Int)
 |_,[]=>none
 |i,x::r=>if(E i x).1≠0 then some (i,E i x) else aD E (i+1) r
theorem oq {α:Type} {E:Nat->α->Int×Int} :∀(l:List α) (i k:Nat) (hk:k<l.length),(∀j (hj:j<l.length),j<k->(E (i+j) l[j]).1=0)->(E (i+k) l[k]).1≠0->aD E i l=some (i+k,E (i+k) l[k]):=by
 intro l;induction l with
 |nil=>intro i k hk;simp at hk
 |cons x r ih=>
  intro i k hk hb hh;unfold aD;cases k with
  |zero=>
   have hh':(E i x).1≠0:=hh;rw[if_pos hh'];rfl
  |succ k=>
   have h0:=hb 0 (by simp) (by omega);simp only[Nat.add_zero,List.getElem_cons_zero] at h0;rw[if_neg (fun h=>h h0)];have h1:=ih (i+1) k (by simpa using hk) (fun j hj hjk=>by
    have:=hb (j+1) (by simpa using hj) (by omega);rw[show i+1+j=i+(j+1) by omega];simpa using this) (by rw[show i+1+k=i+(k+1) by omega];simpa using hh)
   rw[h1,show i+1+k=i+(k+1) by omega];rfl
theorem eI {α:Type} {E:Nat->α->Int×Int} :∀(l:List α) (i:Nat),(∀j (hj:j<l.length),(E (i+j) l[j]).1=0)->aD E i l=none:=by
 intro l;induction l with
 |nil=>intro i _;rfl
 |cons x r ih=>
  intro i h;unfold aD;have h0:=h 0 (by simp);simp only[Nat.add_zero,List.getElem_cons_zero] at h0;rw[if_neg (fun h=>h h0)];exact ih (i+1) (fun j hj=>by
   have:=h (j+1) (by simpa using hj);rw[show i+1+j=i+(j+1) by omega];simpa using this)
def bz (g:Gr):Int×Int×Int×Int:=
 if aQ g.name=false then(82,0,0,0)
 else if g.acts.length=0 then(80,0,0,0)
 else if 32<g.acts.length then(81,1,32,0)
 else if 96<g.edges.length then(81,2,96,0)
 else if 16<g.ins.length then(81,3,16,0)
 else if 16<g.outs.length then(81,4,16,0)
 else match aD (fo g) 0 g.acts with
  |some (i,e,_)=>(e,1,i,0)
  |none=>match aD (dd g) 0 g.edges with
   |some (i,e,d)=>(e,2,i,d)
   |none=>match aD (inE g) 0 g.ins with
    |some (i,e,d)=>(e,3,i,d)
    |none=>match aD (fu g) 0 g.outs with
     |some (i,e,d)=>(e,4,i,d)
     |none=>match aD (fun i x=>(if e8 g i x then 87 else 0,0)) 0 g.acts with
      |some (i,e,_)=>(e,1,i,0)
      |none=>(0,0,0,0)
end Go.Proofs.YtnedmonlofbahaaGreatDoor
namespace Go.Proofs.YtnedmonlofbahaaGreatDoor
open Go Go.RowKit
set_option linter.all false
structure Tab (w:World) (et ei B L m:Nat) (A:Nat->Option Addr) (N C:Nat->Nat) (X:Nat->List Value):Prop where
 tab:w.ownsRow B et 1 (.slice (some ⟨L,0,none⟩) m m) m ((List.range m).map fun j=> .slice (A j) (N j) (C j))
 row:∀j,j<m->w.ownsRow B ei 1 (.slice (A j) (N j) (C j)) (N j) (X j)
 dis:∀i j,i<m->j<m->i≠j->∀k,blk (A i) k->¬blk (A j) k
 off:∀j,j<m->∀k,blk (A j) k->k≠L
def mO (L m:Nat) (A:Nat->Option Addr) (k:Nat):Prop:=k=L∨∃j,j<m∧blk (A j) k
theorem aM {a:Option Addr} {n c x:Nat} (h:(Value.slice a n c).ownBlock=some x):blk a x:=by
 cases a with
 |none=>simp[Value.ownBlock] at h
 |some a=>simp[Value.ownBlock] at h;exact⟨a,rfl,h⟩
theorem ai {w:World} {B e size n c:Nat} {a:Option Addr} {xs:List Value} (h:w.ownsRow B e size (.slice a n c) n xs) {k:Nat} (hk:blk a k):B<=k∧k<w.heap.size:=by
 obtain⟨x,rfl,rfl⟩:=hk;exact World.ownsRow.lt h x.block rfl
theorem Tab.keeps {S:Nat->Prop} {w w':World} {et ei B L m:Nat} {A:Nat->Option Addr} {N C:Nat->Nat} {X:Nat->List Value} (h:Tab w et ei B L m A N C X) (k:Keeps S w w') (hS:∀x,mO L m A x->¬S x):Tab w' et ei B L m A N C X:=
 ⟨k.owns h.tab (fun x hx=>hS x (by simp[Value.ownBlock] at hx;exact .inl hx.symm)),fun j hj=>k.owns (h.row j hj) (fun x hx=>hS x (.inr ⟨j,hj,aM hx⟩)),h.dis,h.off⟩
theorem Tab.lt {w:World} {et ei B L m:Nat} {A:Nat->Option Addr} {N C:Nat->Nat} {X:Nat->List Value} (h:Tab w et ei B L m A N C X) {k:Nat} (hk:mO L m A k):B<=k∧k<w.heap.size:=by
 rcases hk with rfl|⟨j,hj,hb⟩
 ·exact World.ownsRow.lt h.tab _ rfl
 ·exact ai (h.row j hj) hb
theorem Tab.made {w:World} {et ei B L m:Nat} (h:w.ownsRow B et 1 (.slice (some ⟨L,0,none⟩) m m) m (List.replicate m (.slice none 0 0))):Tab w et ei B L m (fun _=>none) (fun _=>0) (fun _=>0) (fun _=>[]):=by
 refine⟨?_,fun j _=>World.ownsRow_nil _ _ _ _,fun i j _ _ _ k hk=>?_,fun j _ k hk=>?_⟩
 ·have e:((List.range m).map fun _=>Value.slice none 0 0)=List.replicate m (.slice none 0 0):=by
   apply List.ext_getElem?;intro j;by_cases hj:j<m<;>simp[hj]
  rw[e];exact h
 ·obtain⟨a,ha,_⟩:=hk;cases ha
 ·obtain⟨a,ha,_⟩:=hk;cases ha
theorem Tab.cell {w:World} {et ei B L m:Nat} {A:Nat->Option Addr} {N C:Nat->Nat} {X:Nat->List Value} (h:Tab w et ei B L m A N C X) {i:Nat} (hi:i<m):
  w.cell? ⟨L,i,none⟩=some (.slice (A i) (N i) (C i))∧w.frozen? ⟨L,i,none⟩=false:=by
 refine⟨?_,h.tab.frozenAt i⟩;rw[h.tab.cellAt i (by omega)];simp[hi]
theorem Tab.app {w w1:World} {et ei B L m:Nat} {A:Nat->Option Addr} {N C:Nat->Nat} {X:Nat->List Value} (h:Tab w et ei B L m A N C X) {i:Nat} (hi:i<m) (o:Obj) (a2:Option Addr) (n2 c2:Nat) (Y:List Value)
  (aK:w1.ownsRow B ei 1 (.slice a2 n2 c2) n2 Y) (hk:Keeps (blk (A i)) (w.alloc o) w1) (hm:dS (w.alloc o) (A i) a2):
  ((∃v,w1.cell? ⟨L,i,none⟩=some v)∧w1.frozen? ⟨L,i,none⟩=false)∧
  Tab (w1.setCell ⟨L,i,none⟩ (.slice a2 n2 c2)) et ei B L m (fun j=>if j=i then a2 else A j) (fun j=>if j=i then n2 else N j) (fun j=>if j=i then c2 else C j) (fun j=>if j=i then Y else X j)∧
  Keeps (mO L m A) w (w1.setCell ⟨L,i,none⟩ (.slice a2 n2 c2))∧
  (∀k,mO L m (fun j=>if j=i then a2 else A j) k->mO L m A k∨w.heap.size<=k):=by
 have hk0:Keeps (blk (A i)) w w1:=(Keeps.alloc (S:=blk (A i)) w o).trans hk (fun _ _ h=>h);have hL:=hk0.owns h.tab (fun x hx hb=>by simp[Value.ownBlock] at hx;subst hx;exact h.off i hi _ hb rfl);have Cy:=(h.lt (k:=L) (.inl rfl)).2;have mX:∀k,blk a2 k->blk (A i) k∨w.heap.size+1<=k:=by
  intro k hk;rcases hm with rfl|⟨g,rfl,hg⟩
  ·exact .inl hk
  ·obtain⟨a,ha,rfl⟩:=hk;simp only[Option.some.injEq] at ha;subst ha;simp at hg;exact .inr hg
 have hks:Keeps (fun x=>x=L) w1 (w1.setCell ⟨L,i,none⟩ (.slice a2 n2 c2)):=Keeps.setCell w1 ⟨L,i,none⟩ _ rfl;have gM:∃v,w1.cell? ⟨L,i,none⟩=some v:=by
  rw[hL.cellAt i (by omega)];exact⟨_,List.getElem?_eq_getElem (by simpa using hi)⟩
 refine⟨⟨gM,hL.frozenAt i⟩,⟨?_,?_,?_,?_⟩,?_,?_⟩
 ·have h1:=(hL.stored i (.slice a2 n2 c2)).1;have e2:((List.range m).map fun j=>Value.slice (A j) (N j) (C j)).set i (.slice a2 n2 c2)=(List.range m).map fun j=>Value.slice (if j=i then a2 else A j) (if j=i then n2 else N j) (if j=i then c2 else C j):=by
   apply List.ext_getElem?;intro j;rw[List.getElem?_set];by_cases e:i=j
   ·subst e;simp[hi]
   ·rw[if_neg e];by_cases hj:j<m
    ·have e':¬j=i:=fun h=>e h.symm
     simp[hj,e']
    ·simp[hj]
  rw[<-e2];exact h1
 ·intro j hj;by_cases e:j=i
  ·subst e;simp only[if_true];refine hks.owns aK (fun x hx hxL=>?_);subst hxL;rcases mX x (aM hx) with h1|h1
   ·exact h.off j hj x h1 rfl
   ·omega
  ·simp only[if_neg e];have h1:=hk0.owns (h.row j hj) (fun x hx hb=>h.dis j i hj hi e x (aM hx) hb);exact hks.owns h1 (fun x hx hxL=>by subst hxL;exact h.off j hj x (aM hx) rfl)
 ·have key:∀p,p<m->∀k,blk (if p=i then a2 else A p) k->blk (A p) k∨(p=i∧w.heap.size+1<=k):=by
   intro p hp k hk;by_cases e:p=i
   ·subst e;rw[if_pos rfl] at hk;rcases mX k hk with h1|h1
    ·exact .inl h1
    ·exact .inr ⟨rfl,h1⟩
   ·rw[if_neg e] at hk;exact .inl hk
  intro p q hp hq hpq k hkp hkq;rcases key p hp k hkp with h1|⟨e1,h1⟩
  ·rcases key q hq k hkq with h2|⟨e2,h2⟩
   ·exact h.dis p q hp hq hpq k h1 h2
   ·have:=(ai (h.row p hp) h1).2;omega
  ·rcases key q hq k hkq with h2|⟨e2,h2⟩
   ·have:=(ai (h.row q hq) h2).2;omega
   ·exact hpq (e1.trans e2.symm)
 ·intro j hj k hk;by_cases e:j=i
  ·subst e;simp only[if_true] at hk;rcases mX k hk with h1|h1
   ·exact h.off j hj k h1
   ·omega
  ·simp only[if_neg e] at hk;exact h.off j hj k hk
 ·refine Keeps.trans (S:=mO L m A) (hk0.mono (fun k _ hb=> .inr ⟨i,hi,hb⟩)) hks (fun k _ e=> .inl e)
 ·intro k hk;rcases hk with rfl|⟨j,hj,hb⟩
  ·exact .inl (.inl rfl)
  ·by_cases e:j=i
   ·subst e;simp only[if_true] at hb;rcases mX k hb with h1|h1
    ·exact .inl (.inr ⟨j,hj,h1⟩)
    ·exact .inr (by omega)
   ·simp only[if_neg e] at hb;exact .inl (.inr ⟨j,hj,hb⟩)
end Go.Proofs.YtnedmonlofbahaaGreatDoor
namespace Go.Proofs.YtnedmonlofbahaaGreatDoor
open Go Go.RowKit Go.ChangeShapes Go.WideShapes Go.Deep Go.Joins
set_option linter.all false
theorem rF {α:Type} (f:α->List Value) (k:Nat) (hk:∀x,(f x).length=k) (l:List α):(l.flatMap f).length=l.length*k:=by
 induction l with
 |nil=>simp
 |cons x r ih=>rw[List.flatMap_cons,List.length_append,ih,hk,List.length_cons,Nat.succ_mul];omega
theorem uF {α:Type} (f:α->List Value) (k:Nat) (hk:∀x,(f x).length=k) (l:List α):∀(i j:Nat) (hi:i<l.length),j<k->(l.flatMap f)[i*k+j]? =(f l[i])[j]? :=by
 induction l with
 |nil=>intro i j hi;simp at hi
 |cons x r ih=>
  intro i j hi hj;rw[List.flatMap_cons];cases i with
  |zero=>rw[List.getElem?_append_left (by rw[hk];omega)];simp
  |succ i=>
   rw[List.getElem?_append_right (by rw[hk,Nat.succ_mul];omega)];have e:(i+1)*k+j-(f x).length=i*k+j:=by rw[hk,Nat.succ_mul];omega
   rw[e,ih i j (by simpa using hi) hj];simp
end Go.Proofs.YtnedmonlofbahaaGreatDoor
namespace Go.Proofs.YtnedmonlofbahaaGreatDoor
open Go Go.RowKit Go.Joins
set_option linter.all false
theorem iV (s:ByteArray) (k:Nat) (hk:k<s.size):(aB s)[k]? =some (s[k].toNat:Int):=by
 have hk':k<(aB s).length:=by rw[cL];exact hk
 rw[List.getElem?_eq_getElem hk'];simp[aB];rfl
set_option maxRecDepth 512 in
theorem dc (w:World) (b:Int):Calls Tryz.prog 110 #[.int .u8 b] w fun e w'=>e= .returned (.bool (bg b))∧w'=w:=by
 by_cases h1:97<=b
 ·by_cases h2:b<=122
  ·have e:bg b=true:=by unfold bg;simp[h1,h2]
   rw[e];go_enter Tryz.func110,Tryz.ntmps110;go_wp2_with fail;go_ret
   exact⟨rfl,rfl⟩
  ·have e:bg b=false:=by unfold bg;simp[h2]
   rw[e];go_enter Tryz.func110,Tryz.ntmps110;go_wp2_with fail;go_ret
   exact⟨rfl,rfl⟩
 ·have e:bg b=false:=by unfold bg;simp[h1]
  rw[e];go_enter Tryz.func110,Tryz.ntmps110;go_wp2_with fail;go_ret
  exact⟨rfl,rfl⟩
set_option maxRecDepth 512 in
theorem db (w:World) (b:Int):Calls Tryz.prog 129 #[.int .u8 b] w fun e w'=>e= .returned (.bool (bw b))∧w'=w:=by
 by_cases h1:48<=b
 ·by_cases h2:b<=57
  ·have e:bw b=true:=by unfold bw;simp[h1,h2]
   rw[e];go_enter Tryz.func129,Tryz.ntmps129;go_wp2_with fail;go_ret
   exact⟨rfl,rfl⟩
  ·have e:bw b=false:=by unfold bw;simp[h2]
   rw[e];go_enter Tryz.func129,Tryz.ntmps129;go_wp2_with fail;go_ret
   exact⟨rfl,rfl⟩
 ·have e:bw b=false:=by unfold bw;simp[h1]
  rw[e];go_enter Tryz.func129,Tryz.ntmps129;go_wp2_with fail;go_ret
  exact⟨rfl,rfl⟩
set_option maxRecDepth 512 in
theorem dw (w:World) (b:Int):Calls Tryz.prog 119 #[.int .u8 b] w fun e w'=>e= .returned (.bool (bg b))∧w'=w:=by
 by_cases h1:97<=b
 ·by_cases h2:b<=122
  ·have e:bg b=true:=by unfold bg;simp[h1,h2]
   rw[e];go_enter Tryz.func119,Tryz.ntmps119;go_wp2_with fail;go_ret
   exact⟨rfl,rfl⟩
  ·have e:bg b=false:=by unfold bg;simp[h2]
   rw[e];go_enter Tryz.func119,Tryz.ntmps119;go_wp2_with fail;go_ret
   exact⟨rfl,rfl⟩
 ·have e:bg b=false:=by unfold bg;simp[h1]
  rw[e];go_enter Tryz.func119,Tryz.ntmps119;go_wp2_with fail;go_ret
  exact⟨rfl,rfl⟩
set_option maxRecDepth 512 in
theorem dN (w:World) (b:Int):Calls Tryz.prog 131 #[.int .u8 b] w fun e w'=>e= .returned (.bool (bw b))∧w'=w:=by
 by_cases h1:48<=b
 ·by_cases h2:b<=57
  ·have e:bw b=true:=by unfold bw;simp[h1,h2]
   rw[e];go_enter Tryz.func131,Tryz.ntmps131;go_wp2_with fail;go_ret
   exact⟨rfl,rfl⟩
  ·have e:bw b=false:=by unfold bw;simp[h2]
   rw[e];go_enter Tryz.func131,Tryz.ntmps131;go_wp2_with fail;go_ret
   exact⟨rfl,rfl⟩
 ·have e:bw b=false:=by unfold bw;simp[h1]
  rw[e];go_enter Tryz.func131,Tryz.ntmps131;go_wp2_with fail;go_ret
  exact⟨rfl,rfl⟩
set_option maxRecDepth 512 in
theorem rq (w:World) (b:Int):Calls Tryz.prog 113 #[.int .u8 b] w fun e w'=>e= .returned (.bool (be b))∧w'=w:=by
 have hl:=dc w b;have hd:=db w b;cases e1:bg b with
 |true=>
  rw[e1] at hl;have e:be b=true:=by unfold be;rw[e1];rfl
  rw[e];clear hd e1 e;go_enter Tryz.func113,Tryz.ntmps113;go_wp2_with fail;refine hl.mono ?_;rintro e w' ⟨rfl,rfl⟩;go_wp2_with fail;go_ret
  exact⟨rfl,rfl⟩
 |false=>
  rw[e1] at hl;cases e2:bw b with
  |true=>
   rw[e2] at hd;have e:be b=true:=by unfold be;rw[e1,e2];rfl
   rw[e];clear e1 e2 e;go_enter Tryz.func113,Tryz.ntmps113;go_wp2_with fail;refine hl.mono ?_;rintro e w' ⟨rfl,rfl⟩;go_wp2_with fail;refine hd.mono ?_;rintro e w'' ⟨rfl,rfl⟩;go_wp2_with fail;go_ret
   exact⟨rfl,rfl⟩
  |false=>
   rw[e2] at hd;have e:be b=(b==95):=by unfold be;rw[e1,e2];simp;rfl
   rw[e];clear e1 e2 e;go_enter Tryz.func113,Tryz.ntmps113;go_wp2_with fail;refine hl.mono ?_;rintro e w' ⟨rfl,rfl⟩;go_wp2_with fail;refine hd.mono ?_;rintro e w'' ⟨rfl,rfl⟩;go_wp2_with fail;go_ret
   exact⟨rfl,rfl⟩
set_option maxRecDepth 512 in
theorem dO (w:World) (b:Int):Calls Tryz.prog 120 #[.int .u8 b] w fun e w'=>e= .returned (.bool (be b))∧w'=w:=by
 have hl:=dw w b;have hd:=dN w b;cases e1:bg b with
 |true=>
  rw[e1] at hl;have e:be b=true:=by unfold be;rw[e1];rfl
  rw[e];clear hd e1 e;go_enter Tryz.func120,Tryz.ntmps120;go_wp2_with fail;refine hl.mono ?_;rintro e w' ⟨rfl,rfl⟩;go_wp2_with fail;go_ret
  exact⟨rfl,rfl⟩
 |false=>
  rw[e1] at hl;cases e2:bw b with
  |true=>
   rw[e2] at hd;have e:be b=true:=by unfold be;rw[e1,e2];rfl
   rw[e];clear e1 e2 e;go_enter Tryz.func120,Tryz.ntmps120;go_wp2_with fail;refine hl.mono ?_;rintro e w' ⟨rfl,rfl⟩;go_wp2_with fail;refine hd.mono ?_;rintro e w'' ⟨rfl,rfl⟩;go_wp2_with fail;go_ret
   exact⟨rfl,rfl⟩
  |false=>
   rw[e2] at hd;have e:be b=(b==95):=by unfold be;rw[e1,e2];simp;rfl
   rw[e];clear e1 e2 e;go_enter Tryz.func120,Tryz.ntmps120;go_wp2_with fail;refine hl.mono ?_;rintro e w' ⟨rfl,rfl⟩;go_wp2_with fail;refine hd.mono ?_;rintro e w'' ⟨rfl,rfl⟩;go_wp2_with fail;go_ret
   exact⟨rfl,rfl⟩
theorem oH (s:ByteArray) (h:0<s.size):aQ s=(bg (s[0].toNat:Int)&&((aB s).all be&&decide (s.size<=16))):=by
 have h0:=iV s 0 h;have hl:=cL s;unfold aQ;cases hb:aB s with
 |nil=>rw[hb] at h0;simp at h0
 |cons b r=>
  rw[hb] at h0 hl;simp only[List.getElem?_cons_zero,Option.some.injEq] at h0;subst h0;simp only[uT,List.all_cons];simp only[List.length_cons] at hl;cases e:bg (s[0].toNat:Int) with
  |false=>rfl
  |true=>
   have e2:be (s[0].toNat:Int)=true:=by unfold be;rw[e];rfl
   rw[e2];have e3:decide (r.length<=15)=decide (s.size<=16):=by
    by_cases hx:s.size<=16
    ·rw[decide_eq_true hx,decide_eq_true (by omega)]
    ·rw[decide_eq_false hx,decide_eq_false (by omega)]
   rw[e3];simp
theorem pP (s:ByteArray) (h:s.size=0):aQ s=false:=by
 unfold aQ;have:aB s=[]:=List.eq_nil_of_length_eq_zero (by rw[cL];exact h);rw[this];rfl
theorem kI (w:World) (s:ByteArray) (hs:s.size<=9223372036854775807):Calls Tryz.prog 80 #[.string s] w fun e w'=>e= .returned (.bool (aQ s))∧New w w':=by
 by_cases h1:s.size<1
 ·rw[pP s (by omega)];have d1:decide (s.size<1)=true:=decide_eq_true h1;go_enter Tryz.func80,Tryz.ntmps80;go_wp2_with fail;go_ret
  exact⟨rfl,New.refl _⟩
 ·have h0:0<s.size:=by omega
  rw[oH s h0];by_cases h2:16<s.size
  ·have e:decide (s.size<=16)=false:=decide_eq_false (by omega);rw[e];simp only[Bool.and_false];clear e;go_enter Tryz.func80,Tryz.ntmps80;go_wp2_with fail;go_ret
   exact⟨rfl,New.refl _⟩
  ·have e:decide (s.size<=16)=true:=decide_eq_true (by omega);rw[e,Bool.and_true];clear e;have hl:=fun W=>dw W (s[0].toNat:Int)
   cases e1:bg (s[0].toNat:Int) with
   |false=>
    rw[e1] at hl;rw[Bool.false_and];clear e1;go_enter Tryz.func80,Tryz.ntmps80;go_wp2_with fail;refine(hl _).mono ?_;rintro e w' ⟨rfl,rfl⟩;go_wp2_with fail;go_ret
    exact⟨rfl,New.refl _⟩
   |true=>
    rw[e1] at hl;rw[Bool.true_and];obtain⟨A,hA⟩:∃A,(aB s).all be=A:=⟨_,rfl⟩
    rw[hA];have HAA:=Lib.hid hA;clear e1 hA;go_enter Tryz.func80,Tryz.ntmps80;go_wp2_with fail;refine(hl _).mono ?_;rintro e w' ⟨rfl,rfl⟩;go_wp2_with fail;go_loopw [3] (fun i wr=>∃k:Nat,k<=s.size∧i= .int .i64 k∧Hid (((aB s).take k).all be=true)∧wr=w') (fun i _=>s.size-(intOf i).toNat)
    case atStart=>exact⟨0,by omega,rfl,Lib.hid (by simp),rfl⟩
    case round=>
     obtain⟨k,hk,rfl,HA,rfl⟩:=hrel;by_cases hk1:k<s.size
     ·have hi:=dO wr (s[k].toNat:Int);have hat:=iV s k hk1;have htk:(aB s).take (k+1)=(aB s).take k++[(s[k].toNat:Int)]:=by rw[List.take_succ,hat];rfl
      have HT:=Lib.hid htk;have hkI:(k:Int)<(s.size:Int):=by omega
      have fC:s[k].toNat<256:=s[k].toNat_lt;clear hat htk;cases e2:be (s[k].toNat:Int) with
      |false=>
       rw[e2] at hi;have yh:(aB s).all be=false:=by
        rw[<-List.take_append_drop (k+1) (aB s),List.all_append,HT.out,List.all_append];simp[e2]
       have HF:Hid (A=false):=Lib.hid (by rw[<-HAA.out];exact yh);clear e2 yh;go_wp2_with fail;refine hi.mono ?_;rintro e w' ⟨rfl,rfl⟩;go_wp2_with fail;go_ret
       exact⟨by rw[HF.out];rfl,New.refl _⟩
      |true=>
       rw[e2] at hi;have HA2:Hid (((aB s).take (k+1)).all be=true):=Lib.hid (by rw[HT.out,List.all_append,HA.out];simp[e2]);clear e2;go_wp2_with fail;refine hi.mono ?_;rintro e w' ⟨rfl,rfl⟩;go_wp2_with fail;go_roundw
       case rel=>exact⟨k+1,by omega,by go_num,HA2,by first|rfl|trivial⟩
       case measure=>simp[intOf];omega
     ·have di:(aB s).all be=true:=by
       have:=HA.out
       rwa [List.take_of_length_le (by rw[cL];omega)] at this
      have HF:Hid (A=true):=Lib.hid (by rw[<-HAA.out];exact di);clear di;go_wp2_with fail;go_ret
      exact⟨by rw[HF.out];rfl,New.refl _⟩
end Go.Proofs.YtnedmonlofbahaaGreatDoor
namespace Go.Proofs.YtnedmonlofbahaaGreatDoor
open Go
set_option linter.all false
section
variable {P:Program} {ops:Array Oper} {Q:Exit->Act->World->Prop} {md:Region.Mode} {S:World->Prop} {X:Nat->Bool}
def dY (P:Program) (md:Region.Mode) (ops:Array Oper) (Q:Exit->Act->World->Prop) (S:World->Prop) (X:Nat->Bool):Nat->Array Bool->Act->World->Prop
 |0,jZ,a,w=>Region.ready md ops jZ=[]∧Q .normal a w
 |eJ+1,jZ,a,w=>(Region.ready md ops jZ=[]->Q .normal a w)∧
  ∀i∈Region.ready md ops jZ,wpOp P ops Q i (fun a' w'=>(X i=false->S w')∧dY P md ops Q S X eJ (jZ.setIfInBounds i true) a' w') a w
theorem rh:∀(eJ:Nat) (jZ:Array Bool) (a:Act) (w:World),dY P md ops Q S X eJ jZ a w->wpAny P md ops Q eJ jZ a w
 |0,_,_,_,h=>h
 |eJ+1,_,_,_,h=>⟨h.1,fun i hi=>wpOp_mono (fun a' w' h'=>rh eJ _ a' w' h'.2) (h.2 i hi)⟩
def jK (md:Region.Mode) (ops:Array Oper) (i:Nat):Nat->Nat->Bool
 |0,_=>false
 |f+1,j=>match ops[j]? with
  |none=>false
  |some o=>o.after.any fun e=>Region.binds md e&&(e.on==i||jK md ops i f e.on)
def Clo (md:Region.Mode) (ops:Array Oper) (l:Array Bool):Prop:=∀j o,ops[j]? =some o->l.getD j false=true->∀e∈o.after,Region.binds md e=true->l.getD e.on false=true
def Aa (md:Region.Mode) (ops:Array Oper) (l:Array Bool):Bool:=(List.range ops.size).all fun j=> !l.getD j false||((ops[j]?).map fun o=>o.after.all fun e=> !Region.binds md e||l.getD e.on false).getD true
theorem Be {l:Array Bool} (h:Aa md ops l=true):Clo md ops l:=by
 intro j o ho hj e he hb;have h1:=List.all_eq_true.1 h j (List.mem_range.2 (Array.getElem?_eq_some_iff.1 ho).1);rw[ho,hj] at h1;simp only[Bool.not_true,Bool.false_or,Option.map_some,Option.getD_some] at h1;have h2:=Array.all_eq_true_iff_forall_mem.1 h1 e he;simpa[hb] using h2
theorem vz {l:Array Bool} (hc:Clo md ops l) (i:Nat):∀(f j:Nat),jK md ops i f j=true->l.getD j false=true->l.getD i false=true:=by
 intro f;induction f with
 |zero=>intro j h;cases h
 |succ f ih=>
  intro j h hj;unfold jK at h;cases ho:ops[j]? with
  |none=>rw[ho] at h;cases h
  |some o=>
   rw[ho] at h;obtain⟨e,he,hb⟩:=Array.any_eq_true'.1 h;simp only[Bool.and_eq_true,Bool.or_eq_true,beq_iff_eq] at hb;have hl:=hc j o ho hj e he hb.1;rcases hb.2 with rfl|h2
   ·exact hl
   ·exact ih _ h2 hl
theorem sv {l:Array Bool} (hc:Clo md ops l) {i j f:Nat} (h:jK md ops i f j=true) (hj:j∈Region.ready md ops l):l.getD i false=true:=by
 obtain⟨_,o,ho,di⟩:=mem_ready.1 hj;cases f with
 |zero=>cases h
 |succ f=>
  unfold jK at h;rw[ho] at h;obtain⟨e,he,hb⟩:=Array.any_eq_true'.1 h;simp only[Bool.and_eq_true,Bool.or_eq_true,beq_iff_eq] at hb;have hl:=di e he hb.1;rcases hb.2 with rfl|h2
  ·exact hl
  ·exact vz hc i f _ h2 hl
theorem xI {l:Array Bool} (hc:Clo md ops l) {j:Nat} (hj:j∈Region.ready md ops l):Clo md ops (l.setIfInBounds j true):=by
 intro k o ho hk e he hb;by_cases hjk:j=k
 ·subst hjk;obtain⟨_,o',ho',di⟩:=mem_ready.1 hj;rw[ho] at ho';cases ho'
  exact getD_set_true (di e he hb)
 ·rw[getD_set_ne false hjk] at hk;exact getD_set_true (hc k o ho hk e he hb)
theorem sO {i:Nat} {oi:Oper} {v:Value} (hi:ops[i]? =some oi) (C0:∀(j:Nat) (o:Oper) cs b,ops[j]? =some o->o.op≠ .select cs b)
  (hQ:∀c a w,Q (.panic c) (a.put oi.dst v) w->Q (.panic c) a w) (hX:∀j,X j=true->j≠i->jK md ops i ops.size j=true):
  ∀(eJ:Nat) (l:Array Bool) (a:Act) (w:World),Clo md ops l->
   (∀j oj,ops[j]? =some oj->j≠i->l.getD j true=false->(∀e∈oj.after,Region.binds md e=true->e.on≠i)->oi.apart ops oj=true)->
   i∈Region.ready md ops l->YieldsIf P ops S oi v a->S w->dY P md ops Q S X eJ (l.setIfInBounds i true) (a.put oi.dst v) w->dY P md ops Q S X (eJ+1) l a w:=by
 intro eJ;induction eJ with
 |zero=>
  intro l a w _ _ hr hy hS H;refine⟨fun h=>(by rw[h] at hr;cases hr),fun j hj=>?_⟩;by_cases hji:j=i
  ·subst hji;exact hy.wpOp hi hS ⟨fun _=>hS,H⟩
  ·have:=ready_mono hj hji;rw[H.1] at this;cases this
 |succ eJ ih=>
  intro l a w hc AS hr hy hS H;have hin:i<ops.size:=(Array.getElem?_eq_some_iff.1 hi).1;have CM:¬l.getD i false=true:=by
   have h0:=(mem_ready.1 hr).1;intro h1;by_cases hl:i<l.size
   ·simp[Array.getD,hl] at h0 h1;rw[h0] at h1;cases h1
   ·simp[Array.getD,hl] at h1
  refine⟨fun h=>(by rw[h] at hr;cases hr),fun j hj=>?_⟩;by_cases hji:j=i
  ·subst hji;exact hy.wpOp hi hS ⟨fun _=>hS,H⟩
  ·have h1:=H.2 j (ready_mono hj hji);obtain⟨CN,oj,hoj,di⟩:=mem_ready.1 hj;have hXj:X j=false:=by
    cases hx:X j with
    |false=>rfl
    |true=>exact absurd (sv hc (hX j hx hji) hj) CM
   have DH:∀e∈oj.after,Region.binds md e=true->e.on≠i:=fun e he hb heq=>CM (by rw[<-heq];exact di e he hb)
   have h2:=wpOp_putIf hoj (AS j oj hoj hji CN DH) (fun cs b=>C0 i oi cs b hi) (fun cs b=>C0 j oj cs b hoj) hQ hy h1;have Bm:∀k ok,ops[k]? =some ok->k≠i->(l.setIfInBounds j true).getD k true=false->
     (∀e∈ok.after,Region.binds md e=true->e.on≠i)->oi.apart ops ok=true:=fun k ok hk hki hun hno=>by
    refine AS k ok hk hki ?_ hno;by_cases hjk:j=k
    ·subst hjk;exact CN
    ·rw[getD_set_ne true hjk] at hun;exact hun
   refine wpOp_mono (fun a' w' h3=>⟨fun _=>h3.2.1 hXj,ih (l.setIfInBounds j true) a' w' (xI hc hj) Bm (ready_mono hr (Ne.symm hji)) h3.1 (h3.2.1 hXj) ?_⟩) h2;rw[Array.setIfInBounds_comm _ _ hji];exact h3.2.2
theorem aS (i:Nat) {xs:List Nat} {eJ:Nat} {l:Array Bool} {a:Act} {w:World} (hs:Region.noSelect ops=true) (hf:Region.free md ops l i=true) (hr:(Region.ready md ops l).contains i=true)
  (hc:Aa md ops l=true) (hX:(xs.all fun j=>j==i||jK md ops i ops.size j)=true) (hS:S w)
  (h:∀oi,ops[i]? =some oi->∃v,(∀c a w,Q (.panic c) (a.put oi.dst v) w->Q (.panic c) a w)∧YieldsIf P ops S oi v a∧dY P md ops Q S (fun j=>xs.contains j) eJ (l.setIfInBounds i true) (a.put oi.dst v) w):dY P md ops Q S (fun j=>xs.contains j) (eJ+1) l a w:=by
 have hr':i∈Region.ready md ops l:=by simpa using hr
 obtain⟨_,oi,hi,_⟩:=mem_ready.1 hr';obtain⟨v,hQ,hy,hn⟩:=h oi hi;refine sO hi (Region.noSelect_spec hs) hQ (fun j hj hji=>?_) eJ l a w (Be hc) (Region.free_spec hi hf) hr' hy hS hn;have h1:=List.all_eq_true.1 hX j (by simpa using hj);simpa[hji] using h1
theorem nV (i:Nat) {eJ:Nat} {l:Array Bool} {a:Act} {w:World} (hr:Region.ready md ops l=[i])
  (h:∀oi,ops[i]? =some oi->∀K:Act->World->Prop,(∀a' w',(X i=false->S w')->dY P md ops Q S X eJ (l.setIfInBounds i true) a' w'->K a' w')->if Region.wanted oi (yielded ops a.tmps)=true then Oper.wp P oi a w K Q else K (a.put oi.dst undef) w):
  dY P md ops Q S X (eJ+1) l a w:=by
 refine⟨fun h0=>(by rw[h0] at hr;cases hr),fun j hj=>?_⟩;obtain⟨_,o,ho,_⟩:=mem_ready.1 hj;rw[hr] at hj;obtain rfl:=List.mem_singleton.1 hj;exact wpOp_step ho (fun K' hK=>h o ho K' (fun a' w' h1 h2=>hK _ _ ⟨h1,h2⟩))
theorem av {eJ:Nat} {l:Array Bool} {a:Act} {w:World} (hr:Region.ready md ops l=[]) (h:Q .normal a w):dY P md ops Q S X eJ l a w:=by
 cases eJ with
 |zero=>exact⟨hr,h⟩
 |succ f=>exact⟨fun _=>h,by rw[hr];simp⟩
theorem aj {id:Nat} {a:Act} {w:World} (S:World->Prop) (xs:List Nat) (hm:P.follows .mixedOrders=true) (hS:S w.drew)
  (h:dY P .any ops Q S (fun j=>xs.contains j) ops.size (Array.replicate ops.size false) a w.drew):(Code.region id ops true).wp P Q a w:=
 wp_region_any hm (rh _ _ _ _ h)
end
section
variable {P:Program} {ops:Array Oper} {Q:Exit->Act->World->Prop} {md:Region.Mode} {S:World->Prop}
set_option maxRecDepth 512 in
theorem ae (i:Nat) {xs:List Nat} {eJ:Nat} {l:Array Bool} {a a2:Act} {w:World} {v:Value} {d:Option Nat} (hS:S w)
  (h:dY P md ops Q S (fun j=>xs.contains j) eJ (l.setIfInBounds i true) a2 w)
  (hs:Region.noSelect ops=true:=by kernel_rfl) (hf:Region.free md ops l i=true:=by kernel_rfl) (hr:(Region.ready md ops l).contains i=true:=by kernel_rfl)
  (hc:Aa md ops l=true:=by kernel_rfl) (hX:(xs.all fun j=>j==i||jK md ops i ops.size j)=true:=by kernel_rfl)
  (hh:∀oi,ops[i]? =some oi->oi.dst=d∧(∀c a w,Q (.panic c) (a.put d v) w->Q (.panic c) a w)∧YieldsIf P ops S oi v a:=by
   intro oi ho;simp only[sLq] at ho;subst ho;refine⟨rfl,fun _ _ _ h=>h,Or.inl ⟨by rfl,?_⟩⟩;(intro wS hSw;(try dsimp only at hSw);go_simp;try with_reducible rfl))
  (ha:a.put d v=a2:=by(simp only[Act.put,sLs];first|done|rfl)):dY P md ops Q S (fun j=>xs.contains j) (eJ+1) l a w:=
 aS i hs hf hr hc hX hS fun oi hi=>by
  obtain⟨h1,h2,h3⟩:=hh oi hi;subst h1 ha;exact⟨v,h2,h3,h⟩
end
section
variable {P:Program} {ops:Array Oper} {Q:Exit->Act->World->Prop} {md:Region.Mode} {S:World->Prop} {X:Nat->Bool}
theorem cA (i:Nat) {xs:List Nat} {eJ:Nat} {l:Array Bool} {a a2:Act} {w:World} {d:Option Nat} (hS:S w)
  (h:dY P md ops Q S (fun j=>xs.contains j) eJ (l.setIfInBounds i true) a2 w)
  (hs:Region.noSelect ops=true:=by kernel_rfl) (hf:Region.free md ops l i=true:=by kernel_rfl) (hr:(Region.ready md ops l).contains i=true:=by kernel_rfl)
  (hc:Aa md ops l=true:=by kernel_rfl) (hX:(xs.all fun j=>j==i||jK md ops i ops.size j)=true:=by kernel_rfl)
  (hh:∀oi,ops[i]? =some oi->oi.dst=d∧(∀c a w,Q (.panic c) (a.put d undef) w->Q (.panic c) a w)∧YieldsIf P ops S oi undef a:=by
   intro oi ho;simp only[sLq] at ho;subst ho;exact⟨rfl,fun _ _ _ h=>h,Or.inr ⟨by kernel_rfl,rfl⟩⟩)
  (ha:a.put d undef=a2:=by(simp only[Act.put,sLs];first|done|rfl)):dY P md ops Q S (fun j=>xs.contains j) (eJ+1) l a w:=
 aS i hs hf hr hc hX hS fun oi hi=>by
  obtain⟨h1,h2,h3⟩:=hh oi hi;subst h1 ha;exact⟨undef,h2,h3,h⟩
theorem ag (i:Nat) {o:Oper} {eJ:Nat} {l:Array Bool} {a:Act} {w:World}
  (h:∀K:Act->World->Prop,(∀a' w',(X i=false->S w')->dY P md ops Q S X eJ (l.setIfInBounds i true) a' w'->K a' w')->if Region.wanted o (yielded ops a.tmps)=true then Oper.wp P o a w K Q else K (a.put o.dst undef) w)
  (hr:Region.ready md ops l=[i]:=by kernel_rfl) (ho:ops[i]? =some o:=by(simp only[List.getElem?_toArray,List.getElem?_cons_succ,List.getElem?_cons_zero];rfl)):dY P md ops Q S X (eJ+1) l a w:=
 nV i hr fun oi hi=>by
  rw[ho] at hi;cases hi
  exact h
end
end Go.Proofs.YtnedmonlofbahaaGreatDoor
namespace Go.Proofs.YtnedmonlofbahaaGreatDoor
open Go Go.RowKit Go.Joins
set_option linter.all false
abbrev lg (s:ByteArray) (at_:Int):Array Value:=#[.string s,I at_]
theorem iX {w:World} {B:Nat} {s:ByteArray} {at_:Int} (h:w.heap[B]? =some (.cells (lg s at_) 154 (0,0))):
  w.cell? ⟨B,0,none⟩=some (.string s)∧w.cell? ⟨B,1,none⟩=some (I at_)∧w.frozen? ⟨B,0,none⟩=false∧w.frozen? ⟨B,1,none⟩=false∧B<w.heap.size:=by
 refine⟨?_,?_,unfrozen_of_block h 0,unfrozen_of_block h 1,(Array.getElem?_eq_some_iff.1 h).1⟩
 ·rw[cell_of_block h 0];simp
 ·rw[cell_of_block h 1];simp
set_option maxRecDepth 512 in
theorem vA (w:World) (B:Nat) (s:ByteArray) (k:Nat) (h:w.heap[B]? =some (.cells (lg s k) 154 (0,0))) (hs:s.size<=9223372036854775807):
  Calls Tryz.prog 89 #[.pointer (some ⟨B,0,none⟩)] w fun e w'=>e= .returned (.bool (decide (k<s.size)))∧New w w':=by
 obtain⟨c0,c1,_,_,hB⟩:=iX h;clear h;go_enter Tryz.func89,Tryz.ntmps89;go_wp2_with fail;go_quiet (fail)
 go_wp2_with fail;go_ret
 exact⟨rfl,by first|exact(New.refl w).drewN _|exact New.refl w⟩
set_option maxRecDepth 512 in
theorem kq (w:World) (B:Nat) (s:ByteArray) (h:w.heap[B]? =some (.cells (lg s 0) 154 (0,0))) (hs:s.size<=9223372036854775807):
  Calls Tryz.prog 111 #[.pointer (some ⟨B,0,none⟩),I 0] w fun e w'=>e= .returned (.int .u8 ((aB s).getD 0 0))∧New w w':=by
 obtain⟨c0,c1,_,_,hB⟩:=iX h;clear h;by_cases h0:0<s.size
 ·have hb:(aB s).getD 0 0=(s[0].toNat:Int):=by rw[List.getD_eq_getElem?_getD,iV s 0 h0];rfl
  rw[hb];have hI:(0:Int)<(s.size:Int):=by omega
  have hd:decide (s=ByteArray.empty)=false:=decide_eq_false (by rintro rfl;simp at h0);clear hb;go_enter Tryz.func111,Tryz.ntmps111;go_wp2_with fail;go_quiet (fail)
  go_wp2_with fail;go_quiet (fail)
  go_wp2_with fail;go_ret
  exact⟨rfl,by first|exact((New.refl w).drewN _).drewN _|exact(New.refl w).drewN _⟩
 ·have hb:(aB s).getD 0 0=0:=by
   have:aB s=[]:=List.eq_nil_of_length_eq_zero (by rw[cL];omega);rw[this];rfl
  rw[hb];have hd:decide (s=ByteArray.empty)=true:=decide_eq_true (ByteArray.size_eq_zero_iff.1 (by omega));clear hb;go_enter Tryz.func111,Tryz.ntmps111;go_wp2_with fail;go_quiet (fail)
  go_wp2_with fail;go_ret
  exact⟨rfl,by first|exact(New.refl w).drewN _|exact New.refl w⟩
def jj:List Int->Nat
 |[]=>0
 |b::r=>if be b then jj r+1 else 0
theorem zE:∀l:List Int,jj l<=l.length:=by
 intro l;induction l with
 |nil=>exact Nat.le_refl _
 |cons b r ih=>unfold jj;split<;>simp<;>omega
theorem wP:∀l:List Int,jj l=l.length ↔ l.all be=true:=by
 intro l;induction l with
 |nil=>simp[jj]
 |cons b r ih=>
  unfold jj;cases e:be b with
  |true=>simp[e];simpa using ih
  |false=>simp[e]
theorem qj:∀(l:List Int) (k:Nat),(l.take k).all be=true->(∀b,l[k]? =some b->be b=false)->k<=l.length->jj l=k:=by
 intro l;induction l with
 |nil=>intro k _ _ hk;simp at hk;subst hk;rfl
 |cons b r ih=>
  intro k ha hb hk;unfold jj;cases k with
  |zero=>rw[hb b rfl];rfl
  |succ k=>
   simp only[List.take_succ_cons,List.all_cons,Bool.and_eq_true] at ha;rw[ha.1];simp only[if_true];rw[ih k ha.2 (fun c hc=>hb c (by simpa using hc)) (by simpa using hk)]
def fB (w:World) (B:Nat):Nat:=match w.cell? ⟨B,1,none⟩ with
 |some (.int _ n)=>n.toNat
 |_=>0
theorem of (w:World) (B:Nat) (s:ByteArray) (h:w.heap[B]? =some (.cells (lg s 0) 154 (0,0))) (hs:s.size<=9223372036854775807):
  Calls Tryz.prog 112 #[.pointer (some ⟨B,0,none⟩),.func (Fn.func 113) #[] #[]] w fun e w'=>e= .returned (.string (s.extract 0 (jj (aB s))))∧Keeps (fun k=>k=B) w w':=by
 have hB:B<w.heap.size:=(Array.getElem?_eq_some_iff.1 h).1;obtain⟨c0,c1,z0,z1,_⟩:=iX h;go_enter Tryz.func112,Tryz.ntmps112;go_wp2_with fail;clear c0 c1 z0 z1;go_loopw [] (fun wr=>∃k:Nat,k<=s.size∧Hid (((aB s).take k).all be=true)∧wr.heap[B]? =some (.cells (lg s k) 154 (0,0))∧Keeps (fun k=>k=B) w wr) (fun wr=>s.size-fB wr B)
 case atStart=>exact⟨0,by omega,Lib.hid (by simp),h,Keeps.refl _ _⟩
 case round=>
  clear h;obtain⟨k,hk,HA,hb,hkr⟩:=hrel;obtain⟨c0,c1,z0,z1,hBr⟩:=iX hb;have HY:Hid (fB wr B=k):=Lib.hid (by unfold fB;rw[c1];simp);have hm:=fun W (n:New wr W)=>vA W B s k (Keeps.heap n hb (fun h=>h)) hs
  by_cases hk1:k<s.size
  ·rw[decide_eq_true hk1] at hm;have hi:=fun W=>rq W (s[k].toNat:Int)
   have fC:s[k].toNat<256:=s[k].toNat_lt;have hat:=iV s k hk1;have hkI:(k:Int)<(s.size:Int):=by omega
   cases e2:be (s[k].toNat:Int) with
   |true=>
    rw[e2] at hi;have HA2:Hid (((aB s).take (k+1)).all be=true):=Lib.hid (by
     rw[show(aB s).take (k+1)=(aB s).take k++[(s[k].toNat:Int)] by rw[List.take_succ,hat];rfl,List.all_append,HA.out];simp[e2])
    clear e2 hat;go_wp2_with fail;go_region_held3 (fun w'=>w'.cell? ⟨B,0,none⟩=some (.string s)∧w'.cell? ⟨B,1,none⟩=some (I (k:Int))∧New wr w')
     ((refine⟨New.cell (w:=wr) ?_ c0,New.cell (w:=wr) ?_ c1,?_⟩<;>(repeat(first|exact New.refl wr|refine New.drew ?_|exact hN2|refine New.trans ?_ hN2))))
     ((first|(go_at_call 89;refine(hm _ ((New.refl wr).drew)).mono ?_;rintro e w2 ⟨rfl,hN2⟩)|(go_at_call 113;refine(hi _).mono ?_;rintro e w3 ⟨rfl,rfl⟩)))
    rename_i hSX;obtain⟨e0,e1,hNX⟩:=hSX;have hb3:=Keeps.heap hNX hb (fun h=>h);obtain⟨_,_,y0,y1,hB3⟩:=iX hb3;have hb4:=block_setCell (i:=1) hb3 (I ((k:Int)+1));have hk4:Keeps (fun k=>k=B) w (w3.setCell ⟨B,1,none⟩ (I ((k:Int)+1))):=(hkr.trans (Keeps.mono hNX (fun _ _ h=>h.elim)) (fun _ _ h=>h)).trans (Keeps.setCell (S:=fun k=>k=B) _ ⟨B,1,none⟩ _ rfl) (fun _ _ h=>h);have HB4:=Lib.hid hb4;have HK4:=Lib.hid hk4;clear hb4 hk4 hb hb3 hkr c0 c1 z0 z1;simp only[Exit.then];go_wp2_with fail;go_roundw
    case rel=>exact⟨k+1,by omega,HA2,by rw[HB4.out];simp,HK4.out⟩
    case measure=>
     have hx:fB (w3.setCell ⟨B,1,none⟩ (I ((k:Int)+1))) B=k+1:=by
      unfold fB;rw[cell_of_block HB4.out 1];simp
     rw[hx,HY.out];omega
   |false=>
    rw[e2] at hi;have HSP:Hid (jj (aB s)=k):=Lib.hid (qj _ k HA.out (fun b hb=>by rw[hat] at hb;cases hb;exact e2) (by rw[cL];omega));clear e2 hat;go_wp2_with fail;go_region_held3 (fun w'=>w'.cell? ⟨B,0,none⟩=some (.string s)∧w'.cell? ⟨B,1,none⟩=some (I (k:Int))∧New wr w')
     ((refine⟨New.cell (w:=wr) ?_ c0,New.cell (w:=wr) ?_ c1,?_⟩<;>(repeat(first|exact New.refl wr|refine New.drew ?_|exact hN2|refine New.trans ?_ hN2))))
     ((first|(go_at_call 89;refine(hm _ ((New.refl wr).drew)).mono ?_;rintro e w2 ⟨rfl,hN2⟩)|(go_at_call 113;refine(hi _).mono ?_;rintro e w3 ⟨rfl,rfl⟩)))
    rename_i hSX;obtain⟨e0,e1,hNX⟩:=hSX;have hKX:=Lib.hid (hkr.trans (Keeps.mono hNX (fun _ _ h=>h.elim)) (fun _ _ h=>h));clear c0 c1 hkr hb;simp only[Exit.then];go_wp2_with fail;go_quiet (fail)
    go_wp2_with fail;go_ret
    exact⟨by rw[HSP.out];rfl,by first|exact hKX.out.trans (Keeps.drewN _ _) (fun _ _ h=>h)|exact hKX.out⟩
  ·rw[decide_eq_false hk1] at hm;have HSP:Hid (jj (aB s)=k):=Lib.hid (qj _ k HA.out (fun b hb=>by rw[List.getElem?_eq_none (by rw[cL];omega)] at hb;cases hb) (by rw[cL];omega));go_wp2_with fail;have hS0:(fun w':World=>w'.cell? ⟨B,0,none⟩=some (.string s)∧w'.cell? ⟨B,1,none⟩=some (I (k:Int))) wr.drew:=⟨New.cell ((New.refl wr).drew) c0,New.cell ((New.refl wr).drew) c1⟩
   refine aj (fun w':World=>w'.cell? ⟨B,0,none⟩=some (.string s)∧w'.cell? ⟨B,1,none⟩=some (I (k:Int))) [] (by kernel_rfl) hS0 ?_;refine ae 0 hS0 ?_;refine nV 1 (by kernel_rfl) ?_;intro oi ho;cases ho;intro K hK
   (try simp only[Act.put,List.getElem_toArray,List.getElem_cons_succ,List.getElem_cons_zero,sLs])
   go_simp;refine(hm _ ((New.refl wr).drew)).mono ?_;rintro e w2 ⟨rfl,k2⟩;have hS1:(fun w':World=>w'.cell? ⟨B,0,none⟩=some (.string s)∧w'.cell? ⟨B,1,none⟩=some (I (k:Int))) w2:=⟨New.cell k2 hS0.1,New.cell k2 hS0.2⟩
   refine hK _ _ (fun _=>hS1) ?_;clear hK K;refine ae 2 hS1 ?_;refine cA 3 hS1 ?_;refine cA 4 hS1 ?_;refine cA 5 hS1 ?_;refine cA 6 hS1 ?_;refine cA 7 hS1 ?_;refine cA 8 hS1 ?_;refine cA 9 hS1 ?_;refine cA 10 hS1 ?_;refine cA 11 hS1 ?_;refine cA 12 hS1 ?_;refine cA 13 hS1 ?_;refine ae 14 hS1 ?_;refine av (by kernel_rfl) ?_;(try simp only[Act.put,List.getElem_toArray,List.getElem_cons_succ,List.getElem_cons_zero,sLs])
   have e0:=hS1.1;have e1:=hS1.2;have hKX:=Lib.hid ((hkr.trans (Keeps.drew (S:=fun k=>k=B) wr) (fun _ _ h=>h)).trans (Keeps.mono k2 (fun _ _ h=>h.elim)) (fun _ _ h=>h));clear hS0 hS1 c0 c1 hkr hb k2 hm;simp only[Exit.then];go_wp2_with fail;go_quiet (fail)
   go_wp2_with fail;go_ret
   exact⟨by rw[HSP.out];rfl,by first|exact hKX.out.trans (Keeps.drewN _ _) (fun _ _ h=>h)|exact hKX.out⟩
theorem f9 (w:World) (s:ByteArray) (hs:s.size<=9223372036854775807):Calls Tryz.prog 71 #[.string s] w fun e w'=>e= .returned (.bool (aQ s))∧New w w':=by
 by_cases h0:s.size=0
 ·rw[pP s h0];have HP:Hid ((aB s).getD 0 0=0):=Lib.hid (by
   have:aB s=[]:=List.eq_nil_of_length_eq_zero (by rw[cL];omega);rw[this];rfl)
  have hl:∀W,Calls Tryz.prog 110 #[.int .u8 0] W fun e w'=>e= .returned (.bool false)∧w'=W:=fun W=>dc W 0
  clear h0;go_enter Tryz.func71,Tryz.ntmps71;go_wp2_with fail;have hb:(w.alloc (.cells (lg s 0) 154)).heap[w.heap.size]? =some (.cells (lg s 0) 154 (0,0)):=heap_alloc_new w _;refine(kq _ w.heap.size s hb hs).mono ?_;rintro e w2 ⟨rfl,k2⟩;rw[HP.out];replace hb:=Keeps.heap k2 hb (fun h=>h);go_wp2_with fail;refine(hl _).mono ?_;rintro e w3 ⟨rfl,rfl⟩;go_wp2_with fail;go_ret
  exact⟨rfl,((New.refl w).alloc _).trans k2⟩
 ·have h1:0<s.size:=by omega
  have HP:Hid ((aB s).getD 0 0=(s[0].toNat:Int)):=Lib.hid (by rw[List.getD_eq_getElem?_getD,iV s 0 h1];rfl);rw[oH s h1];have hl:=fun W=>dc W (s[0].toNat:Int)
  cases e1:bg (s[0].toNat:Int) with
  |false=>
   rw[e1] at hl;rw[Bool.false_and];clear e1;go_enter Tryz.func71,Tryz.ntmps71;go_wp2_with fail;have hb:(w.alloc (.cells (lg s 0) 154)).heap[w.heap.size]? =some (.cells (lg s 0) 154 (0,0)):=heap_alloc_new w _;refine(kq _ w.heap.size s hb hs).mono ?_;rintro e w2 ⟨rfl,k2⟩;rw[HP.out];replace hb:=Keeps.heap k2 hb (fun h=>h);go_wp2_with fail;refine(hl _).mono ?_;rintro e w3 ⟨rfl,rfl⟩;go_wp2_with fail;go_ret
   exact⟨rfl,((New.refl w).alloc _).trans k2⟩
  |true=>
   rw[e1] at hl;rw[Bool.true_and];have hle:jj (aB s)<=s.size:=by have:=zE (aB s);rwa [cL] at this
   have di:=wP (aB s);rw[cL] at di;obtain⟨n,hn⟩:∃n,jj (aB s)=n:=⟨_,rfl⟩
   rw[hn] at hle di;have HN:=Lib.hid hn;have hx:(s.extract 0 n).size=n:=by rw[ByteArray.size_extract];omega
   clear e1 hn;by_cases ha:n=s.size
   ·have hA:(aB s).all be=true:=di.1 ha;rw[hA,Bool.true_and];subst ha;clear hA di;go_enter Tryz.func71,Tryz.ntmps71;go_wp2_with fail;have hb:(w.alloc (.cells (lg s 0) 154)).heap[w.heap.size]? =some (.cells (lg s 0) 154 (0,0)):=heap_alloc_new w _;refine(kq _ w.heap.size s hb hs).mono ?_;rintro e w2 ⟨rfl,k2⟩;rw[HP.out];replace hb:=Keeps.heap k2 hb (fun h=>h);go_wp2_with fail;refine(hl _).mono ?_;rintro e w3 ⟨rfl,rfl⟩;go_wp2_with fail;refine(of _ w.heap.size s hb hs).mono ?_;rintro e w4 ⟨rfl,k4⟩;rw[HN.out];have hNw:=(((New.refl w).alloc (.cells (lg s 0) 154)).trans k2).keeps k4 (fun i hi e=>by omega);go_wp2_with fail;go_ret
    have hd:decide ((s.size:Int)<=16)=decide (s.size<=16):=by
     by_cases hq:s.size<=16
     ·rw[decide_eq_true hq,decide_eq_true (by omega)]
     ·rw[decide_eq_false hq,decide_eq_false (by omega)]
    exact⟨by show Ending.returned (.bool (decide ((s.size:Int)<=16)))=_;rw[hd],hNw⟩
   ·have hA:(aB s).all be=false:=by
     cases e:(aB s).all be with
     |false=>rfl
     |true=>exact absurd (di.2 e) ha
    rw[hA,Bool.false_and];have hne:((n:Int)==(s.size:Int))=false:=by simpa using fun h:(n:Int)=s.size=>ha (by omega)
    clear hA di ha;go_enter Tryz.func71,Tryz.ntmps71;go_wp2_with fail;have hb:(w.alloc (.cells (lg s 0) 154)).heap[w.heap.size]? =some (.cells (lg s 0) 154 (0,0)):=heap_alloc_new w _;refine(kq _ w.heap.size s hb hs).mono ?_;rintro e w2 ⟨rfl,k2⟩;rw[HP.out];replace hb:=Keeps.heap k2 hb (fun h=>h);go_wp2_with fail;refine(hl _).mono ?_;rintro e w3 ⟨rfl,rfl⟩;go_wp2_with fail;refine(of _ w.heap.size s hb hs).mono ?_;rintro e w4 ⟨rfl,k4⟩;rw[HN.out];have hNw:=(((New.refl w).alloc (.cells (lg s 0) 154)).trans k2).keeps k4 (fun i hi e=>by omega);go_wp2_with fail;go_ret
    exact⟨rfl,hNw⟩
end Go.Proofs.YtnedmonlofbahaaGreatDoor
namespace Go.Proofs.YtnedmonlofbahaaGreatDoor
open Go Go.RowKit Go.ChangeShapes Go.WideShapes Go.ChangeAt
set_option linter.all false
open Go.ChangeMaps (open_string shut_string)
theorem own:ownKnob Tryz.prog.godebug=none:=by kernel_rfl
theorem Am:laidOutB Tryz.prog=true:=by kernel_rfl
theorem wf_i64 {x:Int} (h:(Lit.int .i64 x).wf=true): -9223372036854775808<=x∧x<=9223372036854775807:=by
 simpa[Lit.wf,IntKind.min,IntKind.max,IntKind.signed,IntKind.bits] using h
end Go.Proofs.YtnedmonlofbahaaGreatDoor
