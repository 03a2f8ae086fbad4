/-
  Mem, ShapeA, ShapeB, ShapeC, GrP, Mem2, Mem3, GrA, RegionX, GrB: what is wanted of them.
-/
import Derived.WalkKit
import Derived.WalkLawsBesides
import Derived.WalkSpells
import Derived.Deep.QuietTactic
import Derived.BigQuiet
import Derived.Lib.Hide
import Derived.IntWalk
import Derived.Test.YtnedmonlofbahaaGreatDoorChecked
import Derived.Outline
import Derived.Deep.DeepMust
import Derived.Deep.RegionWith
import Derived.Deep.RegionHeld3
import Derived.Deep.Slices
import Derived.Deep.Fields
import Derived.ChangeSame
import Derived.Lib.SmallJoins
import Derived.StillTailTactics
namespace Go.Proofs.YtnedmonlofbahaaGreatDoor
open Go Go.RowKit
set_option linter.all false
theorem sLs {α:Type} :(∀(l:List α) (i:Nat) (a:α),l.toArray.setIfInBounds i a=(l.set i a).toArray)∧(∀(a b:α) (l:List α),(a::l).set 0 b=b::l)∧(∀(a b:α) (i:Nat) (l:List α),(a::l).set (i+1) b=a::l.set i b):=⟨fun _ _ _=>List.setIfInBounds_toArray _ _ _,fun _ _ _=>rfl,fun _ _ _ _=>rfl⟩
theorem sLq {α:Type} :(∀(l:List α) (i:Nat),l.toArray[i]? =l[i]?)∧(∀(a:α) (i:Nat) (l:List α),(a::l)[i+1]? =l[i]?)∧(∀(a:α) (l:List α),(a::l)[0]? =some a)∧(∀a b:α,(some a=some b)=(a=b)):=⟨fun _ _=>List.getElem?_toArray,fun _ _ _=>List.getElem?_cons_succ,fun _ _=>List.getElem?_cons_zero,fun _ _=>Option.some.injEq _ _⟩
structure Keeps (S:Nat->Prop) (w w':World):Prop where
 os:w'.os=w.os
 tape:w'.tape=w.tape
 output:w'.output=w.output
 size:w.heap.size<=w'.heap.size
 block:∀k,k<w.heap.size->¬S k->w'.heap[k]? =w.heap[k]?
def New (w w':World):Prop:=Keeps (fun _=>False) w w'
namespace Keeps
variable {S T:Nat->Prop} {a b c w w':World}
theorem refl (S:Nat->Prop) (w:World):Keeps S w w:=⟨rfl,rfl,rfl,Nat.le_refl _,fun _ _ _=>rfl⟩
theorem trans (h:Keeps S a b) (k:Keeps T b c) (hT:∀i,i<a.heap.size->T i->S i):Keeps S a c:=
 ⟨k.os.trans h.os,k.tape.trans h.tape,k.output.trans h.output,Nat.le_trans h.size k.size,
  fun i hi hn=>(k.block i (Nat.lt_of_lt_of_le hi h.size) (fun t=>hn (hT i hi t))).trans (h.block i hi hn)⟩
theorem mono (h:Keeps S a b) (hT:∀i,i<a.heap.size->S i->T i):Keeps T a b:=
 ⟨h.os,h.tape,h.output,h.size,fun i hi hn=>h.block i hi (fun s=>hn (hT i hi s))⟩
theorem alloc (w:World) (o:Obj):Keeps S w (w.alloc o):=⟨rfl,rfl,rfl,by simp,fun k hk _=>Below.heap_alloc w o k hk⟩
theorem drew (w:World):Keeps S w w.drew:=⟨rfl,rfl,rfl,Nat.le_refl _,fun _ _ _=>rfl⟩
theorem drewN (w:World) (n:Nat):Keeps S w (w.drewN n):=by
 refine⟨?_,?_,?_,?_,?_⟩<;>simp[World.drewN]
theorem setCell (w:World) (p:Addr) (v:Value) (hp:S p.block):Keeps S w (w.setCell p v):=
 ⟨rfl,rfl,rfl,by simp[World.setCell],fun k _ hk=>Below.heap_setCell _ _ _ _ (fun e=>hk (e▸hp))⟩
theorem grown {row:Option Nat} (h:w.grownBy w' row) (hr:∀k,some k=row->S k):Keeps S w w':=
 ⟨h.os,h.tape,h.output,h.size,fun k hk hn=>h.block k hk (fun e=>hn (hr k e))⟩
theorem below {B:Nat} (h:Keeps S w w') (hB:B<=w.heap.size) (hS:∀k,k<B->¬S k):Below B w w':=
 ⟨h.os,h.tape,h.output,h.size,fun k hk=>h.block k (Nat.lt_of_lt_of_le hk hB) (hS k hk)⟩
theorem heap (h:Keeps S w w') {k:Nat} {o:Obj} (hk:w.heap[k]? =some o) (hn:¬S k):w'.heap[k]? =some o:=
 (h.block k (Array.getElem?_eq_some_iff.1 hk).1 hn).trans hk
theorem cell (h:Keeps S w w') {p:Addr} {v:Value} (hv:w.cell? p=some v) (hn:¬S p.block):w'.cell? p=some v:=
 (World.cell?_of_block (w:=w) (h.block p.block (World.block_lt_of_cell? w p hv) hn)).trans hv
theorem fm (h:Keeps S w w') {p:Addr} (hp:p.block<w.heap.size) (hn:¬S p.block):w'.frozen? p=w.frozen? p:=
 World.frozen?_of_block (w:=w) (h.block p.block hp hn)
theorem owns {B:Nat} {e:TypeId} {size:Nat} {v:Value} {n:Nat} {xs:List Value} (h:Keeps S w w') (hv:w.ownsRow B e size v n xs)
  (hn:∀k,v.ownBlock=some k->¬S k):w'.ownsRow B e size v n xs:=by
 refine⟨hv.1,?_⟩;rcases hv.2 with h0|⟨g,cap,cur,rfl,hb,hg,rest⟩
 ·exact .inl h0
 ·exact .inr ⟨g,cap,cur,rfl,hb,h.heap hg (hn g rfl),rest⟩
end Keeps
namespace New
variable {a b c w w':World}
theorem refl (w:World):New w w:=Keeps.refl _ w
theorem trans (h:New a b) (k:New b c):New a c:=Keeps.trans h k (fun _ _ h=>h)
theorem alloc (h:New a w) (o:Obj):New a (w.alloc o):=h.trans (Keeps.alloc w o)
theorem drew (h:New a w):New a w.drew:=h.trans (Keeps.drew w)
theorem drewN (h:New a w) (n:Nat):New a (w.drewN n):=h.trans (Keeps.drewN w n)
theorem below (h:New w w'):Below w.heap.size w w':=Keeps.below h (Nat.le_refl _) (fun _ _ h=>h)
theorem cell (h:New w w') {p:Addr} {v:Value} (hv:w.cell? p=some v):w'.cell? p=some v:=Keeps.cell h hv (fun h=>h)
theorem owns {B:Nat} {e:TypeId} {size:Nat} {v:Value} {n:Nat} {xs:List Value} (h:New w w') (hv:w.ownsRow B e size v n xs):w'.ownsRow B e size v n xs:=
 Keeps.owns h hv (fun _ _ h=>h)
theorem size (h:New w w'):w.heap.size<=w'.heap.size:=Keeps.size h
theorem setCell (h:New a w) {p:Addr} (hp:a.heap.size<=p.block) (v:Value):New a (w.setCell p v):=
 Keeps.trans h (Keeps.setCell (S:=fun k=>k=p.block) w p v rfl) (fun i hi e=>by omega)
theorem keeps {S:Nat->Prop} (h:New a w) (k:Keeps S w w') (hS:∀i,i<a.heap.size->¬S i):New a w':=
 Keeps.trans h k (fun i hi s=>hS i hi s)
end New
def am (w:World) (ao:Option Addr) (cs:List Value):Prop:=
 ∀i,i<cs.length->∃b off,ao=some ⟨b,off,none⟩∧w.cell? ⟨b,off+i,none⟩=some (cs.getD i undef)
theorem am.at {w:World} {ao:Option Addr} {cs:List Value} (h:am w ao cs) {i:Nat} (hi:i<cs.length):
  ∃b off,ao=some ⟨b,off,none⟩∧w.cell? ⟨b,off+i,none⟩=some cs[i]:=by
 obtain⟨b,off,e,c⟩:=h i hi;refine⟨b,off,e,?_⟩;rw[c];simp[hi]
theorem am.nil (w:World) (ao:Option Addr):am w ao []:=fun i hi=>by simp at hi
theorem am.keeps {S:Nat->Prop} {w w':World} {ao:Option Addr} {cs:List Value} (h:am w ao cs) (k:Keeps S w w') (hn:∀a,ao=some a->¬S a.block):am w' ao cs:=by
 intro i hi;obtain⟨b,off,e,c⟩:=h i hi;exact⟨b,off,e,k.cell c (fun s=>hn _ e s)⟩
theorem am.new {w w':World} {ao:Option Addr} {cs:List Value} (h:am w ao cs) (k:New w w'):am w' ao cs:=h.keeps k (fun _ _ h=>h)
theorem am.drewN {w:World} {ao:Option Addr} {cs:List Value} (h:am w ao cs) (n:Nat):am (w.drewN n) ao cs:=h.new (Keeps.drewN w n)
theorem am.of_owns {w:World} {B:Nat} {e:TypeId} {size n c:Nat} {ao:Option Addr} {xs:List Value} (h:w.ownsRow B e size (.slice ao n c) n xs):am w ao xs:=by
 intro i hi;rcases h.2 with⟨h0,h1⟩|⟨g,cap,cur,h0,hb,hg,hnc,hcm,hcs,htake⟩
 ·have:=h.1;rw[h1] at this;simp at this;subst this;simp at hi
 ·simp only[Value.slice.injEq] at h0;obtain⟨rfl,_,rfl⟩:=h0;refine⟨g,0,rfl,?_⟩;have:=h.cellAt i (by rw[h.1] at hi;exact hi);rw[Nat.zero_add,this];simp[hi]
theorem am.drop {w:World} {b off:Nat} {cs:List Value} (h:am w (some ⟨b,off,none⟩) cs) (k:Nat):am w (some ⟨b,off+k,none⟩) (cs.drop k):=by
 intro i hi;simp at hi;obtain⟨b',off',e,c⟩:=h (k+i) (by omega);simp only[Option.some.injEq,Addr.mk.injEq,and_true] at e;obtain⟨rfl,rfl⟩:=e;refine⟨b,off+k,rfl,?_⟩;rw[Nat.add_assoc,c];simp
theorem am.take {w:World} {ao:Option Addr} {cs:List Value} (h:am w ao cs) (k:Nat):am w ao (cs.take k):=by
 intro i hi;simp at hi;obtain⟨b',off',e,c⟩:=h i (by omega);refine⟨b',off',e,?_⟩;rw[c];simp[List.getElem?_take,show i<k by omega]
theorem fu (k:IntKind) (xs:List Int):∀u∈xs.map (Value.int k),u.oneCell'=true:=ints_oneCell k xs
def uV (w w':World) (e:TypeId) (ao:Option Addr) (len:Nat):Prop:=
 ∀a cur,ao=some a->w.heap[a.block]? =some (.cells cur e (0,0))->∃cur',w'.heap[a.block]? =some (.cells cur' e (0,0))∧cur'.size=cur.size∧cur'.toList.take len=cur.toList.take len
def eK (w:World) (ao ao':Option Addr):Prop:=ao'=ao∨∃g,ao'=some ⟨g,0,none⟩∧w.heap.size<=g
def blk (ao:Option Addr) (k:Nat):Prop:=∃a,ao=some a∧a.block=k
theorem pO {P:Program} (w:World) (base:Nat) (t ty e:TypeId) (i:TypeInfo) (z:Value) (size bytes:Nat) (ht:P.underlying t=some (.slice e)) (hi:P.info? e=some i) (hz:i.zero=some z)
  (hsize:i.size=size) (hby:i.bytes=bytes) (hzs:z.cells.size=size) (hsz:0<size)
  (ao:Option Addr) (n c:Nat) (xs:List Value) (hown:w.ownsRow base e size (.slice ao n c) n xs)
  (ad:Option Addr) (m cc:Nat) (news:List Value) (hl:news.length=m*size) (hat:am w ad news) (h1:∀u∈news,u.oneCell'=true)
  (h63:n+m<=maxLen) (hbytes:(n+m)*bytes<=140737488355328) (hbase:base<=w.heap.size):
  ∃ao' c' w',(Builtin.append_ #[t,t] ty #[.slice ao n c,.slice ad m cc]).run P w= .ok (.slice ao' (n+m) c') w'∧w'.ownsRow base e size (.slice ao' (n+m) c') (n+m) (xs++news)∧
   Keeps (blk ao) w w'∧eK w ao ao'∧uV w w' e ao (n*size):=by
 by_cases hm:m=0
 ·subst hm;have hn:news=[]:=List.eq_nil_of_length_eq_zero (by simpa using hl);subst hn;have hr:(Builtin.append_ #[t,t] ty #[.slice ao n c,.slice ad 0 cc]).run P w= .ok (.slice ao n c) w:=by
   rcases hown.2 with⟨hv,rfl⟩|⟨g,cap,cur,hv,_,_,hnc,_⟩
   ·simp only[Value.slice.injEq,true_and] at hv;obtain⟨rfl,rfl⟩:=hv;cases ad<;>simp[Builtin.append_,run_underlying ht,sizeOf,typeInfo,hi,Builtin.lenOf,Builtin.firstCells,loadCells,loadCellsFrom,storeCells]
   ·simp only[Value.slice.injEq] at hv;obtain⟨rfl,_,rfl⟩:=hv;cases ad<;>simp[Builtin.append_,run_underlying ht,sizeOf,typeInfo,hi,Builtin.lenOf,Builtin.firstCells,hnc,loadCells,loadCellsFrom,storeCells]
  exact⟨ao,c,w,by simpa using hr,by simpa using hown,Keeps.refl _ _,.inl rfl,fun a cur _ h=>⟨cur,h,rfl,rfl⟩⟩
 ·obtain⟨b,off,rfl,_⟩:=hat 0 (by rw[hl];exact Nat.mul_pos (by omega) hsz);have hnews:∀j u,news[j]? =some u->w.cell? ((⟨b,off,none⟩:Addr).add j)=some u:=by
   intro j u hu;obtain⟨hj,hju⟩:=List.getElem?_eq_some_iff.1 hu;obtain⟨b',off',e',c'⟩:=hat.at hj;simp only[Option.some.injEq,Addr.mk.injEq,and_true] at e';obtain⟨rfl,rfl⟩:=e';rw[Addr.add_lit,c',hju]
  have hlen:(xs++news).length=(n+m)*size:=by rw[List.length_append,hown.1,hl,Nat.add_mul]
  have hsmall:n+m<=9223372036854775807:=by simp only[maxLen] at h63;omega
  subst hsize;subst hby;have grow:∀old,old<n+m->
    (w.drew.alloc (.cells (xs.toArray++news.toArray++Builtin.zeroCells z.cells (grownCap w (n+m) old e-(n+m))) e)).ownsRow base e i.size
     (.slice (some ⟨w.heap.size,0,none⟩) (n+m) (grownCap w (n+m) old e)) (n+m) (xs++news):=by
   intro old ho;have hge:=grownCap_ge w (n+m) old e;have hcm:grownCap w (n+m) old e<=maxLen:=grownCap_le_maxLen w (n+m) old e h63;refine⟨hlen,.inr ⟨w.heap.size,_,_,rfl,hbase,heap_alloc_new w.drew _,hge,hcm,?_,?_⟩⟩
   ·simp only[Array.size_append,List.size_toArray,size_zeroCells,hzs,hown.1,hl,<-Nat.add_mul];congr 1
    omega
   ·simp only[Array.toList_append,List.append_assoc];rw[<-List.append_assoc,<-hlen];exact List.take_left
  have hkeep:∀(S:Nat->Prop) (o:Obj),Keeps S w (w.drew.alloc o):=fun S o=>(Keeps.drew w).trans (Keeps.alloc _ _) (fun _ _ h=>h)
  rcases hown.2 with⟨hv,rfl⟩|⟨g,cap,cur,hv,hbg,hg,hnc,hcm,hcs,htake⟩
  ·simp only[Value.slice.injEq,true_and] at hv;obtain⟨rfl,rfl⟩:=hv;have hx:xs=[]:=List.eq_nil_of_length_eq_zero (by simpa using hown.1);subst hx;have hr:=run_append_nil (P:=P) w t ty e i z ht hi hz ⟨b,off,none⟩ m cc news hl hnews (by omega) (by omega) (by have hb:=hbytes;simp only[Nat.zero_add] at hb;omega);have hgr:=grow 0 (by omega);simp only[Nat.zero_add,List.nil_append,Array.empty_append] at hgr ⊢;exact⟨_,_,_,hr,hgr,hkeep _ _,.inr ⟨_,rfl,Nat.le_refl _⟩,fun a cur h=>by cases h⟩
  ·simp only[Value.slice.injEq] at hv;obtain⟨rfl,_,rfl⟩:=hv;by_cases hroom:n+m<=c
   ·have hfit:n*i.size+news.length<=cur.size:=by rw[hl,hcs,<-Nat.add_mul];exact Nat.mul_le_mul_right _ hroom
    have hr:=run_append_room (P:=P) w t ty e i ht hi g n c cur hg ⟨b,off,none⟩ m cc news hl hnews h1 hroom hfit;have hcl:n*i.size<=cur.toList.length:=by simp;omega
    refine⟨_,_,_,hr,⟨hlen,.inr ⟨g,c,_,rfl,hbg,setRow_heap w g cur _ e _ hg,hroom,hcm,?_,?_⟩⟩,?_,.inl rfl,?_⟩
    ·simp only[List.size_toArray,List.length_append,List.length_take,List.length_drop,Array.length_toList];omega
    ·rw[htake,<-hlen];exact List.take_left
    ·exact⟨rfl,rfl,rfl,by simp,fun k _ hk=>setRow_other w g k _ (fun e=>hk ⟨_,rfl,e.symm⟩)⟩
    ·intro a cur' ha hc';simp only[Option.some.injEq] at ha;subst ha;rw[hg] at hc';simp only[Option.some.injEq,Obj.cells.injEq,and_true,true_and] at hc';subst hc';refine⟨_,setRow_heap w g cur _ e _ hg,?_,?_⟩
     ·simp only[List.size_toArray,List.length_append,List.length_take,List.length_drop,Array.length_toList];omega
     ·show List.take _ (_++_++_)=_
      rw[List.append_assoc,List.take_append_of_le_length (by rw[List.length_take];omega),List.take_take,Nat.min_self]
   ·have holds:∀j u,xs[j]? =some u->w.cell? ((⟨g,0,none⟩:Addr).add j)=some u:=hown.cells (g:=g) rfl;have hr:=run_append_grow (P:=P) w t ty e i z ht hi hz ⟨g,0,none⟩ n c xs hown.1 holds ⟨b,off,none⟩ m cc news hl hnews (by omega) (by omega) (growslice_fits (by omega) hbytes);refine⟨_,_,_,hr,grow c (by omega),hkeep _ _,.inr ⟨_,rfl,Nat.le_refl _⟩,?_⟩;intro a cur' ha hc';exact⟨cur',(hkeep (fun _=>False) _).heap hc' (fun h=>h),rfl,rfl⟩
theorem bB {P:Program} {w:World} {ops:Array Oper} {rest:List Oper} {o:Oper} {a:Act} {Q:Exit->Act->World->Prop} (hgd:o.guard=none) (s x:Operand) (t:TypeId)
  (ho:o.op= .call { callee:= .builtin .append,args:=#[s,x],argTypes:=#[t,t] })
  (base:Nat) (e:TypeId) (i:TypeInfo) (z:Value) (size bytes:Nat) (ht:P.underlying t=some (.slice e)) (hi:P.info? e=some i) (hz:i.zero=some z)
  (hsize:i.size=size) (hby:i.bytes=bytes) (hzs:z.cells.size=size) (hsz:0<size)
  (ao:Option Addr) (n c:Nat) (xs:List Value) (hs:a.eval s= .slice ao n c) (hown:w.ownsRow base e size (.slice ao n c) n xs)
  (ad:Option Addr) (m cc:Nat) (news:List Value) (hx:a.eval x= .slice ad m cc) (hl:news.length=m*size) (hat:am w ad news) (h1:∀u∈news,u.oneCell'=true)
  (h63:n+m<=maxLen) (hbytes:(n+m)*bytes<=140737488355328) (hbase:base<=w.heap.size)
  (h:∀ao' c' w',w'.ownsRow base e size (.slice ao' (n+m) c') (n+m) (xs++news)->Keeps (blk ao) w w'->eK w ao ao'->uV w w' e ao (n*size)->wpList P ops Q rest (a.put o.dst (.slice ao' (n+m) c')) w'):wpList P ops Q (o::rest) a w:=by
 refine wpList_plain hgd fun K hK=>?_
 obtain⟨ao',c',w',hr,h2,h3,h4,h5⟩:=pO (P:=P) w base t o.type e i z size bytes ht hi hz hsize hby hzs hsz ao n c xs hown ad m cc news hl hat h1 h63 hbytes hbase;unfold Oper.wp execOp;simp only[ho,resolve,invoke,builtin,Sem.run_bind,Sem.run_pure,Result.andThen_ok,List.map_toArray,List.map_cons,List.map_nil,hs,hx,hr];exact hK _ _ (h ao' c' w' h2 h3 h4 h5)
theorem sZ {P:Program} (w:World) (base:Nat) (t ty e:TypeId) (i:TypeInfo) (size:Nat) (ht:P.underlying t=some (.slice e)) (hi:P.info? e=some i)
  (hsize:i.size=size) (hsz:0<size) (ao:Option Addr) (n c:Nat) (xs:List Value) (hown:w.ownsRow base e size (.slice ao n c) n xs)
  (ad:Option Addr) (m cc:Nat) (news:List Value) (hl:news.length=m*size) (hat:am w ad news) (h1:∀u∈news,u.oneCell'=true) (hroom:n+m<=c):
  ∃w',(Builtin.append_ #[t,t] ty #[.slice ao n c,.slice ad m cc]).run P w= .ok (.slice ao (n+m) c) w'∧w'.ownsRow base e size (.slice ao (n+m) c) (n+m) (xs++news)∧Keeps (blk ao) w w':=by
 rcases hown.2 with⟨hv,rfl⟩|⟨g,cap,cur,hv,hbg,hg,hnc,hcm,hcs,htake⟩
 ·simp only[Value.slice.injEq,true_and] at hv;obtain⟨rfl,rfl⟩:=hv;obtain rfl:m=0:=by omega
  have hn:news=[]:=List.eq_nil_of_length_eq_zero (by simpa using hl);subst hn;refine⟨w,?_,by simpa using hown,Keeps.refl _ _⟩;cases ad<;>simp[Builtin.append_,run_underlying ht,sizeOf,typeInfo,hi,Builtin.lenOf,Builtin.firstCells,loadCells,loadCellsFrom]
 ·simp only[Value.slice.injEq] at hv;obtain⟨rfl,_,rfl⟩:=hv;by_cases hm:m=0
  ·subst hm;have hn:news=[]:=List.eq_nil_of_length_eq_zero (by simpa using hl);subst hn;refine⟨w,?_,by simpa using hown,Keeps.refl _ _⟩;cases ad<;>simp[Builtin.append_,run_underlying ht,sizeOf,typeInfo,hi,Builtin.lenOf,Builtin.firstCells,hnc,loadCells,loadCellsFrom,storeCells]
  ·obtain⟨b,off,rfl,_⟩:=hat 0 (by rw[hl];exact Nat.mul_pos (by omega) hsz);have hnews:∀j u,news[j]? =some u->w.cell? ((⟨b,off,none⟩:Addr).add j)=some u:=by
    intro j u hu;obtain⟨hj,hju⟩:=List.getElem?_eq_some_iff.1 hu;obtain⟨b',off',e',c'⟩:=hat.at hj;simp only[Option.some.injEq,Addr.mk.injEq,and_true] at e';obtain⟨rfl,rfl⟩:=e';rw[Addr.add_lit,c',hju]
   have hlen:(xs++news).length=(n+m)*size:=by rw[List.length_append,hown.1,hl,Nat.add_mul]
   subst hsize;have hfit:n*i.size+news.length<=cur.size:=by rw[hl,hcs,<-Nat.add_mul];exact Nat.mul_le_mul_right _ hroom
   have hr:=run_append_room (P:=P) w t ty e i ht hi g n c cur hg ⟨b,off,none⟩ m cc news hl hnews h1 hroom hfit;refine⟨_,hr,⟨hlen,.inr ⟨g,c,_,rfl,hbg,setRow_heap w g cur _ e _ hg,hroom,hcm,?_,?_⟩⟩,?_⟩
   ·simp only[List.size_toArray,List.length_append,List.length_take,List.length_drop,Array.length_toList];omega
   ·rw[htake,<-hlen];exact List.take_left
   ·exact⟨rfl,rfl,rfl,by simp,fun k _ hk=>setRow_other w g k _ (fun e=>hk ⟨_,rfl,e.symm⟩)⟩
theorem jZ {P:Program} {w:World} {ops:Array Oper} {rest:List Oper} {o:Oper} {a:Act} {Q:Exit->Act->World->Prop} (hgd:o.guard=none) (s x:Operand) (t:TypeId)
  (ho:o.op= .call { callee:= .builtin .append,args:=#[s,x],argTypes:=#[t,t] })
  (base:Nat) (e:TypeId) (i:TypeInfo) (size:Nat) (ht:P.underlying t=some (.slice e)) (hi:P.info? e=some i) (hsize:i.size=size) (hsz:0<size)
  (ao:Option Addr) (n c:Nat) (xs:List Value) (hs:a.eval s= .slice ao n c) (hown:w.ownsRow base e size (.slice ao n c) n xs)
  (ad:Option Addr) (m cc:Nat) (news:List Value) (hx:a.eval x= .slice ad m cc) (hl:news.length=m*size) (hat:am w ad news) (h1:∀u∈news,u.oneCell'=true) (hroom:n+m<=c)
  (h:∀w',w'.ownsRow base e size (.slice ao (n+m) c) (n+m) (xs++news)->Keeps (blk ao) w w'->wpList P ops Q rest (a.put o.dst (.slice ao (n+m) c)) w'):wpList P ops Q (o::rest) a w:=by
 refine wpList_plain hgd fun K hK=>?_
 obtain⟨w',hr,h2,h3⟩:=sZ (P:=P) w base t o.type e i size ht hi hsize hsz ao n c xs hown ad m cc news hl hat h1 hroom;unfold Oper.wp execOp;simp only[ho,resolve,invoke,builtin,Sem.run_bind,Sem.run_pure,Result.andThen_ok,List.map_toArray,List.map_cons,List.map_nil,hs,hx,hr];exact hK _ _ (h w' h2 h3)
theorem ms {w:World} {base:Nat} {e:TypeId} {size n g:Nat} {xs:List Value} (h:w.ownsRow base e size (.slice (some ⟨g,0,none⟩) n n) n xs):
  w.heap[g]? =some (.cells xs.toArray e (0,0)):=by
 rcases h.2 with⟨h0,_⟩|⟨g',cap,cur,hv,hbg,hg,hnc,hcm,hcs,htake⟩
 ·simp at h0
 ·simp only[Value.slice.injEq,Option.some.injEq,Addr.mk.injEq,and_true,true_and] at hv;obtain⟨rfl,rfl⟩:=hv;rw[hg,<-htake,List.take_of_length_le (by simp[hcs])]
theorem am.block {w:World} {g:Nat} {cs:List Value} {e:TypeId} {fr:Nat×Nat} (h:w.heap[g]? =some (.cells cs.toArray e fr)):am w (some ⟨g,0,none⟩) cs:=by
 intro i hi;refine⟨g,0,rfl,?_⟩;rw[Nat.zero_add,cell_of_row w g i _ e fr h];simp[hi]
theorem am.lit (w:World) (cs:Array Value) (e:TypeId):am (w.alloc (.cells cs e)) (some ⟨w.heap.size,0,none⟩) cs.toList:=by
 intro i hi;refine⟨_,_,rfl,?_⟩;simp at hi;simp[hi]
theorem dD {w:World} {base base':Nat} {e:TypeId} {size n:Nat} {v:Value} {xs:List Value} (h:w.ownsRow base e size v n xs) (hb:∀k,v.ownBlock=some k->base'<=k):w.ownsRow base' e size v n xs:=by
 refine⟨h.1,?_⟩;rcases h.2 with h0|⟨g,cap,cur,rfl,hbg,r⟩
 ·exact .inl h0
 ·exact .inr ⟨g,cap,cur,rfl,hb g rfl,r⟩
end Go.Proofs.YtnedmonlofbahaaGreatDoor
namespace Go.Proofs.YtnedmonlofbahaaGreatDoor
open Go Go.RowKit
set_option linter.all false
abbrev I (n:Int):Value:= .int .i64 n
abbrev Is (xs:List Int):List Value:=xs.map (Value.int .i64)
theorem Tryz.infoInt:(Tryz.prog.info? 3).map (fun i=>(i.zero,i.size,i.bytes))=some (some (.int .i64 0),1,8):=by kernel_rfl
def bp (w:World) (B:Nat) (ao:Option Addr) (c:Nat) (xs:List Int):Prop:=w.ownsRow B 3 1 (.slice ao xs.length c) xs.length (Is xs)
theorem bp.sl {w:World} {B:Nat} {ao:Option Addr} {c:Nat} {xs:List Int} (h:bp w B ao c xs):am w ao (Is xs):=am.of_owns h
theorem bp.new {w w':World} {B:Nat} {ao:Option Addr} {c:Nat} {xs:List Int} (h:bp w B ao c xs) (k:New w w'):bp w' B ao c xs:=k.owns h
theorem bp.lt {w:World} {B:Nat} {ao:Option Addr} {c:Nat} {xs:List Int} (h:bp w B ao c xs):∀a,ao=some a->B<=a.block∧a.block<w.heap.size:=fun a ha=>
 World.ownsRow.lt h a.block (by subst ha;rfl)
theorem aT {w:World} {ao:Option Addr} {xs:List Int} (h:am w ao (Is xs)) {i:Nat} (hi:i<xs.length):
  ∃b off,ao=some ⟨b,off,none⟩∧w.cell? ⟨b,off+i,none⟩=some (.int .i64 xs[i]):=by
 obtain⟨b,off,e,c⟩:=h.at (i:=i) (by simpa using hi);exact⟨b,off,e,by rw[c];simp⟩
set_option maxHeartbeats 400000 in
theorem js (w:World) (ao bo:Option Addr) (xs ys:List Int) (c d:Nat) (hx:am w ao (Is xs)) (hy:am w bo (Is ys))
   (lx:xs.length<=9223372036854775807):
    Calls Tryz.prog 30 #[.slice ao xs.length c,.slice bo ys.length d] w fun e w'=>e= .returned (.bool (decide (xs=ys)))∧∃n,w'=w.drewN n:=by
  by_cases hl:xs.length=ys.length
  · have hl':((xs.length:Int) != (ys.length:Int))=false:=by simp[hl]
    have HL:=Lib.hid hl;clear hl;have hle:xs.length<=ys.length:=by have:=HL.out;omega
    have hge:ys.length<=xs.length:=by have:=HL.out;omega
    go_enter Tryz.func30,Tryz.ntmps30;go_wp2
    go_loopw [5] (fun i wr=>∃k:Nat,k<=xs.length∧i= .int .i64 k∧(∀j,j<k->xs[j]? =ys[j]?)∧∃n,wr=w.drewN n) (fun i _=>xs.length-(intOf i).toNat)
    case atStart=>exact⟨0,by omega,rfl,by omega,0,rfl⟩
    case round=>
      obtain⟨k,hk,rfl,hall,n,rfl⟩:=hrel;have HA:=Lib.hid hall;clear hall;by_cases hkl:k<xs.length
      · obtain⟨b,off,rfl,hc⟩:=aT hx hkl
        obtain⟨b',off',rfl,hc'⟩:=aT hy (i:=k) (by omega);go_wp2
        go_quiet (fail)
        go_wp2
        · have hne:(xs[k] != ys[k])=true:=by assumption
          go_ret
          refine⟨?_,n+nq,by simp⟩;have:xs≠ys:=by rintro rfl;simp at hne
          simp[this]
        · have hne:(xs[k] != ys[k])=false:=by assumption
          go_roundw
          case rel=>
            refine⟨k+1,by omega,by go_num,?_,_,rfl⟩;intro j hj;by_cases e:j<k
            · exact HA.out j e
            · obtain rfl:j=k:=by omega
              simp at hne;rw[List.getElem?_eq_getElem hkl,List.getElem?_eq_getElem (by omega),hne]
          case measure=>simp[intOf];omega
      · go_wp2
        go_ret
        refine⟨?_,_,rfl⟩;have:xs=ys:=by
          apply List.ext_getElem?;intro i;by_cases e:i<k
          · exact HA.out i e
          · rw[List.getElem?_eq_none (by omega),List.getElem?_eq_none (by omega)]
        simp[this]
  · have hl':((xs.length:Int) != (ys.length:Int))=true:=by simp;omega
    go_enter Tryz.func30,Tryz.ntmps30;go_wp2
    go_ret
    refine⟨?_,0,rfl⟩;have:xs≠ys:=by rintro rfl;exact hl rfl
    simp[this]
theorem ag (n m:Int) (w:World):
  Calls Tryz.prog 142 #[I n,I m] w fun e w'=>e= .returned (.bool (decide (1<=n∧n<=m)))∧w'=w:=by
 by_cases h1:1<=n
 ·by_cases h2:n<=m
  all_goals
   go_enter Tryz.func142,Tryz.ntmps142;go_wp2
   go_ret
   exact⟨by simp[h1,h2];try omega,rfl⟩
 ·go_enter Tryz.func142,Tryz.ntmps142;go_wp2
  go_ret
  exact⟨by simp;omega,rfl⟩
set_option maxHeartbeats 400000 in
theorem mt (n:Nat) (r:Int) (w:World) (hn:n<=64):
  Calls Tryz.prog 153 #[I n,I r] w fun e w'=>∃ao c,e= .returned (.slice ao n c)∧bp w' w.heap.size ao c (List.replicate n r)∧New w w':=by
 obtain⟨i0,hi,hz0,hz1,hz2⟩:=info_parts Tryz.infoInt;go_enter Tryz.func153,Tryz.ntmps153;go_wp2
 go_loopw [5,6] (fun v i wr=>∃k:Nat,k<=n∧i= .int .i64 k∧(∃ao c,v= .slice ao k c∧wr.ownsRow w.heap.size 3 1 (.slice ao k c) k (List.replicate k (I r)))∧New w wr) (fun _ i _=>n-(intOf i).toNat)
 case atStart=>exact⟨0,Nat.zero_le _,rfl,⟨_,_,rfl,World.ownsRow_nil _ _ _ _⟩,New.refl _⟩
 case round=>
  obtain⟨k,hk,rfl,⟨ao,c,rfl,hown⟩,hnew⟩:=hrel;by_cases hkn:k<n
  ·have hs:=hnew.size;go_wp2_with ((at_builtin;refine bB rfl _ _ 61 rfl w.heap.size 3 i0 (.int .i64 0) 1 8 Tryz.underlying61 hi hz0 hz1 hz2 rfl (by decide) ao k c _ rfl ((Keeps.alloc (S:=fun _=>False) _ _).owns hown (fun _ _ h=>h)) _ 1 1 [I r] rfl rfl ?c0 ?c1 ?c2 ?c3 ?c4 ?c5));case c0=>exact am.lit _ _ _
   case c1=>intro u hu;simp at hu;subst hu;rfl
   case c2=>unfold maxLen;omega
   case c3=>omega
   case c4=>simp;omega
   case c5=>
    intro ao' c' w' hown' hk' hmv _;have hnew':New w w':=(hnew.alloc _).keeps hk' (fun i hi ⟨a,ha,hb⟩=>by
     have:=World.ownsRow.lt hown a.block (by subst ha;rfl);omega)
    clear hown hk';go_wp2
    go_roundw
    case rel=>exact⟨k+1,by omega,by go_num,⟨_,_,rfl,by rw[List.replicate_succ'];exact hown'⟩,hnew'⟩
    case measure=>simp[intOf];omega
  ·obtain rfl:k=n:=by omega
   go_wp2
   go_ret
   exact⟨_,_,rfl,by unfold bp;simpa using hown,hnew⟩
end Go.Proofs.YtnedmonlofbahaaGreatDoor
namespace Go.Proofs.YtnedmonlofbahaaGreatDoor
open Go Go.RowKit
set_option linter.all false
theorem jW (ao:Option Addr) (c:Nat) (xs:List Int) (w:World) (hx:am w ao (Is xs)) (hn:xs.length<=64):
  Calls Tryz.prog 143 #[.slice ao xs.length c] w fun e w'=>∃ao' c',e= .returned (.slice ao' xs.length c')∧bp w' w.heap.size ao' c' xs∧New w w':=by
 obtain⟨i0,hi,hz0,hz1,hz2⟩:=info_parts Tryz.infoInt;have hx2:∀o,am (w.alloc o) ao (Is xs):=fun o=>hx.new (Keeps.alloc w o)
 go_enter Tryz.func143,Tryz.ntmps143;go_wp2_with ((at_builtin;refine bB rfl _ _ 61 rfl w.heap.size 3 i0 (.int .i64 0) 1 8 Tryz.underlying61 hi hz0 hz1 hz2 rfl (by decide) _ 0 0 [] rfl ?cc ao xs.length c (Is xs) rfl ?c00 ?c0 ?c1 ?c2 ?c3 ?c4 ?c5));case cc=>exact World.ownsRow_made (size:=1) _ #[] 0 (Nat.le_refl _) (by decide) (by simp)
 case c00=>simp
 case c0=>exact hx2 _
 case c1=>exact fu _ _
 case c2=>unfold maxLen;omega
 case c3=>omega
 case c4=>simp
 case c5=>
  intro ao' c' w' hown' hk' hmv _;go_wp2
  go_ret
  refine⟨ao',c',by simp,by unfold bp;simpa using hown',(New.refl w).trans (Keeps.trans (Keeps.alloc w _) hk' (fun i hi ⟨a,ha,hb⟩=>?_))⟩;simp only[Option.some.injEq] at ha;subst ha;simp at hb;omega
set_option maxHeartbeats 400000 in
theorem pb (n:Nat) (r:Int) (w:World) (hn:n<=64):
  Calls Tryz.prog 144 #[I n,I r] w fun e w'=>∃ao c,e= .returned (.slice ao n c)∧bp w' w.heap.size ao c (List.replicate n r)∧New w w':=by
 obtain⟨i0,hi,hz0,hz1,hz2⟩:=info_parts Tryz.infoInt;go_enter Tryz.func144,Tryz.ntmps144;go_wp2_with (at_make;refine wpList_make_full _ rfl _ _ 61 rfl w.heap.size 3 i0 (.int .i64 0) 1 Tryz.underlying61 hi hz0 hz1 _ _ _ _ n rfl rfl rfl rfl ?b1 ?b2 ?b3 ?b4);case b1=>rw[hz2];omega
 case b2=>unfold maxLen;omega
 case b3=>simp
 case b4=>
  intro w1 hown hg;rw[toList_madeCells_one] at hown;have hnew:New w w1:=Keeps.grown hg (fun k h=>by cases h);go_wp2
  go_loopw [11] (fun i wr=>∃k:Nat,k<=n∧i= .int .i64 k∧wr.ownsRow w.heap.size 3 1 (.slice (some ⟨w.heap.size,0,none⟩) n n) n (List.replicate k (I r)++List.replicate (n-k) (I 0))∧New w wr) (fun i _=>n-(intOf i).toNat)
  case atStart=>exact⟨0,Nat.zero_le _,rfl,by simpa using hown,hnew⟩
  case round=>
   clear hown hnew hg;obtain⟨k,hk,rfl,hown,hnew⟩:=hrel;by_cases hkn:k<n
   ·have hcell:wr.cell? ⟨w.heap.size,k,none⟩=some (I 0):=by
     rw[hown.cellAt k (by omega)];simp[List.getElem?_append];rw[List.getElem?_replicate,if_pos (by omega)]
    have hfz:=hown.frozenAt k;have hst:=hown.stored k (I r);go_wp2
    go_roundw
    case rel=>
     refine⟨k+1,by omega,by go_num,?_,hnew.setCell (by simp) _⟩;have e:(List.replicate k (I r)++List.replicate (n-k) (I 0)).set k (I r)=List.replicate (k+1) (I r)++List.replicate (n-(k+1)) (I 0):=by
      rw[List.set_append_right _ _ (by simp)];obtain⟨m,hm⟩:∃m,n-k=m+1:=⟨n-k-1,by omega⟩
      have hm':n-(k+1)=m:=by omega
      rw[hm,hm',List.replicate_succ (n:=m),List.replicate_succ' (n:=k)];simp
     rw[<-e];exact hst.1
    case measure=>simp[intOf];omega
   ·obtain rfl:k=n:=by omega
    go_wp2
    go_ret
    exact⟨_,_,rfl,by unfold bp;simpa using hown,hnew⟩
theorem fV {a b:Bool} (h:a=b):Ending.returned (.bool a)= .returned (.bool b):=by rw[h]
def dJ (ps:List Int) (most:Int):Bool:=match ps with
 |[n]=>decide (1<=n∧n<=most)
 |_=>false
theorem uz (ao:Option Addr) (c:Nat) (ps:List Int) (m:Int) (w:World) (hx:am w ao (Is ps)) (hl:ps.length<=9223372036854775807):
  Calls Tryz.prog 162 #[.slice ao ps.length c,I m] w fun e w'=>e= .returned (.bool (dJ ps m))∧w'=w:=by
 by_cases h1:ps.length=1
 ·match ps,h1 with
  |[n],_=>
   obtain⟨b,off,rfl,hc⟩:=aT hx (i:=0) (by simp);simp only[Nat.add_zero,List.getElem_cons_zero] at hc;by_cases h2:1<=n
   ·by_cases h3:n<=m
    all_goals
     go_enter Tryz.func162,Tryz.ntmps162;go_wp2
     go_ret
     exact⟨by simp[dJ,h2,h3];try omega,rfl⟩
   ·go_enter Tryz.func162,Tryz.ntmps162;go_wp2
    go_ret
    exact⟨by simp[dJ];omega,rfl⟩
 ·have h1':((ps.length:Int)==1)=false:=by simp;omega
  have e:dJ ps m=false:=by
   match ps,h1 with
   |[],_=>rfl
   |_::_::_,_=>rfl
  go_enter Tryz.func162,Tryz.ntmps162;have E:=Lib.hid e;clear e;go_wp2
  go_ret
  exact⟨fV E.out.symm,rfl⟩
def br (ps:List Int):Bool:=match ps with
 |[n,m]=>decide (1<=n∧n<=16∧1<=m∧m<=64∧n*m<=64)
 |_=>false
theorem uR (ao:Option Addr) (c:Nat) (ps:List Int) (w:World) (hx:am w ao (Is ps)) (hl:ps.length<=9223372036854775807):
  Calls Tryz.prog 163 #[.slice ao ps.length c] w fun e w'=>e= .returned (.bool (br ps))∧∃n,w'=w.drewN n:=by
 by_cases h1:ps.length=2
 ·match ps,h1 with
  |[n,m],_=>
   obtain⟨b,off,rfl,hc⟩:=aT hx (i:=0) (by simp);obtain⟨b',off',e,hc'⟩:=aT hx (i:=1) (by simp);simp only[Option.some.injEq,Addr.mk.injEq,and_true] at e;obtain⟨rfl,rfl⟩:=e;simp only[Nat.add_zero,List.getElem_cons_zero,List.getElem_cons_succ] at hc hc';by_cases h2:1<=n∧n<=16∧1<=m∧m<=64
   ·obtain⟨h21,h22,h23,h24⟩:=h2;have hb1:1<=n*m:=by have:=Int.mul_le_mul h21 h23 (by omega) (by omega);simpa using this
    have hb2:n*m<=1024:=by have:=Int.mul_le_mul h22 h24 (by omega) (by omega);simpa using this
    by_cases h3:n*m<=64
    all_goals
     go_enter Tryz.func163,Tryz.ntmps163;go_wp2
     go_quiet (fail)
     go_wp2
     go_ret
     exact⟨by simp[br,h21,h22,h23,h24,h3];try omega,_,rfl⟩
   ·have e2:br [n,m]=false:=by simp[br];omega
    have E2:=Lib.hid e2;clear e2;go_enter Tryz.func163,Tryz.ntmps163;go_wp2
    all_goals
     go_ret
     exact⟨fV E2.out.symm,0,rfl⟩
 ·have h1':((ps.length:Int) != 2)=true:=by simp;omega
  have e:br ps=false:=by
   match ps,h1 with
   |[],_=>rfl
   |[_],_=>rfl
   |_::_::_::_,_=>rfl
  go_enter Tryz.func163,Tryz.ntmps163;have E:=Lib.hid e;clear e;go_wp2
  go_ret
  exact⟨fV E.out.symm,0,rfl⟩
def aQ (tag:Int) (ps:List Int):Bool:=
 if tag=1 then decide (1<=ps.length∧ps.length<=16)
 else if tag=2∨tag=3∨tag=11 then dJ ps 64
 else if tag=4∨tag=5 then br ps
 else if tag=6∨tag=9 then dJ ps 16
 else if tag=10 then decide (ps.length=2)
 else decide (ps.length=0)
theorem dl (tag:Int) (ao:Option Addr) (c:Nat) (ps:List Int) (w:World) (h1:1<=tag) (h2:tag<=11) (hx:am w ao (Is ps)) (hl:ps.length<=9223372036854775807):
  Calls Tryz.prog 152 #[.int .u8 tag,.slice ao ps.length c] w fun e w'=>e= .returned (.bool (aQ tag ps))∧∃n,w'=w.drewN n:=by
 have hc:tag=1∨tag=2∨tag=3∨tag=4∨tag=5∨tag=6∨tag=7∨tag=8∨tag=9∨tag=10∨tag=11:=by omega
 clear h1 h2;rcases hc with rfl|rfl|rfl|rfl|rfl|rfl|rfl|rfl|rfl|rfl|rfl
 all_goals
  go_enter Tryz.func152,Tryz.ntmps152;go_wp2_with (first
   |(go_at_call 162;refine(uz _ _ _ _ _ hx hl).mono ?_;rintro e w' ⟨rfl,rfl⟩)
   |(go_at_call 163;refine(uR _ _ _ _ hx hl).mono ?_;rintro e w' ⟨rfl,n,rfl⟩))
 all_goals go_ret
 all_goals first
  |(refine⟨fV ?_,0,rfl⟩;first|rfl|(simp[aQ];done)|(simp[aQ];omega))
  |(refine⟨fV ?_,_,rfl⟩;first|rfl|(simp[aQ];done))
  |(refine⟨fV ?_,0,rfl⟩;rw[Bool.eq_iff_iff];simp[aQ];omega)
  |(refine⟨fV ?_,0,rfl⟩;rw[Bool.eq_iff_iff];simp[aQ];done)
end Go.Proofs.YtnedmonlofbahaaGreatDoor
namespace Go.Proofs.YtnedmonlofbahaaGreatDoor
open Go Go.RowKit
set_option linter.all false
theorem cD (n:Int) (r:Int) (w:World) (hn:0<=n∧n<=64):
  Calls Tryz.prog 153 #[I n,I r] w fun e w'=>∃ao c,e= .returned (.slice ao n.toNat c)∧bp w' w.heap.size ao c (List.replicate n.toNat r)∧New w w':=by
 obtain⟨k,rfl⟩:=Int.eq_ofNat_of_zero_le hn.1;exact mt k r w (by omega)
def dg (tag:Int) (ps:List Int):List Int×List Int:=
 let n:=ps.getD 0 0
 let m:=ps.getD 1 0
 if tag=2 then([1],[n])
 else if tag=3 then([n],[1])
 else if tag=4 then(List.replicate n.toNat m,[n*m])
 else if tag=5 then([n*m],List.replicate n.toNat m)
 else if tag=6 then(List.replicate n.toNat 1,[1])
 else if tag=7 then([1,1],[1])
 else if tag=9 then([1],List.replicate n.toNat 1)
 else if tag=10 then([],[1])
 else if tag=11 then([n],[])
 else([1],[1])
def aj (tag:Int) (ps:List Int):Int×List Int×List Int:=
 if 1<=tag∧tag<=11 then(if aQ tag ps then(0,dg tag ps) else(61,[],[])) else(60,[],[])
def av (w:World) (r:Int×List Int×List Int) (e:Ending) (w':World):Prop:=
 ∃a ca b cb,e= .returned (.tuple #[.slice a r.2.1.length ca,.slice b r.2.2.length cb,I r.1])∧bp w' w.heap.size a ca r.2.1∧bp w' w.heap.size b cb r.2.2∧
  (∀x y,a=some x->b=some y->x.block≠y.block)∧New w w'
theorem bp.nil (w:World) (B:Nat):bp w B Option.none 0 []:=World.ownsRow_nil _ _ _ _
theorem av.none (w w':World) (k:Int) (h:New w w'):av w (k,[],[]) (.returned (.tuple #[.slice none 0 0,.slice none 0 0,I k])) w':=
 ⟨Option.none,0,Option.none,0,rfl,World.ownsRow_nil _ _ _ _,World.ownsRow_nil _ _ _ _,(fun x y h=>by cases h),h⟩
theorem av.mk {w w0 w1 w2:World} {a b:Option Addr} {ca cb na nb:Nat} {xs ys xs' ys':List Int} (h0:New w w0) (ha:bp w1 w0.heap.size a ca xs) (h1:New w0 w1) (hb:bp w2 w1.heap.size b cb ys) (h2:New w1 w2)
  (hxs:xs=xs'∧na=xs'.length) (hys:ys=ys'∧nb=ys'.length):
  av w (0,xs',ys') (.returned (.tuple #[.slice a na ca,.slice b nb cb,I 0])) w2:=by
 obtain⟨rfl,rfl⟩:=hxs;obtain⟨rfl,rfl⟩:=hys;have s0:=h0.size;have s1:=h1.size;exact⟨a,ca,b,cb,rfl,dD (ha.new h2) (fun k hk=>by have:=World.ownsRow.lt ha k hk;omega),dD hb (fun k hk=>by have:=World.ownsRow.lt hb k hk;omega),
  (fun x y hx hy=>by have:=ha.lt x hx;have:=hb.lt y hy;omega),(h0.trans h1).trans h2⟩
theorem av.fst {w w0 w1:World} {a:Option Addr} {ca na:Nat} {xs xs':List Int} (h0:New w w0) (ha:bp w1 w0.heap.size a ca xs) (h1:New w0 w1) (hxs:xs=xs'∧na=xs'.length):
  av w (0,xs',[]) (.returned (.tuple #[.slice a na ca,.slice Option.none 0 0,I 0])) w1:=
 av.mk h0 ha h1 (bp.nil _ _) (New.refl w1) hxs ⟨rfl,rfl⟩
theorem av.snd {w w0 w1:World} {a:Option Addr} {ca na:Nat} {xs xs':List Int} (h0:New w w0) (ha:bp w1 w0.heap.size a ca xs) (h1:New w0 w1) (hxs:xs=xs'∧na=xs'.length):
  av w (0,[],xs') (.returned (.tuple #[.slice Option.none 0 0,.slice a na ca,I 0])) w1:=
 av.mk h0 (bp.nil _ _) (New.refl w0) ha h1 ⟨rfl,rfl⟩ hxs
set_option maxHeartbeats 1000000 in
theorem uD (tag:Int) (ao:Option Addr) (c:Nat) (n:Int) (w:World) (ht:tag=2) (hx:am w ao (Is [n])) (hn:1<=n) (hn2:n<=64):
  Calls Tryz.prog 134 #[.int .u8 tag,.slice ao ([n]:List Int).length c] w (av w (0,[1],[n])):=by
 have hg:aQ 2 [n]=true:=by simp[aQ,dJ,hn,hn2]
 subst ht;obtain⟨b,off,rfl,hc⟩:=aT hx (i:=0) (by simp);simp only[Nat.add_zero,List.getElem_cons_zero] at hc;go_enter Tryz.func134,Tryz.ntmps134;go_wp2_with (go_at_call 152;refine(dl _ _ _ [n] _ (by omega) (by omega) hx (by first|omega|simp)).mono ?_;rw[hg];rintro e w' ⟨rfl,nq,rfl⟩);go_region_held3 (fun w'=>w'.cell? ⟨b,off,none⟩=some (.int .i64 n))
  (first|exact hc|assumption)
  (first|(go_at_call 153;refine(cD _ _ _ (by omega)).mono ?_;rintro e w' ⟨ao',c',rfl,hown',hnew'⟩;have hc2:w'.cell? ⟨b,off,none⟩=some (I n):=(by first|exact hnew'.cell hc|exact hnew'.cell (by assumption))))
 all_goals
  go_wp2
  go_ret3
  exact av.mk (Keeps.drewN w _) (by assumption) (by assumption) hown' hnew' (by simp) (by simp)
set_option maxHeartbeats 1000000 in
theorem uE (tag:Int) (ao:Option Addr) (c:Nat) (n:Int) (w:World) (ht:tag=3) (hx:am w ao (Is [n])) (hn:1<=n) (hn2:n<=64):
  Calls Tryz.prog 134 #[.int .u8 tag,.slice ao ([n]:List Int).length c] w (av w (0,[n],[1])):=by
 have hg:aQ 3 [n]=true:=by simp[aQ,dJ,hn,hn2]
 subst ht;obtain⟨b,off,rfl,hc⟩:=aT hx (i:=0) (by simp);simp only[Nat.add_zero,List.getElem_cons_zero] at hc;go_enter Tryz.func134,Tryz.ntmps134;go_wp2_with (first|(go_at_call 152;refine(dl _ _ _ [n] _ (by omega) (by omega) hx (by first|omega|simp)).mono ?_;rw[hg];rintro e w' ⟨rfl,nq,rfl⟩)|(go_at_call 153;refine(cD _ _ _ (by omega)).mono ?_;rintro e w' ⟨ao',c',rfl,hown',hnew'⟩;have hc2:w'.cell? ⟨b,off,none⟩=some (I n):=(by first|exact hnew'.cell hc|exact hnew'.cell (by assumption))));all_goals
  go_ret3
  exact av.mk (Keeps.drewN w _) (by assumption) (by assumption) hown' hnew' (by simp) (by simp)
set_option maxHeartbeats 1000000 in
theorem uF (tag:Int) (ao:Option Addr) (c:Nat) (n m:Int) (w:World) (ht:tag=4) (hx:am w ao (Is [n,m])) (hn:1<=n) (hn2:n<=16) (hm:1<=m) (hm2:m<=64) (hp1:1<=n*m) (hp:n*m<=64):
  Calls Tryz.prog 134 #[.int .u8 tag,.slice ao ([n,m]:List Int).length c] w (av w (0,List.replicate n.toNat m,[n*m])):=by
 have hg:aQ 4 [n,m]=true:=by simp[aQ,br,hn,hn2,hm,hm2,hp]
 subst ht;obtain⟨b,off,rfl,hc⟩:=aT hx (i:=0) (by simp);obtain⟨b',off',e,hd⟩:=aT hx (i:=1) (by simp);simp only[Option.some.injEq,Addr.mk.injEq,and_true] at e;obtain⟨rfl,rfl⟩:=e;simp only[List.getElem_cons_zero,List.getElem_cons_succ] at hd;simp only[Nat.add_zero,List.getElem_cons_zero] at hc;go_enter Tryz.func134,Tryz.ntmps134;have hwr:IntKind.i64.wrap (n*m)=n*m:=IntWalk.i64_in _ (by omega);go_wp2_with (go_at_call 152;refine(dl _ _ _ [n,m] _ (by omega) (by omega) hx (by first|omega|simp)).mono ?_;rw[hg];rintro e w' ⟨rfl,nq,rfl⟩);go_region_held3 (fun w'=>w'.cell? ⟨b,off,none⟩=some (.int .i64 n)∧w'.cell? ⟨b,off+1,none⟩=some (.int .i64 m))
  (first|exact⟨hc,hd⟩|exact⟨by assumption,by assumption⟩)
  (first|(go_at_call 153;refine(cD _ _ _ (by omega)).mono ?_;rintro e w' ⟨ao',c',rfl,hown',hnew'⟩;have hc2:w'.cell? ⟨b,off,none⟩=some (I n):=(by first|exact hnew'.cell hc|exact hnew'.cell (by assumption));have hd2:w'.cell? ⟨b,off+1,none⟩=some (I m):=(by first|exact hnew'.cell hd|exact hnew'.cell (by assumption))))
 all_goals
  go_wp2
  go_ret3
  exact av.mk (Keeps.drewN w _) (by assumption) (by assumption) hown' hnew' (by simp) (by simp)
set_option maxHeartbeats 1000000 in
theorem uG (tag:Int) (ao:Option Addr) (c:Nat) (n m:Int) (w:World) (ht:tag=5) (hx:am w ao (Is [n,m])) (hn:1<=n) (hn2:n<=16) (hm:1<=m) (hm2:m<=64) (hp1:1<=n*m) (hp:n*m<=64):
  Calls Tryz.prog 134 #[.int .u8 tag,.slice ao ([n,m]:List Int).length c] w (av w (0,[n*m],List.replicate n.toNat m)):=by
 have hg:aQ 5 [n,m]=true:=by simp[aQ,br,hn,hn2,hm,hm2,hp]
 subst ht;obtain⟨b,off,rfl,hc⟩:=aT hx (i:=0) (by simp);obtain⟨b',off',e,hd⟩:=aT hx (i:=1) (by simp);simp only[Option.some.injEq,Addr.mk.injEq,and_true] at e;obtain⟨rfl,rfl⟩:=e;simp only[List.getElem_cons_zero,List.getElem_cons_succ] at hd;simp only[Nat.add_zero,List.getElem_cons_zero] at hc;go_enter Tryz.func134,Tryz.ntmps134;have hwr:IntKind.i64.wrap (n*m)=n*m:=IntWalk.i64_in _ (by omega);go_wp2_with (go_at_call 152;refine(dl _ _ _ [n,m] _ (by omega) (by omega) hx (by first|omega|simp)).mono ?_;rw[hg];rintro e w' ⟨rfl,nq,rfl⟩);go_region_held3 (fun w'=>w'.cell? ⟨b,off,none⟩=some (.int .i64 n)∧w'.cell? ⟨b,off+1,none⟩=some (.int .i64 m))
  (first|exact⟨hc,hd⟩|exact⟨by assumption,by assumption⟩)
  (first|(go_at_call 153;refine(cD _ _ _ (by omega)).mono ?_;rintro e w' ⟨ao',c',rfl,hown',hnew'⟩;have hc2:w'.cell? ⟨b,off,none⟩=some (I n):=(by first|exact hnew'.cell hc|exact hnew'.cell (by assumption));have hd2:w'.cell? ⟨b,off+1,none⟩=some (I m):=(by first|exact hnew'.cell hd|exact hnew'.cell (by assumption))))
 all_goals
  go_wp2
  go_ret3
  exact av.mk (Keeps.drewN w _) (by assumption) (by assumption) hown' hnew' (by simp) (by simp)
set_option maxHeartbeats 1000000 in
theorem uH (tag:Int) (ao:Option Addr) (c:Nat) (n:Int) (w:World) (ht:tag=6) (hx:am w ao (Is [n])) (hn:1<=n) (hn2:n<=16):
  Calls Tryz.prog 134 #[.int .u8 tag,.slice ao ([n]:List Int).length c] w (av w (0,List.replicate n.toNat 1,[1])):=by
 have hg:aQ 6 [n]=true:=by simp[aQ,dJ,hn,hn2]
 subst ht;obtain⟨b,off,rfl,hc⟩:=aT hx (i:=0) (by simp);simp only[Nat.add_zero,List.getElem_cons_zero] at hc;go_enter Tryz.func134,Tryz.ntmps134;go_wp2_with (first|(go_at_call 152;refine(dl _ _ _ [n] _ (by omega) (by omega) hx (by first|omega|simp)).mono ?_;rw[hg];rintro e w' ⟨rfl,nq,rfl⟩)|(go_at_call 153;refine(cD _ _ _ (by omega)).mono ?_;rintro e w' ⟨ao',c',rfl,hown',hnew'⟩;have hc2:w'.cell? ⟨b,off,none⟩=some (I n):=(by first|exact hnew'.cell hc|exact hnew'.cell (by assumption))));all_goals
  go_ret3
  exact av.mk (Keeps.drewN w _) (by assumption) (by assumption) hown' hnew' (by simp) (by simp)
set_option maxHeartbeats 1000000 in
theorem uK (tag:Int) (ao:Option Addr) (c:Nat) (n:Int) (w:World) (ht:tag=9) (hx:am w ao (Is [n])) (hn:1<=n) (hn2:n<=16):
  Calls Tryz.prog 134 #[.int .u8 tag,.slice ao ([n]:List Int).length c] w (av w (0,[1],List.replicate n.toNat 1)):=by
 have hg:aQ 9 [n]=true:=by simp[aQ,dJ,hn,hn2]
 subst ht;obtain⟨b,off,rfl,hc⟩:=aT hx (i:=0) (by simp);simp only[Nat.add_zero,List.getElem_cons_zero] at hc;go_enter Tryz.func134,Tryz.ntmps134;go_wp2_with (go_at_call 152;refine(dl _ _ _ [n] _ (by omega) (by omega) hx (by first|omega|simp)).mono ?_;rw[hg];rintro e w' ⟨rfl,nq,rfl⟩);go_region_held3 (fun w'=>w'.cell? ⟨b,off,none⟩=some (.int .i64 n))
  (first|exact hc|assumption)
  (first|(go_at_call 153;refine(cD _ _ _ (by omega)).mono ?_;rintro e w' ⟨ao',c',rfl,hown',hnew'⟩;have hc2:w'.cell? ⟨b,off,none⟩=some (I n):=(by first|exact hnew'.cell hc|exact hnew'.cell (by assumption))))
 all_goals
  go_wp2
  go_ret3
  exact av.mk (Keeps.drewN w _) (by assumption) (by assumption) hown' hnew' (by simp) (by simp)
set_option maxHeartbeats 1000000 in
theorem sV (tag:Int) (ao:Option Addr) (c:Nat) (n:Int) (w:World) (ht:tag=11) (hx:am w ao (Is [n])) (hn:1<=n) (hn2:n<=64):
  Calls Tryz.prog 134 #[.int .u8 tag,.slice ao ([n]:List Int).length c] w (av w (0,[n],[])):=by
 have hg:aQ 11 [n]=true:=by simp[aQ,dJ,hn,hn2]
 subst ht;obtain⟨b,off,rfl,hc⟩:=aT hx (i:=0) (by simp);simp only[Nat.add_zero,List.getElem_cons_zero] at hc;go_enter Tryz.func134,Tryz.ntmps134;go_wp2_with (first|(go_at_call 152;refine(dl _ _ _ [n] _ (by omega) (by omega) hx (by first|omega|simp)).mono ?_;rw[hg];rintro e w' ⟨rfl,nq,rfl⟩)|(go_at_call 153;refine(cD _ _ _ (by omega)).mono ?_;rintro e w' ⟨ao',c',rfl,hown',hnew'⟩;have hc2:w'.cell? ⟨b,off,none⟩=some (I n):=(by first|exact hnew'.cell hc|exact hnew'.cell (by assumption))));all_goals
  go_ret3
  exact av.fst (Keeps.drewN w _) hown' hnew' (by simp)
set_option maxHeartbeats 1000000 in
theorem uI (tag:Int) (ao:Option Addr) (c:Nat) (w:World) (ht:tag=7) (hx:am w ao (Is [])):
  Calls Tryz.prog 134 #[.int .u8 tag,.slice ao ([]:List Int).length c] w (av w (0,[1,1],[1])):=by
 have hg:aQ 7 []=true:=by rfl
 subst ht;go_enter Tryz.func134,Tryz.ntmps134;go_wp2_with (first|(go_at_call 152;refine(dl _ _ _ [] _ (by omega) (by omega) hx (by first|omega|simp)).mono ?_;rw[hg];rintro e w' ⟨rfl,nq,rfl⟩)|(go_at_call 153;refine(cD _ _ _ (by omega)).mono ?_;rintro e w' ⟨ao',c',rfl,hown',hnew'⟩));all_goals
  go_ret3
  exact av.mk (Keeps.drewN w _) (by assumption) (by assumption) hown' hnew' (by simp) (by simp)
set_option maxHeartbeats 1000000 in
theorem uJ (tag:Int) (ao:Option Addr) (c:Nat) (w:World) (ht:tag=8) (hx:am w ao (Is [])):
  Calls Tryz.prog 134 #[.int .u8 tag,.slice ao ([]:List Int).length c] w (av w (0,[1],[1])):=by
 have hg:aQ 8 []=true:=by rfl
 subst ht;go_enter Tryz.func134,Tryz.ntmps134;go_wp2_with (first|(go_at_call 152;refine(dl _ _ _ [] _ (by omega) (by omega) hx (by first|omega|simp)).mono ?_;rw[hg];rintro e w' ⟨rfl,nq,rfl⟩)|(go_at_call 153;refine(cD _ _ _ (by omega)).mono ?_;rintro e w' ⟨ao',c',rfl,hown',hnew'⟩));all_goals
  go_ret3
  exact av.mk (Keeps.drewN w _) (by assumption) (by assumption) hown' hnew' (by simp) (by simp)
set_option maxHeartbeats 1000000 in
theorem uC (tag:Int) (ao:Option Addr) (c:Nat) (ps:List Int) (w:World) (ht:tag=1) (hx:am w ao (Is ps)) (hl1:1<=ps.length) (hl2:ps.length<=16):
  Calls Tryz.prog 134 #[.int .u8 tag,.slice ao (ps:List Int).length c] w (av w (0,[1],[1])):=by
 have hg:aQ 1 ps=true:=by simp[aQ,hl1,hl2]
 subst ht;go_enter Tryz.func134,Tryz.ntmps134;go_wp2_with (first|(go_at_call 152;refine(dl _ _ _ ps _ (by omega) (by omega) hx (by first|omega|simp)).mono ?_;rw[hg];rintro e w' ⟨rfl,nq,rfl⟩)|(go_at_call 153;refine(cD _ _ _ (by omega)).mono ?_;rintro e w' ⟨ao',c',rfl,hown',hnew'⟩));all_goals
  go_ret3
  exact av.mk (Keeps.drewN w _) (by assumption) (by assumption) hown' hnew' (by simp) (by simp)
set_option maxHeartbeats 1000000 in
theorem sU (tag:Int) (ao:Option Addr) (c:Nat) (ps:List Int) (w:World) (ht:tag=10) (hx:am w ao (Is ps)) (hl1:2<=ps.length) (hl2:ps.length<=2):
  Calls Tryz.prog 134 #[.int .u8 tag,.slice ao (ps:List Int).length c] w (av w (0,[],[1])):=by
 have hg:aQ 10 ps=true:=by simp[aQ];omega
 subst ht;go_enter Tryz.func134,Tryz.ntmps134;go_wp2_with (first|(go_at_call 152;refine(dl _ _ _ ps _ (by omega) (by omega) hx (by first|omega|simp)).mono ?_;rw[hg];rintro e w' ⟨rfl,nq,rfl⟩)|(go_at_call 153;refine(cD _ _ _ (by omega)).mono ?_;rintro e w' ⟨ao',c',rfl,hown',hnew'⟩));all_goals
  go_ret3
  exact av.snd (Keeps.drewN w _) hown' hnew' (by simp)
end Go.Proofs.YtnedmonlofbahaaGreatDoor
namespace Go.Proofs.YtnedmonlofbahaaGreatDoor
open Go
set_option linter.all false
structure GAct where
 name:ByteArray
 tag:Int
 a:Option Addr
 c:Nat
 xs:List Int
structure GEdge where
 f:Int
 fp:Int
 t:Int
 tp:Int
 a:Option Addr
 c:Nat
 xs:List Int
structure GPort where
 name:ByteArray
 ac:Int
 po:Int
structure Gr where
 name:ByteArray
 aa:Option Addr
 ac:Nat
 acts:List GAct
 ea:Option Addr
 ec:Nat
 edges:List GEdge
 ia:Option Addr
 ic:Nat
 ins:List GPort
 oa:Option Addr
 oc:Nat
 outs:List GPort
def bc (b:Int):Bool:=decide (97<=b∧b<=122)
def bI (b:Int):Bool:=decide (48<=b∧b<=57)
def aW (b:Int):Bool:=bc b||bI b||decide (b=95)
def aC (s:ByteArray):List Int:=s.data.toList.map fun b=>(b.toNat:Int)
theorem cj (s:ByteArray):(aC s).length=s.size:=by unfold aC;rw[List.length_map,Array.length_toList];rfl
def pL (l:List Int):Bool:=match l with
 |[]=>false
 |b::r=>bc b&&(r.all aW&&decide (r.length<=15))
def aM (s:ByteArray):Bool:=pL (aC s)
def nIn (x:GAct):Nat:=(aj x.tag x.xs).2.1.length
def bS (x:GAct):Nat:=(aj x.tag x.xs).2.2.length
def aU (g:Gr) (e o:Nat) (a p:Int):Bool:=(g.edges.take e).any (fun x=>decide (x.f=a∧x.fp=p))||(g.outs.take o).any (fun x=>decide (x.ac=a∧x.po=p))
def bG (g:Gr) (e i:Nat) (a p:Int):Bool:=(g.edges.take e).any (fun x=>decide (x.t=a∧x.tp=p))||(g.ins.take i).any (fun x=>decide (x.ac=a∧x.po=p))
def cN (g:Gr) (n:GAct->Nat) (tk:Bool) (a p:Int):Int:=
 if h:0<=a∧a<g.acts.length then(if 0<=p∧p<n (g.acts[a.toNat]'(by omega)) then(if tk then 86 else 0) else 85) else 84
def aq (g:Gr) (a i o:Nat):List ByteArray:=(g.acts.take a).map (·.name)++((g.ins.take i).map (·.name)++(g.outs.take o).map (·.name))
def cq (l:List ByteArray) (s:ByteArray):Int:=if aM s=false then 82 else if l.any (fun t=>decide (aC t=aC s)) then 83 else 0
def dS (g:Gr) (i:Nat) (x:GAct):Int×Int:=if cq (aq g i 0 0) x.name≠0 then(cq (aq g i 0 0) x.name,0) else((aj x.tag x.xs).1,0)
def cB (g:Gr) (i:Nat) (x:GEdge):Int×Int:=
 if cN g bS (aU g i 0 x.f x.fp) x.f x.fp≠0 then(cN g bS (aU g i 0 x.f x.fp) x.f x.fp,1)
 else if cN g nIn (bG g i 0 x.t x.tp) x.t x.tp≠0 then(cN g nIn (bG g i 0 x.t x.tp) x.t x.tp,2)
 else if 256<x.xs.length then(88,0) else(0,0)
def inE (g:Gr) (i:Nat) (x:GPort):Int×Int:=
 if cq (aq g g.acts.length i 0) x.name≠0 then(cq (aq g g.acts.length i 0) x.name,0) else(cN g nIn (bG g g.edges.length i x.ac x.po) x.ac x.po,2)
def dW (g:Gr) (i:Nat) (x:GPort):Int×Int:=
 if cq (aq g g.acts.length g.ins.length i) x.name≠0 then(cq (aq g g.acts.length g.ins.length i) x.name,0) else(cN g bS (aU g g.edges.length i x.ac x.po) x.ac x.po,1)
def dP (g:Gr) (i:Nat) (x:GAct):Bool:=
 (List.range (nIn x)).any (fun k=> !bG g g.edges.length g.ins.length i k)||(List.range (bS x)).any (fun k=> !aU g g.edges.length g.outs.length i k)
def aL {α:Type} (E:Nat->α->Int×Int):Nat->List α->Option (Nat×Int×Int)
 |_,[]=>none
 |i,x::r=>if(E i x).1≠0 then some (i,E i x) else aL E (i+1) r
theorem kp {α:Type} {E:Nat->α->Int×Int} :∀(l:List α) (i k:Nat) (hk:k<l.length),(∀j (hj:j<l.length),j<k->(E (i+j) l[j]).1=0)->(E (i+k) l[k]).1≠0->aL E i l=some (i+k,E (i+k) l[k]):=by
 intro l;induction l with
 |nil=>intro i k hk;simp at hk
 |cons x r ih=>
  intro i k hk hb hh;unfold aL;cases k with
  |zero=>
   have hh':(E i x).1≠0:=hh;rw[if_pos hh'];rfl
  |succ k=>
   have h0:=hb 0 (by simp) (by omega);simp only[Nat.add_zero,List.getElem_cons_zero] at h0;rw[if_neg (fun h=>h h0)];have h1:=ih (i+1) k (by simpa using hk) (fun j hj hjk=>by
    have:=hb (j+1) (by simpa using hj) (by omega);rw[show i+1+j=i+(j+1) by omega];simpa using this) (by rw[show i+1+k=i+(k+1) by omega];simpa using hh)
   rw[h1,show i+1+k=i+(k+1) by omega];rfl
theorem dB {α:Type} {E:Nat->α->Int×Int} :∀(l:List α) (i:Nat),(∀j (hj:j<l.length),(E (i+j) l[j]).1=0)->aL E i l=none:=by
 intro l;induction l with
 |nil=>intro i _;rfl
 |cons x r ih=>
  intro i h;unfold aL;have h0:=h 0 (by simp);simp only[Nat.add_zero,List.getElem_cons_zero] at h0;rw[if_neg (fun h=>h h0)];exact ih (i+1) (fun j hj=>by
   have:=h (j+1) (by simpa using hj);rw[show i+1+j=i+(j+1) by omega];simpa using this)
def aX (g:Gr):Int×Int×Int×Int:=
 if aM g.name=false then(82,0,0,0)
 else if g.acts.length=0 then(80,0,0,0)
 else if 32<g.acts.length then(81,1,32,0)
 else if 96<g.edges.length then(81,2,96,0)
 else if 16<g.ins.length then(81,3,16,0)
 else if 16<g.outs.length then(81,4,16,0)
 else match aL (dS g) 0 g.acts with
  |some (i,e,_)=>(e,1,i,0)
  |none=>match aL (cB g) 0 g.edges with
   |some (i,e,d)=>(e,2,i,d)
   |none=>match aL (inE g) 0 g.ins with
    |some (i,e,d)=>(e,3,i,d)
    |none=>match aL (dW g) 0 g.outs with
     |some (i,e,d)=>(e,4,i,d)
     |none=>match aL (fun i x=>(if dP g i x then 87 else 0,0)) 0 g.acts with
      |some (i,e,_)=>(e,1,i,0)
      |none=>(0,0,0,0)
end Go.Proofs.YtnedmonlofbahaaGreatDoor
namespace Go.Proofs.YtnedmonlofbahaaGreatDoor
open Go Go.RowKit
set_option linter.all false
structure Tab (w:World) (et ei B L m:Nat) (A:Nat->Option Addr) (N C:Nat->Nat) (X:Nat->List Value):Prop where
 tab:w.ownsRow B et 1 (.slice (some ⟨L,0,none⟩) m m) m ((List.range m).map fun j=> .slice (A j) (N j) (C j))
 row:∀j,j<m->w.ownsRow B ei 1 (.slice (A j) (N j) (C j)) (N j) (X j)
 dis:∀i j,i<m->j<m->i≠j->∀k,blk (A i) k->¬blk (A j) k
 off:∀j,j<m->∀k,blk (A j) k->k≠L
def ua (L m:Nat) (A:Nat->Option Addr) (k:Nat):Prop:=k=L∨∃j,j<m∧blk (A j) k
theorem bH {a:Option Addr} {n c x:Nat} (h:(Value.slice a n c).ownBlock=some x):blk a x:=by
 cases a with
 |none=>simp[Value.ownBlock] at h
 |some a=>simp[Value.ownBlock] at h;exact⟨a,rfl,h⟩
theorem an {w:World} {B e size n c:Nat} {a:Option Addr} {xs:List Value} (h:w.ownsRow B e size (.slice a n c) n xs) {k:Nat} (hk:blk a k):B<=k∧k<w.heap.size:=by
 obtain⟨x,rfl,rfl⟩:=hk;exact World.ownsRow.lt h x.block rfl
theorem Tab.keeps {S:Nat->Prop} {w w':World} {et ei B L m:Nat} {A:Nat->Option Addr} {N C:Nat->Nat} {X:Nat->List Value} (h:Tab w et ei B L m A N C X) (k:Keeps S w w') (hS:∀x,ua L m A x->¬S x):Tab w' et ei B L m A N C X:=
 ⟨k.owns h.tab (fun x hx=>hS x (by simp[Value.ownBlock] at hx;exact .inl hx.symm)),fun j hj=>k.owns (h.row j hj) (fun x hx=>hS x (.inr ⟨j,hj,bH hx⟩)),h.dis,h.off⟩
theorem Tab.lt {w:World} {et ei B L m:Nat} {A:Nat->Option Addr} {N C:Nat->Nat} {X:Nat->List Value} (h:Tab w et ei B L m A N C X) {k:Nat} (hk:ua L m A k):B<=k∧k<w.heap.size:=by
 rcases hk with rfl|⟨j,hj,hb⟩
 ·exact World.ownsRow.lt h.tab _ rfl
 ·exact an (h.row j hj) hb
theorem Tab.made {w:World} {et ei B L m:Nat} (h:w.ownsRow B et 1 (.slice (some ⟨L,0,none⟩) m m) m (List.replicate m (.slice none 0 0))):Tab w et ei B L m (fun _=>none) (fun _=>0) (fun _=>0) (fun _=>[]):=by
 refine⟨?_,fun j _=>World.ownsRow_nil _ _ _ _,fun i j _ _ _ k hk=>?_,fun j _ k hk=>?_⟩
 ·have e:((List.range m).map fun _=>Value.slice none 0 0)=List.replicate m (.slice none 0 0):=by
   apply List.ext_getElem?;intro j;by_cases hj:j<m<;>simp[hj]
  rw[e];exact h
 ·obtain⟨a,ha,_⟩:=hk;cases ha
 ·obtain⟨a,ha,_⟩:=hk;cases ha
theorem Tab.cell {w:World} {et ei B L m:Nat} {A:Nat->Option Addr} {N C:Nat->Nat} {X:Nat->List Value} (h:Tab w et ei B L m A N C X) {i:Nat} (hi:i<m):
  w.cell? ⟨L,i,none⟩=some (.slice (A i) (N i) (C i))∧w.frozen? ⟨L,i,none⟩=false:=by
 refine⟨?_,h.tab.frozenAt i⟩;rw[h.tab.cellAt i (by omega)];simp[hi]
end Go.Proofs.YtnedmonlofbahaaGreatDoor
namespace Go.Proofs.YtnedmonlofbahaaGreatDoor
open Go Go.RowKit Go.ChangeShapes Go.WideShapes Go.Deep Go.Joins
set_option linter.all false
theorem ip {α:Type} {P:Nat->α->Prop} (n:Nat) (h:∀i,i<n->∃x,P i x):∃l:List α,l.length=n∧∀(i:Nat) (hi:i<l.length),P i l[i]:=by
 induction n with
 |zero=>exact⟨[],rfl,fun i hi=>by simp at hi⟩
 |succ n ih=>
  obtain⟨l,hl,hp⟩:=ih (fun i hi=>h i (by omega));obtain⟨x,hx⟩:=h n (by omega);refine⟨l++[x],by simp[hl],fun i hi=>?_⟩;by_cases hin:i<l.length
  ·rw[List.getElem_append_left hin];exact hp i hin
  ·simp at hi;obtain rfl:i=l.length:=by omega
   rw[List.getElem_append_right (by omega)];simp only[Nat.sub_self,List.getElem_cons_zero];rw[hl];exact hx
theorem jj {α:Type} (f:α->List Value) (k:Nat) (hk:∀x,(f x).length=k) (l:List α):(l.flatMap f).length=l.length*k:=by
 induction l with
 |nil=>simp
 |cons x r ih=>rw[List.flatMap_cons,List.length_append,ih,hk,List.length_cons,Nat.succ_mul];omega
theorem ml {α:Type} (f:α->List Value) (k:Nat) (hk:∀x,(f x).length=k) (l:List α):∀(i j:Nat) (hi:i<l.length),j<k->(l.flatMap f)[i*k+j]? =(f l[i])[j]? :=by
 induction l with
 |nil=>intro i j hi;simp at hi
 |cons x r ih=>
  intro i j hi hj;rw[List.flatMap_cons];cases i with
  |zero=>rw[List.getElem?_append_left (by rw[hk];omega)];simp
  |succ i=>
   rw[List.getElem?_append_right (by rw[hk,Nat.succ_mul];omega)];have e:(i+1)*k+j-(f x).length=i*k+j:=by rw[hk,Nat.succ_mul];omega
   rw[e,ih i j (by simpa using hi) hj];simp
theorem mx {α:Type} {w:World} {a:Addr} (f:α->List Value) (k:Nat) (hk:∀x,(f x).length=k) (l:List α) (h:∀(i:Nat) (hi:i<l.length) (j:Nat),j<k->w.cell? (a.add (i*k+j))=(f l[i])[j]?):am w (some a) (l.flatMap f):=by
 intro i hi;rw[jj f k hk] at hi;have hkp:0<k:=by rcases Nat.eq_zero_or_pos k with h0|h0;(subst h0;simp at hi);exact h0
 have hq:i/k<l.length:=Nat.div_lt_of_lt_mul (by rw[Nat.mul_comm];exact hi);have hr:i%k<k:=Nat.mod_lt _ hkp;have hi2:i=i/k*k+i%k:=by have:=Nat.div_add_mod i k;rw[Nat.mul_comm] at this;omega
 have h0:=h (i/k) hq (i%k) hr;rw[<-hi2] at h0;have hrl:i%k<(f l[i/k]).length:=by rw[hk];exact hr
 have hf:(f l[i/k])[i%k]? =some (f l[i/k])[i%k]:=List.getElem?_eq_getElem hrl;rw[hf] at h0;have hs:a.spot=none:=by
  have hl0:0<l.length:=Nat.lt_of_le_of_lt (Nat.zero_le _) hq;have hz:=h 0 hl0 0 hkp;have hz2:(f (l[0]'hl0))[0]? =some ((f (l[0]'hl0))[0]'(by rw[hk];exact hkp)):=List.getElem?_eq_getElem (by rw[hk];exact hkp);rw[hz2] at hz;simpa[Addr.add] using World.cell?_spot hz
 obtain⟨b,off,spot⟩:=a;simp only at hs;subst hs;refine⟨b,off,rfl,?_⟩;rw[Addr.add_lit] at h0;have hg:=ml f k hk l (i/k) (i%k) hq hr;rw[<-hi2,hf] at hg;rw[h0,List.getD_eq_getElem?_getD,hg];rfl
section
variable {H:Type} {enc:TypeId×Value->H} {P:Program} {w:World} {base:Nat} {spare:Nat->Bool} {held:Bool}
theorem eD {t e:TypeId} {fs:Array Field} {fuel:Nat} {cs:List Value} {x:DataW H×List MemPlace} (ht:P.underlying t=some (.slice e)) (he:P.underlying e=some (.struct fs))
  (hone:oneCellFields P fs=true) (hC:P.cellsOf e=fs.size) (h:DataW.trod enc P w base spare held fuel t cs=some x):
  (cs=[.slice none 0 0]∧x=(.nil,[]))∨
  ∃(a:Addr) (len cap m:Nat) (D:Nat->DataW H) (Pl:Nat->List MemPlace),cs=[.slice (some a) len cap]∧base<=a.block∧len<=cap∧cap<=maxLen∧m=(if spare a.block then cap else len)∧
   x=(.slice ((List.range len).map D) ((List.range (m-len)).map fun j=>D (len+j)),MemPlace.row a (m*fs.size)++(List.range m).flatMap Pl)∧
   ∀i,i<m->∃(ys:List (DataW H×List MemPlace)) (n:Nat),D i= .agg (ys.map (·.1))∧Pl i=ys.flatMap (·.2)∧ys.length=fs.size∧
    ∀(j:Nat) (f:Field),fs[j]? =some f->∃(v:Value) (y:DataW H×List MemPlace),w.cell? (a.add (i*fs.size+j))=some v∧ys[j]? =some y∧DataW.trod enc P w base spare held n f.type [v]=some y:=by
 rcases open_slice ht h with h0|⟨a,len,cap,m,n,D,Pl,hcs,hb,hl,hm,hmm,hx,hi⟩
 ·exact .inl h0
 ·refine .inr ⟨a,len,cap,m,D,Pl,hcs,hb,hl,hm,hmm,by rw[hC] at hx;exact hx,fun i him=>?_⟩;obtain⟨cs',hc,ht'⟩:=hi i him;rw[hC] at hc;obtain⟨ys,n',hn',hy,hlen,hyl,hf⟩:=DataW.trod_struct he ht';obtain⟨_,hcl,hat⟩:=World.cells?_some hc;simp only[Prod.mk.injEq] at hy;refine⟨ys,n',hy.1,hy.2,hyl,fun j f hj=>?_⟩;obtain⟨ho,hk⟩:=hone_of hone j f hj;have hjl:j<fs.size:=(Array.getElem?_eq_some_iff.1 hj).1;have hcell:=hat j hjl;have hv:cs'[j]? =some (cs'[j]'(by omega)):=List.getElem?_eq_getElem (by omega);have h1:=hf j f hj;rw[ho,hk] at h1;have hone':(cs'.drop j).take 1=[cs'[j]'(by omega)]:=by
   rw[List.drop_eq_getElem_cons (by omega)];rfl
  rw[hone'] at h1;have hys:ys[j]? =some (ys[j]'(by omega)):=List.getElem?_eq_getElem (by omega);refine⟨_,_,?_,hys,h1.trans hys⟩;rw[<-Go.Deep.add_add,hcell,hv]
end
end Go.Proofs.YtnedmonlofbahaaGreatDoor
namespace Go.Proofs.YtnedmonlofbahaaGreatDoor
open Go Go.RowKit Go.Joins
set_option linter.all false
theorem gt (s:ByteArray) (k:Nat) (hk:k<s.size):(aC s)[k]? =some (s[k].toNat:Int):=by
 have hk':k<(aC s).length:=by rw[cj];exact hk
 rw[List.getElem?_eq_getElem hk'];simp[aC];rfl
theorem cy (w:World) (b:Int):Calls Tryz.prog 110 #[.int .u8 b] w fun e w'=>e= .returned (.bool (bc b))∧w'=w:=by
 by_cases h1:97<=b
 ·by_cases h2:b<=122
  ·have e:bc b=true:=by unfold bc;simp[h1,h2]
   rw[e];go_enter Tryz.func110,Tryz.ntmps110;go_wp2_with fail;go_ret
   exact⟨rfl,rfl⟩
  ·have e:bc b=false:=by unfold bc;simp[h2]
   rw[e];go_enter Tryz.func110,Tryz.ntmps110;go_wp2_with fail;go_ret
   exact⟨rfl,rfl⟩
 ·have e:bc b=false:=by unfold bc;simp[h1]
  rw[e];go_enter Tryz.func110,Tryz.ntmps110;go_wp2_with fail;go_ret
  exact⟨rfl,rfl⟩
theorem cx (w:World) (b:Int):Calls Tryz.prog 129 #[.int .u8 b] w fun e w'=>e= .returned (.bool (bI b))∧w'=w:=by
 by_cases h1:48<=b
 ·by_cases h2:b<=57
  ·have e:bI b=true:=by unfold bI;simp[h1,h2]
   rw[e];go_enter Tryz.func129,Tryz.ntmps129;go_wp2_with fail;go_ret
   exact⟨rfl,rfl⟩
  ·have e:bI b=false:=by unfold bI;simp[h2]
   rw[e];go_enter Tryz.func129,Tryz.ntmps129;go_wp2_with fail;go_ret
   exact⟨rfl,rfl⟩
 ·have e:bI b=false:=by unfold bI;simp[h1]
  rw[e];go_enter Tryz.func129,Tryz.ntmps129;go_wp2_with fail;go_ret
  exact⟨rfl,rfl⟩
theorem nL (w:World) (b:Int):Calls Tryz.prog 119 #[.int .u8 b] w fun e w'=>e= .returned (.bool (bc b))∧w'=w:=by
 by_cases h1:97<=b
 ·by_cases h2:b<=122
  ·have e:bc b=true:=by unfold bc;simp[h1,h2]
   rw[e];go_enter Tryz.func119,Tryz.ntmps119;go_wp2_with fail;go_ret
   exact⟨rfl,rfl⟩
  ·have e:bc b=false:=by unfold bc;simp[h2]
   rw[e];go_enter Tryz.func119,Tryz.ntmps119;go_wp2_with fail;go_ret
   exact⟨rfl,rfl⟩
 ·have e:bc b=false:=by unfold bc;simp[h1]
  rw[e];go_enter Tryz.func119,Tryz.ntmps119;go_wp2_with fail;go_ret
  exact⟨rfl,rfl⟩
theorem sT (w:World) (b:Int):Calls Tryz.prog 131 #[.int .u8 b] w fun e w'=>e= .returned (.bool (bI b))∧w'=w:=by
 by_cases h1:48<=b
 ·by_cases h2:b<=57
  ·have e:bI b=true:=by unfold bI;simp[h1,h2]
   rw[e];go_enter Tryz.func131,Tryz.ntmps131;go_wp2_with fail;go_ret
   exact⟨rfl,rfl⟩
  ·have e:bI b=false:=by unfold bI;simp[h2]
   rw[e];go_enter Tryz.func131,Tryz.ntmps131;go_wp2_with fail;go_ret
   exact⟨rfl,rfl⟩
 ·have e:bI b=false:=by unfold bI;simp[h1]
  rw[e];go_enter Tryz.func131,Tryz.ntmps131;go_wp2_with fail;go_ret
  exact⟨rfl,rfl⟩
theorem mP (w:World) (b:Int):Calls Tryz.prog 113 #[.int .u8 b] w fun e w'=>e= .returned (.bool (aW b))∧w'=w:=by
 have hl:=cy w b;have hd:=cx w b;cases e1:bc b with
 |true=>
  rw[e1] at hl;have e:aW b=true:=by unfold aW;rw[e1];rfl
  rw[e];clear hd e1 e;go_enter Tryz.func113,Tryz.ntmps113;go_wp2_with fail;refine hl.mono ?_;rintro e w' ⟨rfl,rfl⟩;go_wp2_with fail;go_ret
  exact⟨rfl,rfl⟩
 |false=>
  rw[e1] at hl;cases e2:bI b with
  |true=>
   rw[e2] at hd;have e:aW b=true:=by unfold aW;rw[e1,e2];rfl
   rw[e];clear e1 e2 e;go_enter Tryz.func113,Tryz.ntmps113;go_wp2_with fail;refine hl.mono ?_;rintro e w' ⟨rfl,rfl⟩;go_wp2_with fail;refine hd.mono ?_;rintro e w'' ⟨rfl,rfl⟩;go_wp2_with fail;go_ret
   exact⟨rfl,rfl⟩
  |false=>
   rw[e2] at hd;have e:aW b=(b==95):=by unfold aW;rw[e1,e2];simp;rfl
   rw[e];clear e1 e2 e;go_enter Tryz.func113,Tryz.ntmps113;go_wp2_with fail;refine hl.mono ?_;rintro e w' ⟨rfl,rfl⟩;go_wp2_with fail;refine hd.mono ?_;rintro e w'' ⟨rfl,rfl⟩;go_wp2_with fail;go_ret
   exact⟨rfl,rfl⟩
theorem sW (w:World) (b:Int):Calls Tryz.prog 120 #[.int .u8 b] w fun e w'=>e= .returned (.bool (aW b))∧w'=w:=by
 have hl:=nL w b;have hd:=sT w b;cases e1:bc b with
 |true=>
  rw[e1] at hl;have e:aW b=true:=by unfold aW;rw[e1];rfl
  rw[e];clear hd e1 e;go_enter Tryz.func120,Tryz.ntmps120;go_wp2_with fail;refine hl.mono ?_;rintro e w' ⟨rfl,rfl⟩;go_wp2_with fail;go_ret
  exact⟨rfl,rfl⟩
 |false=>
  rw[e1] at hl;cases e2:bI b with
  |true=>
   rw[e2] at hd;have e:aW b=true:=by unfold aW;rw[e1,e2];rfl
   rw[e];clear e1 e2 e;go_enter Tryz.func120,Tryz.ntmps120;go_wp2_with fail;refine hl.mono ?_;rintro e w' ⟨rfl,rfl⟩;go_wp2_with fail;refine hd.mono ?_;rintro e w'' ⟨rfl,rfl⟩;go_wp2_with fail;go_ret
   exact⟨rfl,rfl⟩
  |false=>
   rw[e2] at hd;have e:aW b=(b==95):=by unfold aW;rw[e1,e2];simp;rfl
   rw[e];clear e1 e2 e;go_enter Tryz.func120,Tryz.ntmps120;go_wp2_with fail;refine hl.mono ?_;rintro e w' ⟨rfl,rfl⟩;go_wp2_with fail;refine hd.mono ?_;rintro e w'' ⟨rfl,rfl⟩;go_wp2_with fail;go_ret
   exact⟨rfl,rfl⟩
theorem kC (s:ByteArray) (h:0<s.size):aM s=(bc (s[0].toNat:Int)&&((aC s).all aW&&decide (s.size<=16))):=by
 have h0:=gt s 0 h;have hl:=cj s;unfold aM;cases hb:aC s with
 |nil=>rw[hb] at h0;simp at h0
 |cons b r=>
  rw[hb] at h0 hl;simp only[List.getElem?_cons_zero,Option.some.injEq] at h0;subst h0;simp only[pL,List.all_cons];simp only[List.length_cons] at hl;cases e:bc (s[0].toNat:Int) with
  |false=>rfl
  |true=>
   have e2:aW (s[0].toNat:Int)=true:=by unfold aW;rw[e];rfl
   rw[e2];have e3:decide (r.length<=15)=decide (s.size<=16):=by
    by_cases hx:s.size<=16
    ·rw[decide_eq_true hx,decide_eq_true (by omega)]
    ·rw[decide_eq_false hx,decide_eq_false (by omega)]
   rw[e3];simp
theorem lJ (s:ByteArray) (h:s.size=0):aM s=false:=by
 unfold aM;have:aC s=[]:=List.eq_nil_of_length_eq_zero (by rw[cj];exact h);rw[this];rfl
set_option maxRecDepth 100000 in
set_option maxHeartbeats 1000000 in
theorem dK (w:World) (s:ByteArray) (hs:s.size<=9223372036854775807):Calls Tryz.prog 80 #[.string s] w fun e w'=>e= .returned (.bool (aM s))∧New w w':=by
 by_cases h1:s.size<1
 ·rw[lJ s (by omega)];have d1:decide (s.size<1)=true:=decide_eq_true h1;go_enter Tryz.func80,Tryz.ntmps80;go_wp2_with fail;go_ret
  exact⟨rfl,New.refl _⟩
 ·have h0:0<s.size:=by omega
  rw[kC s h0];by_cases h2:16<s.size
  ·have e:decide (s.size<=16)=false:=decide_eq_false (by omega);rw[e];simp only[Bool.and_false];clear e;go_enter Tryz.func80,Tryz.ntmps80;go_wp2_with fail;go_ret
   exact⟨rfl,New.refl _⟩
  ·have e:decide (s.size<=16)=true:=decide_eq_true (by omega);rw[e,Bool.and_true];clear e;have hl:=fun W=>nL W (s[0].toNat:Int)
   cases e1:bc (s[0].toNat:Int) with
   |false=>
    rw[e1] at hl;rw[Bool.false_and];clear e1;go_enter Tryz.func80,Tryz.ntmps80;go_wp2_with fail;refine(hl _).mono ?_;rintro e w' ⟨rfl,rfl⟩;go_wp2_with fail;go_ret
    exact⟨rfl,New.refl _⟩
   |true=>
    rw[e1] at hl;rw[Bool.true_and];obtain⟨A,hA⟩:∃A,(aC s).all aW=A:=⟨_,rfl⟩
    rw[hA];have HAA:=Lib.hid hA;clear e1 hA;go_enter Tryz.func80,Tryz.ntmps80;go_wp2_with fail;refine(hl _).mono ?_;rintro e w' ⟨rfl,rfl⟩;go_wp2_with fail;go_loopw [3] (fun i wr=>∃k:Nat,k<=s.size∧i= .int .i64 k∧Hid (((aC s).take k).all aW=true)∧wr=w') (fun i _=>s.size-(intOf i).toNat)
    case atStart=>exact⟨0,by omega,rfl,Lib.hid (by simp),rfl⟩
    case round=>
     obtain⟨k,hk,rfl,HA,rfl⟩:=hrel;by_cases hk1:k<s.size
     ·have hi:=sW wr (s[k].toNat:Int);have hat:=gt s k hk1;have htk:(aC s).take (k+1)=(aC s).take k++[(s[k].toNat:Int)]:=by rw[List.take_succ,hat];rfl
      have HT:=Lib.hid htk;have hkI:(k:Int)<(s.size:Int):=by omega
      have h255:s[k].toNat<256:=s[k].toNat_lt;clear hat htk;cases e2:aW (s[k].toNat:Int) with
      |false=>
       rw[e2] at hi;have hfalse:(aC s).all aW=false:=by
        rw[<-List.take_append_drop (k+1) (aC s),List.all_append,HT.out,List.all_append];simp[e2]
       have HF:Hid (A=false):=Lib.hid (by rw[<-HAA.out];exact hfalse);clear e2 hfalse;go_wp2_with fail;refine hi.mono ?_;rintro e w' ⟨rfl,rfl⟩;go_wp2_with fail;go_ret
       exact⟨by rw[HF.out];rfl,New.refl _⟩
      |true=>
       rw[e2] at hi;have HA2:Hid (((aC s).take (k+1)).all aW=true):=Lib.hid (by rw[HT.out,List.all_append,HA.out];simp[e2]);clear e2;go_wp2_with fail;refine hi.mono ?_;rintro e w' ⟨rfl,rfl⟩;go_wp2_with fail;go_roundw
       case rel=>exact⟨k+1,by omega,by go_num,HA2,by first|rfl|trivial⟩
       case measure=>simp[intOf];omega
     ·have hall:(aC s).all aW=true:=by
       have:=HA.out
       rwa [List.take_of_length_le (by rw[cj];omega)] at this
      have HF:Hid (A=true):=Lib.hid (by rw[<-HAA.out];exact hall);clear hall;go_wp2_with fail;go_ret
      exact⟨by rw[HF.out];rfl,New.refl _⟩
end Go.Proofs.YtnedmonlofbahaaGreatDoor
namespace Go.Proofs.YtnedmonlofbahaaGreatDoor
open Go
set_option linter.all false
section
variable {P:Program} {ops:Array Oper} {Q:Exit->Act->World->Prop} {md:Region.Mode} {S:World->Prop} {X:Nat->Bool}
def dk (P:Program) (md:Region.Mode) (ops:Array Oper) (Q:Exit->Act->World->Prop) (S:World->Prop) (X:Nat->Bool):Nat->Array Bool->Act->World->Prop
 |0,listed,a,w=>Region.ready md ops listed=[]∧Q .normal a w
 |fuel+1,listed,a,w=>(Region.ready md ops listed=[]->Q .normal a w)∧
  ∀i∈Region.ready md ops listed,wpOp P ops Q i (fun a' w'=>(X i=false->S w')∧dk P md ops Q S X fuel (listed.setIfInBounds i true) a' w') a w
theorem mG:∀(fuel:Nat) (listed:Array Bool) (a:Act) (w:World),dk P md ops Q S X fuel listed a w->wpAny P md ops Q fuel listed a w
 |0,_,_,_,h=>h
 |fuel+1,_,_,_,h=>⟨h.1,fun i hi=>wpOp_mono (fun a' w' h'=>mG fuel _ a' w' h'.2) (h.2 i hi)⟩
def g8 (md:Region.Mode) (ops:Array Oper) (i:Nat):Nat->Nat->Bool
 |0,_=>false
 |f+1,j=>match ops[j]? with
  |none=>false
  |some o=>o.after.any fun e=>Region.binds md e&&(e.on==i||g8 md ops i f e.on)
def Clo (md:Region.Mode) (ops:Array Oper) (l:Array Bool):Prop:=∀j o,ops[j]? =some o->l.getD j false=true->∀e∈o.after,Region.binds md e=true->l.getD e.on false=true
def uj (md:Region.Mode) (ops:Array Oper) (l:Array Bool):Bool:=(List.range ops.size).all fun j=> !l.getD j false||((ops[j]?).map fun o=>o.after.all fun e=> !Region.binds md e||l.getD e.on false).getD true
theorem vp {l:Array Bool} (h:uj md ops l=true):Clo md ops l:=by
 intro j o ho hj e he hb;have h1:=List.all_eq_true.1 h j (List.mem_range.2 (Array.getElem?_eq_some_iff.1 ho).1);rw[ho,hj] at h1;simp only[Bool.not_true,Bool.false_or,Option.map_some,Option.getD_some] at h1;have h2:=Array.all_eq_true_iff_forall_mem.1 h1 e he;simpa[hb] using h2
theorem qe {l:Array Bool} (hc:Clo md ops l) (i:Nat):∀(f j:Nat),g8 md ops i f j=true->l.getD j false=true->l.getD i false=true:=by
 intro f;induction f with
 |zero=>intro j h;cases h
 |succ f ih=>
  intro j h hj;unfold g8 at h;cases ho:ops[j]? with
  |none=>rw[ho] at h;cases h
  |some o=>
   rw[ho] at h;obtain⟨e,he,hb⟩:=Array.any_eq_true'.1 h;simp only[Bool.and_eq_true,Bool.or_eq_true,beq_iff_eq] at hb;have hl:=hc j o ho hj e he hb.1;rcases hb.2 with rfl|h2
   ·exact hl
   ·exact ih _ h2 hl
theorem nJ {l:Array Bool} (hc:Clo md ops l) {i j f:Nat} (h:g8 md ops i f j=true) (hj:j∈Region.ready md ops l):l.getD i false=true:=by
 obtain⟨_,o,ho,hall⟩:=mem_ready.1 hj;cases f with
 |zero=>cases h
 |succ f=>
  unfold g8 at h;rw[ho] at h;obtain⟨e,he,hb⟩:=Array.any_eq_true'.1 h;simp only[Bool.and_eq_true,Bool.or_eq_true,beq_iff_eq] at hb;have hl:=hall e he hb.1;rcases hb.2 with rfl|h2
  ·exact hl
  ·exact qe hc i f _ h2 hl
theorem rZ {l:Array Bool} (hc:Clo md ops l) {j:Nat} (hj:j∈Region.ready md ops l):Clo md ops (l.setIfInBounds j true):=by
 intro k o ho hk e he hb;by_cases hjk:j=k
 ·subst hjk;obtain⟨_,o',ho',hall⟩:=mem_ready.1 hj;rw[ho] at ho';cases ho'
  exact getD_set_true (hall e he hb)
 ·rw[getD_set_ne false hjk] at hk;exact getD_set_true (hc k o ho hk e he hb)
theorem nY {i:Nat} {oi:Oper} {v:Value} (hi:ops[i]? =some oi) (hsel:∀(j:Nat) (o:Oper) cs b,ops[j]? =some o->o.op≠ .select cs b)
  (hQ:∀c a w,Q (.panic c) (a.put oi.dst v) w->Q (.panic c) a w) (hX:∀j,X j=true->j≠i->g8 md ops i ops.size j=true):
  ∀(fuel:Nat) (l:Array Bool) (a:Act) (w:World),Clo md ops l->
   (∀j oj,ops[j]? =some oj->j≠i->l.getD j true=false->(∀e∈oj.after,Region.binds md e=true->e.on≠i)->oi.apart ops oj=true)->
   i∈Region.ready md ops l->YieldsIf P ops S oi v a->S w->dk P md ops Q S X fuel (l.setIfInBounds i true) (a.put oi.dst v) w->dk P md ops Q S X (fuel+1) l a w:=by
 intro fuel;induction fuel with
 |zero=>
  intro l a w _ _ hr hy hS H;refine⟨fun h=>(by rw[h] at hr;cases hr),fun j hj=>?_⟩;by_cases hji:j=i
  ·subst hji;exact hy.wpOp hi hS ⟨fun _=>hS,H⟩
  ·have:=ready_mono hj hji;rw[H.1] at this;cases this
 |succ fuel ih=>
  intro l a w hc hfree hr hy hS H;have hin:i<ops.size:=(Array.getElem?_eq_some_iff.1 hi).1;have hiun:¬l.getD i false=true:=by
   have h0:=(mem_ready.1 hr).1;intro h1;by_cases hl:i<l.size
   ·simp[Array.getD,hl] at h0 h1;rw[h0] at h1;cases h1
   ·simp[Array.getD,hl] at h1
  refine⟨fun h=>(by rw[h] at hr;cases hr),fun j hj=>?_⟩;by_cases hji:j=i
  ·subst hji;exact hy.wpOp hi hS ⟨fun _=>hS,H⟩
  ·have h1:=H.2 j (ready_mono hj hji);obtain⟨hjun,oj,hoj,hall⟩:=mem_ready.1 hj;have hXj:X j=false:=by
    cases hx:X j with
    |false=>rfl
    |true=>exact absurd (nJ hc (hX j hx hji) hj) hiun
   have hnot:∀e∈oj.after,Region.binds md e=true->e.on≠i:=fun e he hb heq=>hiun (by rw[<-heq];exact hall e he hb)
   have h2:=wpOp_putIf hoj (hfree j oj hoj hji hjun hnot) (fun cs b=>hsel i oi cs b hi) (fun cs b=>hsel j oj cs b hoj) hQ hy h1;have hfree':∀k ok,ops[k]? =some ok->k≠i->(l.setIfInBounds j true).getD k true=false->
     (∀e∈ok.after,Region.binds md e=true->e.on≠i)->oi.apart ops ok=true:=fun k ok hk hki hun hno=>by
    refine hfree k ok hk hki ?_ hno;by_cases hjk:j=k
    ·subst hjk;exact hjun
    ·rw[getD_set_ne true hjk] at hun;exact hun
   refine wpOp_mono (fun a' w' h3=>⟨fun _=>h3.2.1 hXj,ih (l.setIfInBounds j true) a' w' (rZ hc hj) hfree' (ready_mono hr (Ne.symm hji)) h3.1 (h3.2.1 hXj) ?_⟩) h2;rw[Array.setIfInBounds_comm _ _ hji];exact h3.2.2
theorem aV (i:Nat) {xs:List Nat} {fuel:Nat} {l:Array Bool} {a:Act} {w:World} (hs:Region.noSelect ops=true) (hf:Region.free md ops l i=true) (hr:(Region.ready md ops l).contains i=true)
  (hc:uj md ops l=true) (hX:(xs.all fun j=>j==i||g8 md ops i ops.size j)=true) (hS:S w)
  (h:∀oi,ops[i]? =some oi->∃v,(∀c a w,Q (.panic c) (a.put oi.dst v) w->Q (.panic c) a w)∧YieldsIf P ops S oi v a∧dk P md ops Q S (fun j=>xs.contains j) fuel (l.setIfInBounds i true) (a.put oi.dst v) w):dk P md ops Q S (fun j=>xs.contains j) (fuel+1) l a w:=by
 have hr':i∈Region.ready md ops l:=by simpa using hr
 obtain⟨_,oi,hi,_⟩:=mem_ready.1 hr';obtain⟨v,hQ,hy,hn⟩:=h oi hi;refine nY hi (Region.noSelect_spec hs) hQ (fun j hj hji=>?_) fuel l a w (vp hc) (Region.free_spec hi hf) hr' hy hS hn;have h1:=List.all_eq_true.1 hX j (by simpa using hj);simpa[hji] using h1
theorem ie (i:Nat) {fuel:Nat} {l:Array Bool} {a:Act} {w:World} (hr:Region.ready md ops l=[i])
  (h:∀oi,ops[i]? =some oi->∀K:Act->World->Prop,(∀a' w',(X i=false->S w')->dk P md ops Q S X fuel (l.setIfInBounds i true) a' w'->K a' w')->if Region.wanted oi (yielded ops a.tmps)=true then Oper.wp P oi a w K Q else K (a.put oi.dst undef) w):
  dk P md ops Q S X (fuel+1) l a w:=by
 refine⟨fun h0=>(by rw[h0] at hr;cases hr),fun j hj=>?_⟩;obtain⟨_,o,ho,_⟩:=mem_ready.1 hj;rw[hr] at hj;obtain rfl:=List.mem_singleton.1 hj;exact wpOp_step ho (fun K' hK=>h o ho K' (fun a' w' h1 h2=>hK _ _ ⟨h1,h2⟩))
theorem aB {fuel:Nat} {l:Array Bool} {a:Act} {w:World} (hr:Region.ready md ops l=[]) (h:Q .normal a w):dk P md ops Q S X fuel l a w:=by
 cases fuel with
 |zero=>exact⟨hr,h⟩
 |succ f=>exact⟨fun _=>h,by rw[hr];simp⟩
theorem ar {id:Nat} {a:Act} {w:World} (S:World->Prop) (xs:List Nat) (hm:P.follows .mixedOrders=true) (hS:S w.drew)
  (h:dk P .any ops Q S (fun j=>xs.contains j) ops.size (Array.replicate ops.size false) a w.drew):(Code.region id ops true).wp P Q a w:=
 wp_region_any hm (mG _ _ _ _ h)
end
section
variable {P:Program} {ops:Array Oper} {Q:Exit->Act->World->Prop} {md:Region.Mode} {S:World->Prop}
theorem ae (i:Nat) {xs:List Nat} {fuel:Nat} {l:Array Bool} {a a2:Act} {w:World} {v:Value} {d:Option Nat} (hS:S w)
  (h:dk P md ops Q S (fun j=>xs.contains j) fuel (l.setIfInBounds i true) a2 w)
  (hs:Region.noSelect ops=true:=by kernel_rfl) (hf:Region.free md ops l i=true:=by kernel_rfl) (hr:(Region.ready md ops l).contains i=true:=by kernel_rfl)
  (hc:uj md ops l=true:=by kernel_rfl) (hX:(xs.all fun j=>j==i||g8 md ops i ops.size j)=true:=by kernel_rfl)
  (hh:∀oi,ops[i]? =some oi->oi.dst=d∧(∀c a w,Q (.panic c) (a.put d v) w->Q (.panic c) a w)∧YieldsIf P ops S oi v a:=by
   intro oi ho;simp only[sLq] at ho;subst ho;refine⟨rfl,fun _ _ _ h=>h,Or.inl ⟨by rfl,?_⟩⟩;(intro wS hSw;(try dsimp only at hSw);go_simp;try with_reducible rfl))
  (ha:a.put d v=a2:=by(simp only[Act.put,sLs];first|done|rfl)):dk P md ops Q S (fun j=>xs.contains j) (fuel+1) l a w:=
 aV i hs hf hr hc hX hS fun oi hi=>by
  obtain⟨h1,h2,h3⟩:=hh oi hi;subst h1 ha;exact⟨v,h2,h3,h⟩
end
section
variable {P:Program} {ops:Array Oper} {Q:Exit->Act->World->Prop} {md:Region.Mode} {S:World->Prop} {X:Nat->Bool}
theorem aR (i:Nat) {xs:List Nat} {fuel:Nat} {l:Array Bool} {a a2:Act} {w:World} {d:Option Nat} (hS:S w)
  (h:dk P md ops Q S (fun j=>xs.contains j) fuel (l.setIfInBounds i true) a2 w)
  (hs:Region.noSelect ops=true:=by kernel_rfl) (hf:Region.free md ops l i=true:=by kernel_rfl) (hr:(Region.ready md ops l).contains i=true:=by kernel_rfl)
  (hc:uj md ops l=true:=by kernel_rfl) (hX:(xs.all fun j=>j==i||g8 md ops i ops.size j)=true:=by kernel_rfl)
  (hh:∀oi,ops[i]? =some oi->oi.dst=d∧(∀c a w,Q (.panic c) (a.put d undef) w->Q (.panic c) a w)∧YieldsIf P ops S oi undef a:=by
   intro oi ho;simp only[sLq] at ho;subst ho;exact⟨rfl,fun _ _ _ h=>h,Or.inr ⟨by kernel_rfl,rfl⟩⟩)
  (ha:a.put d undef=a2:=by(simp only[Act.put,sLs];first|done|rfl)):dk P md ops Q S (fun j=>xs.contains j) (fuel+1) l a w:=
 aV i hs hf hr hc hX hS fun oi hi=>by
  obtain⟨h1,h2,h3⟩:=hh oi hi;subst h1 ha;exact⟨undef,h2,h3,h⟩
theorem ah (i:Nat) {o:Oper} {fuel:Nat} {l:Array Bool} {a:Act} {w:World}
  (h:∀K:Act->World->Prop,(∀a' w',(X i=false->S w')->dk P md ops Q S X fuel (l.setIfInBounds i true) a' w'->K a' w')->if Region.wanted o (yielded ops a.tmps)=true then Oper.wp P o a w K Q else K (a.put o.dst undef) w)
  (hr:Region.ready md ops l=[i]:=by kernel_rfl) (ho:ops[i]? =some o:=by(simp only[List.getElem?_toArray,List.getElem?_cons_succ,List.getElem?_cons_zero];rfl)):dk P md ops Q S X (fuel+1) l a w:=
 ie i hr fun oi hi=>by
  rw[ho] at hi;cases hi
  exact h
end
end Go.Proofs.YtnedmonlofbahaaGreatDoor
namespace Go.Proofs.YtnedmonlofbahaaGreatDoor
open Go Go.RowKit Go.Joins
set_option linter.all false
abbrev iT (s:ByteArray) (at_:Int):Array Value:=#[.string s,I at_]
theorem gu {w:World} {B:Nat} {s:ByteArray} {at_:Int} (h:w.heap[B]? =some (.cells (iT s at_) 154 (0,0))):
  w.cell? ⟨B,0,none⟩=some (.string s)∧w.cell? ⟨B,1,none⟩=some (I at_)∧w.frozen? ⟨B,0,none⟩=false∧w.frozen? ⟨B,1,none⟩=false∧B<w.heap.size:=by
 refine⟨?_,?_,unfrozen_of_block h 0,unfrozen_of_block h 1,(Array.getElem?_eq_some_iff.1 h).1⟩
 ·rw[cell_of_block h 0];simp
 ·rw[cell_of_block h 1];simp
theorem qf (w:World) (B:Nat) (s:ByteArray) (k:Nat) (h:w.heap[B]? =some (.cells (iT s k) 154 (0,0))) (hs:s.size<=9223372036854775807):
  Calls Tryz.prog 89 #[.pointer (some ⟨B,0,none⟩)] w fun e w'=>e= .returned (.bool (decide (k<s.size)))∧New w w':=by
 obtain⟨c0,c1,_,_,hB⟩:=gu h;clear h;go_enter Tryz.func89,Tryz.ntmps89;go_wp2_with fail;go_quiet (fail)
 go_wp2_with fail;go_ret
 exact⟨rfl,by first|exact(New.refl w).drewN _|exact New.refl w⟩
theorem iy (w:World) (B:Nat) (s:ByteArray) (h:w.heap[B]? =some (.cells (iT s 0) 154 (0,0))) (hs:s.size<=9223372036854775807):
  Calls Tryz.prog 111 #[.pointer (some ⟨B,0,none⟩),I 0] w fun e w'=>e= .returned (.int .u8 ((aC s).getD 0 0))∧New w w':=by
 obtain⟨c0,c1,_,_,hB⟩:=gu h;clear h;by_cases h0:0<s.size
 ·have hb:(aC s).getD 0 0=(s[0].toNat:Int):=by rw[List.getD_eq_getElem?_getD,gt s 0 h0];rfl
  rw[hb];have hI:(0:Int)<(s.size:Int):=by omega
  have hd:decide (s=ByteArray.empty)=false:=decide_eq_false (by rintro rfl;simp at h0);clear hb;go_enter Tryz.func111,Tryz.ntmps111;go_wp2_with fail;go_quiet (fail)
  go_wp2_with fail;go_quiet (fail)
  go_wp2_with fail;go_ret
  exact⟨rfl,by first|exact((New.refl w).drewN _).drewN _|exact(New.refl w).drewN _⟩
 ·have hb:(aC s).getD 0 0=0:=by
   have:aC s=[]:=List.eq_nil_of_length_eq_zero (by rw[cj];omega);rw[this];rfl
  rw[hb];have hd:decide (s=ByteArray.empty)=true:=decide_eq_true (ByteArray.size_eq_zero_iff.1 (by omega));clear hb;go_enter Tryz.func111,Tryz.ntmps111;go_wp2_with fail;go_quiet (fail)
  go_wp2_with fail;go_ret
  exact⟨rfl,by first|exact(New.refl w).drewN _|exact New.refl w⟩
def gG:List Int->Nat
 |[]=>0
 |b::r=>if aW b then gG r+1 else 0
theorem tZ:∀l:List Int,gG l<=l.length:=by
 intro l;induction l with
 |nil=>exact Nat.le_refl _
 |cons b r ih=>unfold gG;split<;>simp<;>omega
theorem rC:∀l:List Int,gG l=l.length ↔ l.all aW=true:=by
 intro l;induction l with
 |nil=>simp[gG]
 |cons b r ih=>
  unfold gG;cases e:aW b with
  |true=>simp[e];simpa using ih
  |false=>simp[e]
theorem lZ:∀(l:List Int) (k:Nat),(l.take k).all aW=true->(∀b,l[k]? =some b->aW b=false)->k<=l.length->gG l=k:=by
 intro l;induction l with
 |nil=>intro k _ _ hk;simp at hk;subst hk;rfl
 |cons b r ih=>
  intro k ha hb hk;unfold gG;cases k with
  |zero=>rw[hb b rfl];rfl
  |succ k=>
   simp only[List.take_succ_cons,List.all_cons,Bool.and_eq_true] at ha;rw[ha.1];simp only[if_true];rw[ih k ha.2 (fun c hc=>hb c (by simpa using hc)) (by simpa using hk)]
def du (w:World) (B:Nat):Nat:=match w.cell? ⟨B,1,none⟩ with
 |some (.int _ n)=>n.toNat
 |_=>0
set_option maxRecDepth 100000 in
set_option maxHeartbeats 8000000 in
theorem kg (w:World) (B:Nat) (s:ByteArray) (h:w.heap[B]? =some (.cells (iT s 0) 154 (0,0))) (hs:s.size<=9223372036854775807):
  Calls Tryz.prog 112 #[.pointer (some ⟨B,0,none⟩),.func (Fn.func 113) #[] #[]] w fun e w'=>e= .returned (.string (s.extract 0 (gG (aC s))))∧Keeps (fun k=>k=B) w w':=by
 have hB:B<w.heap.size:=(Array.getElem?_eq_some_iff.1 h).1;obtain⟨c0,c1,z0,z1,_⟩:=gu h;go_enter Tryz.func112,Tryz.ntmps112;go_wp2_with fail;clear c0 c1 z0 z1;go_loopw [] (fun wr=>∃k:Nat,k<=s.size∧Hid (((aC s).take k).all aW=true)∧wr.heap[B]? =some (.cells (iT s k) 154 (0,0))∧Keeps (fun k=>k=B) w wr) (fun wr=>s.size-du wr B)
 case atStart=>exact⟨0,by omega,Lib.hid (by simp),h,Keeps.refl _ _⟩
 case round=>
  clear h;obtain⟨k,hk,HA,hb,hkr⟩:=hrel;obtain⟨c0,c1,z0,z1,hBr⟩:=gu hb;have HY:Hid (du wr B=k):=Lib.hid (by unfold du;rw[c1];simp);have hm:=fun W (n:New wr W)=>qf W B s k (Keeps.heap n hb (fun h=>h)) hs
  by_cases hk1:k<s.size
  ·rw[decide_eq_true hk1] at hm;have hi:=fun W=>mP W (s[k].toNat:Int)
   have h255:s[k].toNat<256:=s[k].toNat_lt;have hat:=gt s k hk1;have hkI:(k:Int)<(s.size:Int):=by omega
   cases e2:aW (s[k].toNat:Int) with
   |true=>
    rw[e2] at hi;have HA2:Hid (((aC s).take (k+1)).all aW=true):=Lib.hid (by
     rw[show(aC s).take (k+1)=(aC s).take k++[(s[k].toNat:Int)] by rw[List.take_succ,hat];rfl,List.all_append,HA.out];simp[e2])
    clear e2 hat;go_wp2_with fail;go_region_held3 (fun w'=>w'.cell? ⟨B,0,none⟩=some (.string s)∧w'.cell? ⟨B,1,none⟩=some (I (k:Int))∧New wr w')
     ((refine⟨New.cell (w:=wr) ?_ c0,New.cell (w:=wr) ?_ c1,?_⟩<;>(repeat(first|exact New.refl wr|refine New.drew ?_|exact hN2|refine New.trans ?_ hN2))))
     ((first|(go_at_call 89;refine(hm _ ((New.refl wr).drew)).mono ?_;rintro e w2 ⟨rfl,hN2⟩)|(go_at_call 113;refine(hi _).mono ?_;rintro e w3 ⟨rfl,rfl⟩)))
    rename_i hSX;obtain⟨e0,e1,hNX⟩:=hSX;have hb3:=Keeps.heap hNX hb (fun h=>h);obtain⟨_,_,y0,y1,hB3⟩:=gu hb3;have hb4:=block_setCell (i:=1) hb3 (I ((k:Int)+1));have hk4:Keeps (fun k=>k=B) w (w3.setCell ⟨B,1,none⟩ (I ((k:Int)+1))):=(hkr.trans (Keeps.mono hNX (fun _ _ h=>h.elim)) (fun _ _ h=>h)).trans (Keeps.setCell (S:=fun k=>k=B) _ ⟨B,1,none⟩ _ rfl) (fun _ _ h=>h);have HB4:=Lib.hid hb4;have HK4:=Lib.hid hk4;clear hb4 hk4 hb hb3 hkr c0 c1 z0 z1;simp only[Exit.then];go_wp2_with fail;go_roundw
    case rel=>exact⟨k+1,by omega,HA2,by rw[HB4.out];simp,HK4.out⟩
    case measure=>
     have hx:du (w3.setCell ⟨B,1,none⟩ (I ((k:Int)+1))) B=k+1:=by
      unfold du;rw[cell_of_block HB4.out 1];simp
     rw[hx,HY.out];omega
   |false=>
    rw[e2] at hi;have HSP:Hid (gG (aC s)=k):=Lib.hid (lZ _ k HA.out (fun b hb=>by rw[hat] at hb;cases hb;exact e2) (by rw[cj];omega));clear e2 hat;go_wp2_with fail;go_region_held3 (fun w'=>w'.cell? ⟨B,0,none⟩=some (.string s)∧w'.cell? ⟨B,1,none⟩=some (I (k:Int))∧New wr w')
     ((refine⟨New.cell (w:=wr) ?_ c0,New.cell (w:=wr) ?_ c1,?_⟩<;>(repeat(first|exact New.refl wr|refine New.drew ?_|exact hN2|refine New.trans ?_ hN2))))
     ((first|(go_at_call 89;refine(hm _ ((New.refl wr).drew)).mono ?_;rintro e w2 ⟨rfl,hN2⟩)|(go_at_call 113;refine(hi _).mono ?_;rintro e w3 ⟨rfl,rfl⟩)))
    rename_i hSX;obtain⟨e0,e1,hNX⟩:=hSX;have hKX:=Lib.hid (hkr.trans (Keeps.mono hNX (fun _ _ h=>h.elim)) (fun _ _ h=>h));clear c0 c1 hkr hb;simp only[Exit.then];go_wp2_with fail;go_quiet (fail)
    go_wp2_with fail;go_ret
    exact⟨by rw[HSP.out];rfl,by first|exact hKX.out.trans (Keeps.drewN _ _) (fun _ _ h=>h)|exact hKX.out⟩
  ·rw[decide_eq_false hk1] at hm;have HSP:Hid (gG (aC s)=k):=Lib.hid (lZ _ k HA.out (fun b hb=>by rw[List.getElem?_eq_none (by rw[cj];omega)] at hb;cases hb) (by rw[cj];omega));go_wp2_with fail;have hS0:(fun w':World=>w'.cell? ⟨B,0,none⟩=some (.string s)∧w'.cell? ⟨B,1,none⟩=some (I (k:Int))) wr.drew:=⟨New.cell ((New.refl wr).drew) c0,New.cell ((New.refl wr).drew) c1⟩
   refine ar (fun w':World=>w'.cell? ⟨B,0,none⟩=some (.string s)∧w'.cell? ⟨B,1,none⟩=some (I (k:Int))) [] (by kernel_rfl) hS0 ?_;refine ae 0 hS0 ?_;refine ie 1 (by kernel_rfl) ?_;intro oi ho;cases ho;intro K hK
   (try simp only[Act.put,List.getElem_toArray,List.getElem_cons_succ,List.getElem_cons_zero,sLs])
   go_simp;refine(hm _ ((New.refl wr).drew)).mono ?_;rintro e w2 ⟨rfl,k2⟩;have hS1:(fun w':World=>w'.cell? ⟨B,0,none⟩=some (.string s)∧w'.cell? ⟨B,1,none⟩=some (I (k:Int))) w2:=⟨New.cell k2 hS0.1,New.cell k2 hS0.2⟩
   refine hK _ _ (fun _=>hS1) ?_;clear hK K;refine ae 2 hS1 ?_;refine aR 3 hS1 ?_;refine aR 4 hS1 ?_;refine aR 5 hS1 ?_;refine aR 6 hS1 ?_;refine aR 7 hS1 ?_;refine aR 8 hS1 ?_;refine aR 9 hS1 ?_;refine aR 10 hS1 ?_;refine aR 11 hS1 ?_;refine aR 12 hS1 ?_;refine aR 13 hS1 ?_;refine ae 14 hS1 ?_;refine aB (by kernel_rfl) ?_;(try simp only[Act.put,List.getElem_toArray,List.getElem_cons_succ,List.getElem_cons_zero,sLs])
   have e0:=hS1.1;have e1:=hS1.2;have hKX:=Lib.hid ((hkr.trans (Keeps.drew (S:=fun k=>k=B) wr) (fun _ _ h=>h)).trans (Keeps.mono k2 (fun _ _ h=>h.elim)) (fun _ _ h=>h));clear hS0 hS1 c0 c1 hkr hb k2 hm;simp only[Exit.then];go_wp2_with fail;go_quiet (fail)
   go_wp2_with fail;go_ret
   exact⟨by rw[HSP.out];rfl,by first|exact hKX.out.trans (Keeps.drewN _ _) (fun _ _ h=>h)|exact hKX.out⟩
set_option maxRecDepth 100000 in
set_option maxHeartbeats 4000000 in
theorem eR (w:World) (s:ByteArray) (hs:s.size<=9223372036854775807):Calls Tryz.prog 71 #[.string s] w fun e w'=>e= .returned (.bool (aM s))∧New w w':=by
 by_cases h0:s.size=0
 ·rw[lJ s h0];have HP:Hid ((aC s).getD 0 0=0):=Lib.hid (by
   have:aC s=[]:=List.eq_nil_of_length_eq_zero (by rw[cj];omega);rw[this];rfl)
  have hl:∀W,Calls Tryz.prog 110 #[.int .u8 0] W fun e w'=>e= .returned (.bool false)∧w'=W:=fun W=>cy W 0
  clear h0;go_enter Tryz.func71,Tryz.ntmps71;go_wp2_with fail;have hb:(w.alloc (.cells (iT s 0) 154)).heap[w.heap.size]? =some (.cells (iT s 0) 154 (0,0)):=heap_alloc_new w _;refine(iy _ w.heap.size s hb hs).mono ?_;rintro e w2 ⟨rfl,k2⟩;rw[HP.out];replace hb:=Keeps.heap k2 hb (fun h=>h);go_wp2_with fail;refine(hl _).mono ?_;rintro e w3 ⟨rfl,rfl⟩;go_wp2_with fail;go_ret
  exact⟨rfl,((New.refl w).alloc _).trans k2⟩
 ·have h1:0<s.size:=by omega
  have HP:Hid ((aC s).getD 0 0=(s[0].toNat:Int)):=Lib.hid (by rw[List.getD_eq_getElem?_getD,gt s 0 h1];rfl);rw[kC s h1];have hl:=fun W=>cy W (s[0].toNat:Int)
  cases e1:bc (s[0].toNat:Int) with
  |false=>
   rw[e1] at hl;rw[Bool.false_and];clear e1;go_enter Tryz.func71,Tryz.ntmps71;go_wp2_with fail;have hb:(w.alloc (.cells (iT s 0) 154)).heap[w.heap.size]? =some (.cells (iT s 0) 154 (0,0)):=heap_alloc_new w _;refine(iy _ w.heap.size s hb hs).mono ?_;rintro e w2 ⟨rfl,k2⟩;rw[HP.out];replace hb:=Keeps.heap k2 hb (fun h=>h);go_wp2_with fail;refine(hl _).mono ?_;rintro e w3 ⟨rfl,rfl⟩;go_wp2_with fail;go_ret
   exact⟨rfl,((New.refl w).alloc _).trans k2⟩
  |true=>
   rw[e1] at hl;rw[Bool.true_and];have hle:gG (aC s)<=s.size:=by have:=tZ (aC s);rwa [cj] at this
   have hall:=rC (aC s);rw[cj] at hall;obtain⟨n,hn⟩:∃n,gG (aC s)=n:=⟨_,rfl⟩
   rw[hn] at hle hall;have HN:=Lib.hid hn;have hx:(s.extract 0 n).size=n:=by rw[ByteArray.size_extract];omega
   clear e1 hn;by_cases ha:n=s.size
   ·have hA:(aC s).all aW=true:=hall.1 ha;rw[hA,Bool.true_and];subst ha;clear hA hall;go_enter Tryz.func71,Tryz.ntmps71;go_wp2_with fail;have hb:(w.alloc (.cells (iT s 0) 154)).heap[w.heap.size]? =some (.cells (iT s 0) 154 (0,0)):=heap_alloc_new w _;refine(iy _ w.heap.size s hb hs).mono ?_;rintro e w2 ⟨rfl,k2⟩;rw[HP.out];replace hb:=Keeps.heap k2 hb (fun h=>h);go_wp2_with fail;refine(hl _).mono ?_;rintro e w3 ⟨rfl,rfl⟩;go_wp2_with fail;refine(kg _ w.heap.size s hb hs).mono ?_;rintro e w4 ⟨rfl,k4⟩;rw[HN.out];have hNw:=(((New.refl w).alloc (.cells (iT s 0) 154)).trans k2).keeps k4 (fun i hi e=>by omega);go_wp2_with fail;go_ret
    have hd:decide ((s.size:Int)<=16)=decide (s.size<=16):=by
     by_cases hq:s.size<=16
     ·rw[decide_eq_true hq,decide_eq_true (by omega)]
     ·rw[decide_eq_false hq,decide_eq_false (by omega)]
    exact⟨by show Ending.returned (.bool (decide ((s.size:Int)<=16)))=_;rw[hd],hNw⟩
   ·have hA:(aC s).all aW=false:=by
     cases e:(aC s).all aW with
     |false=>rfl
     |true=>exact absurd (hall.2 e) ha
    rw[hA,Bool.false_and];have hne:((n:Int)==(s.size:Int))=false:=by simpa using fun h:(n:Int)=s.size=>ha (by omega)
    clear hA hall ha;go_enter Tryz.func71,Tryz.ntmps71;go_wp2_with fail;have hb:(w.alloc (.cells (iT s 0) 154)).heap[w.heap.size]? =some (.cells (iT s 0) 154 (0,0)):=heap_alloc_new w _;refine(iy _ w.heap.size s hb hs).mono ?_;rintro e w2 ⟨rfl,k2⟩;rw[HP.out];replace hb:=Keeps.heap k2 hb (fun h=>h);go_wp2_with fail;refine(hl _).mono ?_;rintro e w3 ⟨rfl,rfl⟩;go_wp2_with fail;refine(kg _ w.heap.size s hb hs).mono ?_;rintro e w4 ⟨rfl,k4⟩;rw[HN.out];have hNw:=(((New.refl w).alloc (.cells (iT s 0) 154)).trans k2).keeps k4 (fun i hi e=>by omega);go_wp2_with fail;go_ret
    exact⟨rfl,hNw⟩
end Go.Proofs.YtnedmonlofbahaaGreatDoor
