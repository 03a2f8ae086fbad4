/-
  SkM: what is wanted of them.
-/
import Derived.Test.YtnedmonlofbahaaGreatDoorSwC
namespace Go.Proofs.YtnedmonlofbahaaGreatDoor
open Go
set_option linter.all false
abbrev dR (n:Int):Prop:= -9223372036854775808<=n∧n<=9223372036854775807
def fM (l:List LTok) (k m:Nat) (ts:List LTok):Prop:=m=k+ts.length∧(l.map LTok.bare0).drop k=ts++(l.map LTok.bare0).drop m
theorem fM.refl (l:List LTok) (k:Nat):fM l k k []:=⟨rfl,rfl⟩
theorem fM.trans {l:List LTok} {k m n:Nat} {ts us:List LTok} (h:fM l k m ts) (g:fM l m n us):fM l k n (ts++us):=by
 refine⟨by rw[g.1,h.1,List.length_append];omega,?_⟩;rw[h.2,g.2,List.append_assoc]
theorem fM.one {l:List LTok} {k:Nat} {t u:LTok} (h:l[k]? =some t) (e:t.bare0=u):fM l k (k+1) [u]:=by
 obtain⟨hk,rfl⟩:=List.getElem?_eq_some_iff.1 h;subst e;refine⟨rfl,?_⟩;rw[List.drop_eq_getElem_cons (by simpa using hk)];simp
theorem fM.le {l:List LTok} {k m:Nat} {ts:List LTok} (h:fM l k m ts) (hk:k<=l.length):ts.length<=l.length:=by
 have h1:=congrArg List.length h.2;simp only[List.length_drop,List.length_map,List.length_append] at h1;omega
section
variable {l:List LTok} (hg:TGood l)
include hg
theorem TGood.rt' {k:Nat} {t:LTok} (h:l[k]? =some t) (hs:t.sort≠0):t.right=true:=by
 have hk:=(List.getElem?_eq_some_iff.1 h).1;rcases Nat.lt_or_ge (k+1) l.length with h1|h1
 ·exact(hg.rt k t h h1).1
 ·exact absurd (hg.en k t h (by omega)).1 hs
theorem kK {k m:Nat} {t:LTok} (h:cp 1 l k= .good t m):fM l k m [wT t.text]∧fS t.text=true:=by
 obtain⟨h1,h2,rfl⟩:=gq h;have hr:=hg.rt' h1 (by omega);unfold LTok.right at hr;rw[if_pos h2] at hr;simp only[Bool.and_eq_true,decide_eq_true_iff] at hr;refine⟨fM.one h1 ?_,hr.2⟩;unfold LTok.bare0 wT;rw[h2,hr.1]
theorem un {k m:Nat} {t:LTok} (h:cp 2 l k= .good t m):fM l k m [nT t.num]∧dR t.num:=by
 obtain⟨h1,h2,rfl⟩:=gq h;have hr:=hg.rt' h1 (by omega);unfold LTok.right at hr;rw[if_neg (by omega),if_pos h2,decide_eq_true_iff] at hr;refine⟨fM.one h1 ?_,hg.nm k t h1⟩;unfold LTok.bare0 nT;rw[h2,hr]
theorem iN {b:List UInt8} {k m:Nat} {u:Unit} (h:bC 3 b l k= .good u m):fM l k m [mT b]:=by
 obtain⟨t,h1,h2,h3,rfl⟩:=ja h;have hr:=hg.rt' h1 (by omega);unfold LTok.right at hr;rw[if_neg (by omega),if_neg (by omega),if_pos h2] at hr;simp only[Bool.and_eq_true,decide_eq_true_iff] at hr;refine fM.one h1 ?_;unfold LTok.bare0 mT;rw[h2,h3,hr.1]
theorem mN {b:List UInt8} {k:Nat} {t:LTok} (h1:l[k]? =some t) (h2:t.sort=1) (h3:t.text=b):fM l k (k+1) [wT b]:=by
 have hr:=hg.rt' h1 (by omega);unfold LTok.right at hr;rw[if_pos h2] at hr;simp only[Bool.and_eq_true,decide_eq_true_iff] at hr;refine fM.one h1 ?_;unfold LTok.bare0 wT;rw[h2,h3,hr.1]
theorem zB {b:List UInt8} {k m:Nat} {u:Unit} (h:bC 1 b l k= .good u m):fM l k m [wT b]:=by
 obtain⟨t,h1,h2,h3,rfl⟩:=ja h;exact mN hg h1 h2 h3
theorem zC:∀(n k:Nat),(cQ l k).length=n->fM l k (k+n) (im (cQ l k))∧∀x∈cQ l k,dR x:=by
 intro n;induction n with
 |zero=>
  intro k hk;rw[List.length_eq_zero_iff.1 hk];exact⟨fM.refl _ _,fun x hx=>by cases hx⟩
 |succ n ih=>
  intro k hk;obtain⟨t,h1,h2,_⟩:=pR (l:=l) (k:=k) (i:=0) (by omega);rw[Nat.add_zero] at h1;have e:=eM h1;rw[if_pos h2] at e;rw[e] at hk ⊢;simp only[List.length_cons,Nat.add_right_cancel_iff] at hk;obtain⟨i1,i2⟩:=ih (k+1) hk;have ht:cp 2 l k= .good t (k+1):=by rw[cO h1,if_pos h2]
  obtain⟨j1,j2⟩:=un hg ht;refine⟨?_,fun x hx=>?_⟩
  ·have:=j1.trans i1;rw[show k+1+n=k+(n+1) by omega] at this;exact this
  ·rcases List.mem_cons.1 hx with rfl|hx
   ·exact j2
   ·exact i2 x hx
theorem va {k m:Nat} {xs:List Int} (h:numsP l k= .good xs m):fM l k m (im xs)∧∀x∈xs,dR x:=by
 obtain⟨rfl,rfl⟩:=pS h;exact zC hg _ k rfl
theorem mi {k m:Nat} {p:LPl} (h:cM l k= .good p m):fM l k m [wT p.name,mT [46],nT p.port]∧fS p.name=true∧dR p.port:=by
 unfold cM at h;obtain⟨t,k1,h1,h⟩:=PR.bind_inv h;obtain⟨_,k2,h2,h⟩:=PR.bind_inv h;obtain⟨n,k3,h3,h⟩:=PR.bind_inv h;cases h
 obtain⟨a1,a2⟩:=kK hg h1;obtain⟨b1,b2⟩:=un hg h3;exact⟨(a1.trans (iN hg h2)).trans b1,a2,b2⟩
theorem AI {k m:Nat} {xs:List Int} (h:withP l k= .good xs m):fM l k m ((if xs=[] then[] else[wT gE])++im xs)∧∀x∈xs,dR x:=by
 unfold withP at h;split at h
 ·rename_i hl;obtain⟨t,h1,h2,h3⟩:=kC hl;obtain⟨n,k1,h4,h⟩:=PR.bind_inv h;obtain⟨ys,k2,h5,h⟩:=PR.bind_inv h;cases h
  obtain⟨a1,a2⟩:=un hg h4;obtain⟨b1,b2⟩:=va hg h5;refine⟨?_,fun x hx=>?_⟩
  ·rw[if_neg (by simp)];exact(mN hg h1 h2 h3).trans (a1.trans b1)
  ·rcases List.mem_cons.1 hx with rfl|hx
   ·exact a2
   ·exact b2 x hx
 ·cases h
  exact⟨fM.refl _ _,fun x hx=>by cases hx⟩
end
abbrev IZ (x:LIt):SIt:=x.mem none 0
structure ItOk (x:LIt):Prop where
 rt:bD (IZ x)=true
 fp:dR x.fr.port
 tp:dR x.tu.port
 xs:∀n∈x.xs,dR n
theorem eU {s:List UInt8} (h:fS s=true):aQ ⟨s.toArray⟩=true:=by rw[gy];simpa using h
theorem kt:dI (⟨([]:List UInt8).toArray⟩:ByteArray)=true:=by unfold dI;rw[ByteArray.toList_eq];rfl
theorem nZ:fY (⟨plZ.name.toArray⟩:ByteArray) plZ.port=true:=by
 unfold fY;rw[show dI (⟨plZ.name.toArray⟩:ByteArray)=true from kt];rfl
theorem vh:dR 0:=⟨by decide,by decide⟩
theorem jQ (s:List UInt8):(⟨s.toArray⟩:ByteArray).data.toList=s:=by simp
section
variable {l:List LTok} (hg:TGood l)
include hg
theorem AH {k m:Nat} {x:LIt} (h:bN l k= .good x m):fM l k m (gS (IZ x))∧ItOk x:=by
 unfold bN at h;obtain⟨y,kb,h0,h⟩:=PR.bind_inv h;obtain⟨_,ke,he,h⟩:=PR.bind_inv h;cases h
 have he:=iN hg he;unfold fZ at h0;split at h0
 ·cases h0
 ·rename_i t ht;split at h0
  ·rename_i hs;have hk:=mN hg ht hs.1 hs.2;unfold fA at h0;obtain⟨n,k1,h1,h0⟩:=PR.bind_inv h0;obtain⟨_,k2,h2,h0⟩:=PR.bind_inv h0;obtain⟨g,k3,h3,h0⟩:=PR.bind_inv h0;obtain⟨xs,k4,h4,h0⟩:=PR.bind_inv h0;cases h0
   obtain⟨a1,a2⟩:=kK hg h1;obtain⟨b1,b2⟩:=kK hg h3;obtain⟨c1,c2⟩:=va hg h4;refine⟨?_,⟨?_,vh,vh,c2⟩⟩
   ·have:=(((((hk.trans a1).trans (iN hg h2)).trans b1).trans c1).trans he)
    unfold gS IZ LIt.mem;simp only[if_pos,jQ];simpa using this
   ·unfold bD IZ LIt.mem;simp only[if_pos];have e1:=nZ;simp only[eU a2,eU b2,e1,Bool.and_true]
  ·split at h0
   ·rename_i hs;have hk:=mN hg ht hs.1 hs.2;unfold fE at h0;obtain⟨p,k1,h1,h0⟩:=PR.bind_inv h0;obtain⟨_,k2,h2,h0⟩:=PR.bind_inv h0;obtain⟨q,k3,h3,h0⟩:=PR.bind_inv h0;obtain⟨xs,k4,h4,h0⟩:=PR.bind_inv h0;cases h0
    obtain⟨a1,a2,a3⟩:=mi hg h1;obtain⟨b1,b2,b3⟩:=mi hg h3;obtain⟨c1,c2⟩:=AI hg h4;refine⟨?_,⟨?_,a3,b3,c2⟩⟩
    ·have:=(((((hk.trans a1).trans (iN hg h2)).trans b1).trans c1).trans he)
     unfold gS IZ LIt.mem;simp only[if_neg (show ¬(2:Int)=1 by decide),if_pos,jQ];simpa using this
    ·unfold bD IZ LIt.mem;simp only[if_neg (show ¬(2:Int)=1 by decide),if_pos];have e1:=kt;simp only[eU a2,eU b2,e1,Bool.and_true]
   ·split at h0
    ·rename_i hs;have hk:=mN hg ht hs.1 hs.2;unfold inP at h0;obtain⟨n,k1,h1,h0⟩:=PR.bind_inv h0;obtain⟨_,k2,h2,h0⟩:=PR.bind_inv h0;obtain⟨q,k3,h3,h0⟩:=PR.bind_inv h0;cases h0
     obtain⟨a1,a2⟩:=kK hg h1;obtain⟨b1,b2,b3⟩:=mi hg h3;refine⟨?_,⟨?_,vh,b3,fun n hn=>by cases hn⟩⟩
     ·have:=((((hk.trans a1).trans (iN hg h2)).trans b1).trans he)
      unfold gS IZ LIt.mem;simp only[if_neg (show ¬(3:Int)=1 by decide),if_neg (show ¬(3:Int)=2 by decide),if_pos,jQ];simpa using this
     ·unfold bD IZ LIt.mem;simp only[if_neg (show ¬(3:Int)=1 by decide),if_neg (show ¬(3:Int)=2 by decide),if_pos];have e1:=nZ;have e2:=kt;simp only[eU a2,eU b2,e1,e2,Bool.and_true,List.length_nil,beq_self_eq_true]
    ·split at h0
     ·rename_i hs;have hk:=mN hg ht hs.1 hs.2;unfold lv at h0;obtain⟨p,k1,h1,h0⟩:=PR.bind_inv h0;obtain⟨_,k2,h2,h0⟩:=PR.bind_inv h0;obtain⟨n,k3,h3,h0⟩:=PR.bind_inv h0;cases h0
      obtain⟨a1,a2,a3⟩:=mi hg h1;obtain⟨b1,b2⟩:=kK hg h3;refine⟨?_,⟨?_,a3,vh,fun n hn=>by cases hn⟩⟩
      ·have:=((((hk.trans a1).trans (iN hg h2)).trans b1).trans he)
       unfold gS IZ LIt.mem;simp only[if_neg (show ¬(4:Int)=1 by decide),if_neg (show ¬(4:Int)=2 by decide),if_neg (show ¬(4:Int)=3 by decide),jQ];simpa using this
      ·unfold bD IZ LIt.mem;simp only[if_neg (show ¬(4:Int)=1 by decide),if_neg (show ¬(4:Int)=2 by decide),if_neg (show ¬(4:Int)=3 by decide),if_pos];have e1:=nZ;have e2:=kt;simp only[eU a2,eU b2,e1,e2,Bool.and_true,List.length_nil,beq_self_eq_true]
     ·cases h0
theorem zA:∀(f k m:Nat) (xs:List LIt),bJ f l k= .good xs m->fM l k m ((xs.map IZ).flatMap gS)∧∀x∈xs,ItOk x:=by
 intro f;induction f with
 |zero=>intro k m xs h;cases h
 |succ f ih=>
  intro k m xs h;unfold bJ at h;split at h
  ·cases h;exact⟨fM.refl _ _,fun x hx=>by cases hx⟩
  ·obtain⟨x,k1,h1,h⟩:=PR.bind_inv h;obtain⟨ys,k2,h2,h⟩:=PR.bind_inv h;cases h
   obtain⟨a1,a2⟩:=AH hg h1;obtain⟨b1,b2⟩:=ih _ _ _ h2;refine⟨a1.trans b1,fun y hy=>?_⟩;rcases List.mem_cons.1 hy with rfl|hy
   ·exact a2
   ·exact b2 y hy
theorem zD {x:LSk} {m:Nat} (h:cV l= .good x m):(∃k,fM l 0 k (tkS x.mem))∧fS x.name=true∧∀y∈x.items,ItOk y:=by
 unfold cV at h;obtain⟨_,k1,h1,h⟩:=PR.bind_inv h;obtain⟨n,k2,h2,h⟩:=PR.bind_inv h;obtain⟨_,k3,h3,h⟩:=PR.bind_inv h;obtain⟨xs,k4,h4,h⟩:=PR.bind_inv h;obtain⟨_,k5,h5,h⟩:=PR.bind_inv h;obtain⟨_,k6,h6,h⟩:=PR.bind_inv h;cases h
 obtain⟨a1,a2⟩:=kK hg h2;obtain⟨b1,b2⟩:=zA hg _ _ _ _ h4;refine⟨⟨k5,?_⟩,a2,b2⟩;have:=((((zB hg h1).trans a1).trans (iN hg h3)).trans b1).trans (iN hg h5);unfold tkS LSk.mem;simp only[jQ];simpa using this
end
def ji (ts:List LTok):Nat:=(ts.map fun t=>t.spelt.length).sum
theorem dz (a b:List LTok):ji (a++b)=ji a+ji b:=by unfold ji;simp
theorem fJ (t:LTok) (b:List LTok):ji (t::b)=t.spelt.length+ji b:=by unfold ji;simp
theorem iu:ji []=0:=rfl
theorem um (a:List LTok):ji (a.map LTok.bare0)=ji a:=by
 unfold ji;rw[List.map_map];rfl
theorem AG {s:List UInt8} {l:List LTok} (h:eR s=(l,0,0)):ji l<=s.length:=by
 obtain⟨h1,h2,h3⟩:=jB h;have key:∀i,i<=l.length->ji (l.take i)<=zi l i:=by
  intro i;induction i with
  |zero=>intro _;simp[ji]
  |succ i ih=>
   intro hi;have hl:i<l.length:=by omega
   obtain⟨p1,_⟩:=h1 i hl;have h4:=ih (by omega);have e:zi l (i+1)=l[i].at_+l[i].spelt.length:=by
    show(match l[i]? with|some t=>t.at_+t.spelt.length|none=>0)=_
    rw[List.getElem?_eq_getElem hl]
   rw[List.take_succ_eq_append_getElem hl,dz,fJ,iu,e];omega
 have:=key l.length (Nat.le_refl _);rw[List.take_length,h2] at this;exact this
theorem mU (s:List UInt8):(wT s).spelt.length=s.length:=rfl
theorem mD (s:List UInt8):(mT s).spelt.length=s.length:=rfl
theorem oG (n:Int):(nT n).spelt.length=(Lib.itoa n).length:=rfl
theorem yJ (n:Int) (h:dR n):1<=(Lib.itoa n).length:=by
 have:=(oV (t:=nT n) (by unfold LTok.right nT;simp) h).2;exact this
theorem wv:∀xs:List Int,(∀n∈xs,dR n)->(bL xs).length<=2*ji (im xs)∧(bL xs).length=xs.length+ji (im xs):=by
 intro xs;induction xs with
 |nil=>intro _;exact⟨Nat.le_refl _,rfl⟩
 |cons x xs ih=>
  intro h;obtain⟨i1,i2⟩:=ih (fun n hn=>h n (List.mem_cons_of_mem _ hn));have h1:=yJ x (h x List.mem_cons_self);have e:bL (x::xs)=32::(Lib.itoa x++bL xs):=by unfold bL;simp
  have e2:im (x::xs)=nT x::im xs:=rfl;rw[e,e2,fJ,oG];simp only[List.length_cons,List.length_append];omega
theorem wg {x:SIt} (hr:bD x=true) (hx:∀n∈x.xs,dR n):(cl x).length<=2*ji (gS x):=by
 obtain⟨h1,_⟩:=wv x.xs hx;unfold bD at hr;unfold cl ft gS;split at hr
 ·rename_i hk;rw[if_pos hk,if_pos hk];simp only[dz,fJ,iu,mU,mD,List.length_append,List.length_cons,List.length_nil,fN];omega
 ·split at hr
  ·rename_i h1' hk;rw[if_neg h1',if_neg h1',if_pos hk,if_pos hk];unfold dL;by_cases hn:x.xs=[]
   ·rw[hn] at h1 ⊢;simp only[dz,fJ,iu,mU,mD,oG,List.length_append,List.length_cons,List.length_nil,ib,if_pos];omega
   ·rw[if_neg hn,if_neg hn];simp only[dz,fJ,iu,mU,mD,oG,List.length_append,List.length_cons,List.length_nil,ib,gE];omega
  ·split at hr
   ·rename_i h1' h2' hk;rw[if_neg h1',if_neg h1',if_neg h2',if_neg h2',if_pos hk,if_pos hk];unfold dL;simp only[Bool.and_eq_true] at hr;have hn:x.xs=[]:=by have:=hr.1.1.2;simpa using this
    rw[hn];simp only[dz,fJ,iu,mU,mD,oG,List.length_append,List.length_cons,List.length_nil,inW,bL,List.flatMap_nil];omega
   ·split at hr
    ·rename_i h1' h2' h3' hk;rw[if_neg h1',if_neg h1',if_neg h2',if_neg h2',if_neg h3',if_neg h3',if_pos hk];unfold dL;simp only[Bool.and_eq_true] at hr;have hn:x.xs=[]:=by have:=hr.1.1.2;simpa using this
     rw[hn];simp only[dz,fJ,iu,mU,mD,oG,List.length_append,List.length_cons,List.length_nil,mH,bL,List.flatMap_nil];omega
    ·cases hr
theorem tH:∀l:List SIt,(∀x∈l,bD x=true∧∀n∈x.xs,dR n)->(l.flatMap cl).length<=2*ji (l.flatMap gS):=by
 intro l;induction l with
 |nil=>intro _;exact Nat.le_refl _
 |cons x l ih=>
  intro h;have h1:=ih (fun y hy=>h y (List.mem_cons_of_mem _ hy));obtain⟨a,b⟩:=h x List.mem_cons_self;have h2:=wg a b;simp only[List.flatMap_cons,List.length_append,dz];omega
theorem v7 {l:List SIt} {x:SIt} (h:x∈l):(gS x).length<=(l.flatMap gS).length:=by
 induction l with
 |nil=>cases h
 |cons y l ih=>
  rw[List.flatMap_cons,List.length_append];rcases List.mem_cons.1 h with rfl|h
  ·omega
  ·have:=ih h;omega
theorem vg {x:SIt} (hr:bD x=true):x.xs.length<=(gS x).length∧1<=(gS x).length:=by
 have e:(im x.xs).length=x.xs.length:=by unfold im;simp
 unfold bD at hr;unfold gS;split
 ·simp only[List.length_append,List.length_cons,List.length_nil];omega
 ·split
  ·simp only[List.length_append,List.length_cons,List.length_nil];omega
  ·rename_i h1 h2;rw[if_neg h1,if_neg h2] at hr;have hn:x.xs=[]:=by
    split at hr
    ·simp only[Bool.and_eq_true] at hr;have:=hr.1.1.2;simpa using this
    ·split at hr
     ·simp only[Bool.and_eq_true] at hr;have:=hr.1.1.2;simpa using this
     ·cases hr
   rw[hn];split<;>simp
theorem tF:∀l:List SIt,(∀x∈l,bD x=true)->l.length<=(l.flatMap gS).length:=by
 intro l;induction l with
 |nil=>intro _;exact Nat.le_refl _
 |cons x l ih=>
  intro h;have h1:=ih (fun y hy=>h y (List.mem_cons_of_mem _ hy));have h2:=(vg (h x List.mem_cons_self)).2;rw[List.flatMap_cons,List.length_append,List.length_cons];omega
structure ReadOk (x:LSk) (n:Nat):Prop where
 nm:aQ x.mem.name=true
 rt:x.mem.items.all bD=true
 bd:∀y∈x.mem.items,dR y.fp∧dR y.tp∧∀m∈y.xs,dR m
 ln:(dE x.mem).length<=2*n
 it:x.items.length<=n+1
 xl:∀y∈x.items,y.xs.length<=n+1
theorem tP {s:List UInt8} (h:fS s=true):s.length<=16:=by
 cases s with
 |nil=>simp
 |cons c r=>
  simp only[fS,Bool.and_eq_true,decide_eq_true_iff] at h;have:=h.2.2;simp only[List.length_cons];omega
theorem qR {s:List UInt8} {x:LSk} (h:cz s= .ok x):ReadOk x s.length∧s.length<=1048576:=by
 have aU:s.length<=1048576:=by
  unfold cz at h;obtain⟨⟨l,c,k'⟩,hA⟩:∃r,eR s=r:=⟨_,rfl⟩
  rw[hA] at h;simp only at h;split at h
  ·cases h
  ·rename_i hc;rcases gh hA with⟨_,_,_,e,_⟩|⟨⟨e,_⟩|⟨e,_⟩,_⟩<;>omega
 refine⟨?_,aU⟩;unfold cz at h;obtain⟨⟨l,c,k'⟩,hA⟩:∃r,eR s=r:=⟨_,rfl⟩
 rw[hA] at h;simp only at h;split at h
 ·cases h
 ·rename_i hc;have hA:eR s=(l,0,0):=by
   rcases gh hA with⟨rfl,rfl,_⟩|⟨⟨e,_⟩|⟨e,_⟩,_⟩
   ·exact hA
   ·omega
   ·omega
  split at h
  ·rename_i z m hp;cases h
   have hg:=Ae hA;obtain⟨⟨k,hsp⟩,hn,hit⟩:=zD hg hp;have hs1:ji (tkS x.mem)<=s.length:=by
    have e:=hsp.2;rw[List.drop_zero] at e;have:=congrArg ji e;rw[um,dz] at this;have h2:=AG hA;omega
   have htl:(tkS x.mem).length<=s.length+1:=by
    have h1:=hsp.le (Nat.zero_le _);have h2:=(lm (l:=s)).2;rw[hA] at h2;simp only at h2;omega
   have hrt:∀y∈x.mem.items,bD y=true∧∀n∈y.xs,dR n:=by
    intro y hy;obtain⟨z,hz,rfl⟩:=List.mem_map.1 hy;exact⟨(hit z hz).rt,(hit z hz).xs⟩
   have hfl:(x.mem.items.flatMap gS).length<=s.length+1:=by
    unfold tkS at htl;simp only[List.length_append,List.length_cons,List.length_nil] at htl;omega
   refine⟨eU hn,?_,?_,?_,?_,?_⟩
   ·rw[List.all_eq_true];exact fun y hy=>(hrt y hy).1
   ·intro y hy;obtain⟨z,hz,rfl⟩:=List.mem_map.1 hy;exact⟨(hit z hz).fp,(hit z hz).tp,(hit z hz).xs⟩
   ·have h1:=tH x.mem.items hrt;unfold tkS at hs1;unfold dE;simp only[dz,fJ,iu,mU,mD,fe,List.length_append,List.length_cons,List.length_nil] at hs1 ⊢;have h2:1<=x.mem.name.data.toList.length:=by
     have e:x.mem.name.data.toList=x.name:=by unfold LSk.mem;simp
     rw[e];cases hx:x.name with
     |nil=>rw[hx] at hn;cases hn
     |cons c r=>simp
    omega
   ·have h1:=tF x.mem.items (fun y hy=>(hrt y hy).1);have e:x.mem.items.length=x.items.length:=by unfold LSk.mem;simp
    omega
   ·intro y hy;have hm:IZ y∈x.mem.items:=List.mem_map.2 ⟨y,hy,rfl⟩;have h1:=v7 hm;have h2:=(vg (hrt _ hm).1).1;have e:(IZ y).xs=y.xs:=rfl;rw[e] at h2;omega
  ·cases h
theorem ReadOk.bnd {x:LSk} {n:Nat} (h:ReadOk x n) (hn:n<=1048576):LBnd x:=by
 have hsz:∀s:ByteArray,aQ s=true->s.data.toList.length<=16:=fun s hs=>tP (by rw[<-gy];exact hs)
 have hem:∀s:ByteArray,dI s=true->s.data.toList.length<=16:=fun s hs=>by rw[lP hs];simp
 have hba:∀(s:ByteArray) (p:Int),fY s p=true->s.data.toList.length<=16:=fun s p hs=>by rw[(vu hs).1];simp
 refine⟨?_,?_,fun y hy=>?_,fun y hy=>?_⟩
 ·have:=hsz _ h.nm;have e:x.mem.name.data.toList=x.name:=by unfold LSk.mem;simp
  rw[e] at this;omega
 ·have:=h.it;omega
 ·have hm:IZ y∈x.mem.items:=List.mem_map.2 ⟨y,hy,rfl⟩;have hr:=List.all_eq_true.1 h.rt _ hm;have hx:=h.xl y hy;have e1:(IZ y).name.data.toList=y.name:=by unfold IZ LIt.mem;simp
  have e2:(IZ y).tag.data.toList=y.tag:=by unfold IZ LIt.mem;simp
  have e3:(IZ y).fn.data.toList=y.fr.name:=by unfold IZ LIt.mem;simp
  have e4:(IZ y).tn.data.toList=y.tu.name:=by unfold IZ LIt.mem;simp
  rw[<-e1,<-e2,<-e3,<-e4];have key:(IZ y).name.data.toList.length<=16∧(IZ y).tag.data.toList.length<=16∧(IZ y).fn.data.toList.length<=16∧(IZ y).tn.data.toList.length<=16:=by
   unfold bD at hr;split at hr
   ·simp only[Bool.and_eq_true] at hr;exact⟨hsz _ hr.1.1.1,hsz _ hr.1.1.2,hba _ _ hr.1.2,hba _ _ hr.2⟩
   ·split at hr
    ·simp only[Bool.and_eq_true] at hr;exact⟨hem _ hr.1.1.1,hem _ hr.1.1.2,hsz _ hr.1.2,hsz _ hr.2⟩
    ·split at hr
     ·simp only[Bool.and_eq_true] at hr;exact⟨hsz _ hr.1.1.1.1,hem _ hr.1.1.1.2,hba _ _ hr.1.2,hsz _ hr.2⟩
     ·split at hr
      ·simp only[Bool.and_eq_true] at hr;exact⟨hsz _ hr.1.1.1.1,hem _ hr.1.1.1.2,hsz _ hr.1.2,hba _ _ hr.2⟩
      ·cases hr
  omega
 ·have hm:IZ y∈x.mem.items:=List.mem_map.2 ⟨y,hy,rfl⟩;obtain⟨a,b,c⟩:=h.bd _ hm;exact⟨a,b,c⟩
end Go.Proofs.YtnedmonlofbahaaGreatDoor
