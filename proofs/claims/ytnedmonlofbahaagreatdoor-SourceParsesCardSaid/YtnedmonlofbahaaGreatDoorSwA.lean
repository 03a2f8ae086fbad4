/-
  SkP, SkQ, SkA, SkB, SkS, SkC, XY, SkG: what is wanted of them.
-/
import Derived.Test.YtnedmonlofbahaaGreatDoorLxB
import Derived.Test.YtnedmonlofbahaaGreatDoorDbl
import Derived.Recover
import Derived.Shelf.Strings.Builder1
import Derived.Shelf.Strings.BuilderF
import Derived.Shelf.Strings.BuilderK
import Derived.Shelf.LaysM
import Derived.Shelf.LaysC
import Derived.Test.YtnedmonlofbahaaGreatDoorProg
import Derived.Lib.AppendStr
import Derived.Lib.Builder
import Derived.Lib.UnsafeStr
set_option maxRecDepth 100000
set_option maxHeartbeats 8000000
namespace Go.Proofs.YtnedmonlofbahaaGreatDoor
open Go
set_option linter.all false
inductive PR (α:Type) where
 |good (x:α) (k:Nat)
 |bad (k:Nat)
def PR.bind {α β:Type} (r:PR α) (f:α->Nat->PR β):PR β:=match r with
 | .good x k=>f x k
 | .bad k=> .bad k
@[simp] theorem PR.bind_good {α β:Type} (x:α) (k:Nat) (f:α->Nat->PR β):(PR.good x k).bind f=f x k:=rfl
@[simp] theorem PR.bind_bad {α β:Type} (k:Nat) (f:α->Nat->PR β):(PR.bad k:PR α).bind f= .bad k:=rfl
theorem PR.bind_assoc {α β γ:Type} (r:PR α) (f:α->Nat->PR β) (g:β->Nat->PR γ):(r.bind f).bind g=r.bind fun x k=>(f x k).bind g:=by cases r<;>rfl
theorem PR.bind_inv {α β:Type} {r:PR α} {f:α->Nat->PR β} {y:β} {m:Nat} (h:r.bind f= .good y m):∃x k,r= .good x k∧f x k= .good y m:=by
 cases r with
 |good x k=>exact⟨x,k,rfl,h⟩
 |bad k=>cases h
def cp (so:Int) (l:List LTok) (k:Nat):PR LTok:=match l[k]? with
 |some t=>if t.sort=so then .good t (k+1) else .bad k
 |none=> .bad k
def ce (so:Int) (b:List UInt8) (l:List LTok) (k:Nat):Bool:=match l[k]? with
 |some t=>decide (t.sort=so∧t.text=b)
 |none=>false
def bC (so:Int) (b:List UInt8) (l:List LTok) (k:Nat):PR Unit:=if ce so b l k=true then .good () (k+1) else .bad k
def m8:List LTok->List Int
 |[]=>[]
 |t::r=>if t.sort=2 then t.num::m8 r else[]
def cQ (l:List LTok) (k:Nat):List Int:=m8 (l.drop k)
def numsP (l:List LTok) (k:Nat):PR (List Int):= .good (cQ l k) (k+(cQ l k).length)
structure LPl where
 name:List UInt8
 port:Int
 at_:Nat
def cM (l:List LTok) (k:Nat):PR LPl:=(cp 1 l k).bind fun t k1=>(bC 3 [46] l k1).bind fun _ k2=>(cp 2 l k2).bind fun n k3=> .good ⟨t.text,n.num,t.at_⟩ k3
structure LIt where
 kind:Int
 name:List UInt8
 tag:List UInt8
 xs:List Int
 fr:LPl
 tu:LPl
 at_:Nat
def plZ:LPl:=⟨[],0,0⟩
def fN:List UInt8:=[97,99,116,111,114]
def ib:List UInt8:=[101,100,103,101]
def inW:List UInt8:=[105,110]
def mH:List UInt8:=[111,117,116]
def gE:List UInt8:=[119,105,116,104]
def fe:List UInt8:=[103,114,97,112,104]
def fA (a:Nat) (l:List LTok) (k:Nat):PR LIt:=(cp 1 l k).bind fun n k1=>(bC 3 [61] l k1).bind fun _ k2=>(cp 1 l k2).bind fun g k3=>(numsP l k3).bind fun xs k4=> .good ⟨1,n.text,g.text,xs,plZ,plZ,a⟩ k4
def withP (l:List LTok) (k:Nat):PR (List Int):=if ce 1 gE l k=true then(cp 2 l (k+1)).bind fun n k1=>(numsP l k1).bind fun xs k2=> .good (n.num::xs) k2 else .good [] k
def fE (a:Nat) (l:List LTok) (k:Nat):PR LIt:=(cM l k).bind fun p k1=>(bC 3 [45,62] l k1).bind fun _ k2=>(cM l k2).bind fun q k3=>(withP l k3).bind fun xs k4=> .good ⟨2,[],[],xs,p,q,a⟩ k4
def inP (a:Nat) (l:List LTok) (k:Nat):PR LIt:=(cp 1 l k).bind fun n k1=>(bC 3 [45,62] l k1).bind fun _ k2=>(cM l k2).bind fun q k3=> .good ⟨3,n.text,[],[],plZ,q,a⟩ k3
def lv (a:Nat) (l:List LTok) (k:Nat):PR LIt:=(cM l k).bind fun p k1=>(bC 3 [45,62] l k1).bind fun _ k2=>(cp 1 l k2).bind fun n k3=> .good ⟨4,n.text,[],[],p,plZ,a⟩ k3
def fZ (l:List LTok) (k:Nat):PR LIt:=match l[k]? with
 |none=> .bad k
 |some t=>if t.sort=1∧t.text=fN then fA t.at_ l (k+1) else if t.sort=1∧t.text=ib then fE t.at_ l (k+1) else if t.sort=1∧t.text=inW then inP t.at_ l (k+1) else if t.sort=1∧t.text=mH then lv t.at_ l (k+1) else .bad k
def bN (l:List LTok) (k:Nat):PR LIt:=(fZ l k).bind fun x k1=>(bC 3 [59] l k1).bind fun _ k2=> .good x k2
def bJ:Nat->List LTok->Nat->PR (List LIt)
 |0,_,k=> .bad k
 |f+1,l,k=>if ce 3 [125] l k=true then .good [] k else(bN l k).bind fun x k1=>(bJ f l k1).bind fun xs k2=> .good (x::xs) k2
structure LSk where
 name:List UInt8
 items:List LIt
def cV (l:List LTok):PR LSk:=(bC 1 fe l 0).bind fun _ k1=>(cp 1 l k1).bind fun n k2=>(bC 3 [123] l k2).bind fun _ k3=>(bJ l.length l k3).bind fun xs k4=>(bC 3 [125] l k4).bind fun _ k5=>(cp 0 l k5).bind fun _ k6=> .good ⟨n.text,xs⟩ k6
def cz (s:List UInt8):Except (Int×Nat) LSk:=match eR s with
 |(l,c,k)=>if c≠0 then .error (c,k) else match cV l with
  | .good x _=> .ok x
  | .bad j=> .error (50,(l[j]?.map LTok.at_).getD 0)
def dT (l:List LTok):Prop:=l≠[]∧∀k t,l[k]? =some t->(t.sort≠0 ↔ k+1<l.length)∧ -9223372036854775808<=t.num∧t.num<=9223372036854775807∧0<=t.sort
theorem gq {so:Int} {l:List LTok} {k m:Nat} {t:LTok} (h:cp so l k= .good t m):l[k]? =some t∧t.sort=so∧m=k+1:=by
 unfold cp at h;split at h
 ·rename_i u hu;split at h
  ·rename_i hs;cases h;exact⟨hu,hs,rfl⟩
  ·cases h
 ·cases h
theorem cO {so:Int} {l:List LTok} {k:Nat} {t:LTok} (h:l[k]? =some t):cp so l k=if t.sort=so then .good t (k+1) else .bad k:=by unfold cp;rw[h]
theorem dg {so:Int} {b:List UInt8} {l:List LTok} {k:Nat} {t:LTok} (h:l[k]? =some t):ce so b l k=decide (t.sort=so∧t.text=b):=by unfold ce;rw[h]
theorem kC {so:Int} {b:List UInt8} {l:List LTok} {k:Nat} (h:ce so b l k=true):∃t,l[k]? =some t∧t.sort=so∧t.text=b:=by
 unfold ce at h;split at h
 ·rename_i t ht;exact⟨t,ht,by simpa using h⟩
 ·cases h
theorem ja {so:Int} {b:List UInt8} {l:List LTok} {k m:Nat} {u:Unit} (h:bC so b l k= .good u m):∃t,l[k]? =some t∧t.sort=so∧t.text=b∧m=k+1:=by
 unfold bC at h;split at h
 ·rename_i hl;cases h;obtain⟨t,h1,h2,h3⟩:=kC hl;exact⟨t,h1,h2,h3,rfl⟩
 ·cases h
theorem wt:∀l:List LTok,(m8 l).length<=l.length:=by
 intro l;induction l with
 |nil=>exact Nat.le_refl _
 |cons t r ih=>unfold m8;split<;>simp<;>omega
theorem eM {l:List LTok} {k:Nat} {t:LTok} (h:l[k]? =some t):cQ l k=if t.sort=2 then t.num::cQ l (k+1) else[]:=by
 obtain⟨hk,e⟩:=List.getElem?_eq_some_iff.1 h;unfold cQ;rw[List.drop_eq_getElem_cons hk,e];rfl
theorem wq:∀(l:List LTok) (i:Nat),i<(m8 l).length->∃t,l[i]? =some t∧t.sort=2∧(m8 l)[i]? =some t.num:=by
 intro l;induction l with
 |nil=>intro i h;simp[m8] at h
 |cons t r ih=>
  intro i h;unfold m8 at h ⊢;split at h
  ·rename_i hs;rw[if_pos hs];cases i with
   |zero=>exact⟨t,rfl,hs,rfl⟩
   |succ i=>exact ih i (by simpa using h)
  ·simp at h
theorem pR {l:List LTok} {k i:Nat} (h:i<(cQ l k).length):∃t,l[k+i]? =some t∧t.sort=2∧(cQ l k)[i]? =some t.num:=by
 obtain⟨t,h1,h2,h3⟩:=wq _ i h;rw[List.getElem?_drop] at h1;exact⟨t,h1,h2,h3⟩
theorem dT.next {l:List LTok} (h:dT l) {k:Nat} {t:LTok} (ht:l[k]? =some t) (hs:t.sort≠0):k+1<l.length:=(h.2 k t ht).1.1 hs
theorem dT.take {l:List LTok} (h:dT l) {so:Int} {k m:Nat} {t:LTok} (ht:cp so l k= .good t m) (hs:so≠0):m<l.length∧k<m:=by
 obtain⟨h1,h2,rfl⟩:=gq ht;exact⟨h.next h1 (by omega),by omega⟩
theorem dT.must {l:List LTok} (h:dT l) {so:Int} {b:List UInt8} {k m:Nat} {u:Unit} (ht:bC so b l k= .good u m) (hs:so≠0):m<l.length∧k<m:=by
 obtain⟨t,h1,h2,_,rfl⟩:=ja ht;exact⟨h.next h1 (by omega),by omega⟩
theorem dT.nums {l:List LTok} (h:dT l) {k:Nat} (hk:k<l.length):k+(cQ l k).length<l.length:=by
 rcases Nat.eq_zero_or_pos (cQ l k).length with h0|h0
 ·omega
 ·obtain⟨t,h1,h2,_⟩:=pR (l:=l) (k:=k) (i:=(cQ l k).length-1) (by omega);have:=h.next h1 (by omega);omega
theorem pS {l:List LTok} {k m:Nat} {xs:List Int} (h:numsP l k= .good xs m):xs=cQ l k∧m=k+(cQ l k).length:=by unfold numsP at h;cases h;exact⟨rfl,rfl⟩
theorem dT.numsP {l:List LTok} (h:dT l) {k m:Nat} {xs:List Int} (hk:k<l.length) (hp:numsP l k= .good xs m):m<l.length∧k<=m:=by
 obtain⟨_,rfl⟩:=pS hp;exact⟨h.nums hk,by omega⟩
theorem dT.place {l:List LTok} (h:dT l) {k m:Nat} {p:LPl} (hp:cM l k= .good p m):m<l.length∧k<m:=by
 unfold cM at hp;obtain⟨t,k1,h1,hp⟩:=PR.bind_inv hp;obtain⟨_,k2,h2,hp⟩:=PR.bind_inv hp;obtain⟨n,k3,h3,hp⟩:=PR.bind_inv hp;cases hp
 have a:=h.take h1 (by decide);have b:=h.must h2 (by decide);have c:=h.take h3 (by decide);exact⟨c.1,by omega⟩
theorem dT.withP {l:List LTok} (h:dT l) {k m:Nat} {xs:List Int} (hk:k<l.length) (hp:withP l k= .good xs m):m<l.length∧k<=m:=by
 unfold Proofs.YtnedmonlofbahaaGreatDoor.withP at hp;split at hp
 ·obtain⟨n,k1,h1,hp⟩:=PR.bind_inv hp;obtain⟨_,k2,h2,hp⟩:=PR.bind_inv hp;cases hp
  have a:=h.take h1 (by decide);have b:=h.numsP a.1 h2;exact⟨b.1,by omega⟩
 ·cases hp;exact⟨hk,Nat.le_refl _⟩
theorem dT.body {l:List LTok} (h:dT l) {k m:Nat} {x:LIt} (hp:fZ l k= .good x m):m<l.length∧k<m:=by
 unfold fZ at hp;split at hp
 ·cases hp
 ·rename_i t ht;split at hp
  ·rename_i hs;unfold fA at hp;obtain⟨n,k1,h1,hp⟩:=PR.bind_inv hp;obtain⟨_,k2,h2,hp⟩:=PR.bind_inv hp;obtain⟨g,k3,h3,hp⟩:=PR.bind_inv hp;obtain⟨xs,k4,h4,hp⟩:=PR.bind_inv hp;cases hp
   have a:=h.take h1 (by decide);have b:=h.must h2 (by decide);have c:=h.take h3 (by decide);have d:=h.numsP c.1 h4;exact⟨d.1,by omega⟩
  ·split at hp
   ·unfold fE at hp;obtain⟨n,k1,h1,hp⟩:=PR.bind_inv hp;obtain⟨_,k2,h2,hp⟩:=PR.bind_inv hp;obtain⟨g,k3,h3,hp⟩:=PR.bind_inv hp;obtain⟨xs,k4,h4,hp⟩:=PR.bind_inv hp;cases hp
    have a:=h.place h1;have b:=h.must h2 (by decide);have c:=h.place h3;have d:=h.withP c.1 h4;exact⟨d.1,by omega⟩
   ·split at hp
    ·unfold inP at hp;obtain⟨n,k1,h1,hp⟩:=PR.bind_inv hp;obtain⟨_,k2,h2,hp⟩:=PR.bind_inv hp;obtain⟨g,k3,h3,hp⟩:=PR.bind_inv hp;cases hp
     have a:=h.take h1 (by decide);have b:=h.must h2 (by decide);have c:=h.place h3;exact⟨c.1,by omega⟩
    ·split at hp
     ·unfold lv at hp;obtain⟨n,k1,h1,hp⟩:=PR.bind_inv hp;obtain⟨_,k2,h2,hp⟩:=PR.bind_inv hp;obtain⟨g,k3,h3,hp⟩:=PR.bind_inv hp;cases hp
      have a:=h.place h1;have b:=h.must h2 (by decide);have c:=h.take h3 (by decide);exact⟨c.1,by omega⟩
     ·cases hp
theorem dT.item {l:List LTok} (h:dT l) {k m:Nat} {x:LIt} (hp:bN l k= .good x m):m<l.length∧k<m:=by
 unfold bN at hp;obtain⟨n,k1,h1,hp⟩:=PR.bind_inv hp;obtain⟨_,k2,h2,hp⟩:=PR.bind_inv hp;cases hp
 have a:=h.body h1;have b:=h.must h2 (by decide);exact⟨b.1,by omega⟩
theorem pH {s:List UInt8} {l:List LTok} (h:eR s=(l,0,0)):dT l:=by
 have hp:=jB h;obtain⟨h1,_,h3⟩:=hp;refine⟨by intro e;subst e;simp at h3,fun k t ht=>?_⟩;obtain⟨hk,rfl⟩:=List.getElem?_eq_some_iff.1 ht;obtain⟨_,_,_,h4,h5,_⟩:=h1 k hk;rcases h4 with⟨e1,e2⟩|⟨e1,e2,e3⟩
 ·exact⟨⟨fun h=>absurd e2 h,fun h=>by omega⟩,h5.1,h5.2,by omega⟩
 ·refine⟨⟨fun _=>by omega,fun _=>e2⟩,h5.1,h5.2,?_⟩;unfold LTok.right at e3;split at e3
  ·omega
  ·split at e3
   ·omega
   ·split at e3
    ·omega
    ·cases e3
def LTok.bare0 (t:LTok):LTok:=⟨t.sort,t.text,t.num,0⟩
def LTok.like (t u:LTok):Prop:=t.sort=u.sort∧t.text=u.text∧t.num=u.num
def cD (j:Nat) (l m:List LTok):Prop:=(∀i,i<j->∃t u,l[i]? =some t∧m[i]? =some u∧t.like u)∧∃u,m[j]? =some u∧(u.sort=0∨∃t,l[j]? =some t∧t.like u)
def Det {α:Type} (R:α->α->Prop) (p q:PR α) (k j:Nat):Prop:=match p with
 | .bad i=>k<=i∧(i<=j->q= .bad i)
 | .good x i=>k<=i∧(i<=j->∃y,q= .good y i∧R x y)
theorem Det.bind {α β:Type} {R:α->α->Prop} {S:β->β->Prop} {p q:PR α} {f g:α->Nat->PR β} {k j:Nat} (h:Det R p q k j) (hf:∀x y i,k<=i->(i<=j->R x y)->Det S (f x i) (g y i) i j):Det S (p.bind f) (q.bind g) k j:=by
 cases p with
 |bad i=>exact⟨h.1,fun hi=>by rw[h.2 hi];rfl⟩
 |good x i=>
  obtain⟨h1,h2⟩:=h;show Det S (f x i) (q.bind g) k j
  by_cases hi:i<=j
  ·obtain⟨y,rfl,hr⟩:=h2 hi;have h3:=hf x y i h1 (fun _=>hr);show Det S (f x i) (g y i) k j
   generalize f x i=r at h3 ⊢;cases r with
   |bad a=>exact⟨Nat.le_trans h1 h3.1,h3.2⟩
   |good z a=>exact⟨Nat.le_trans h1 h3.1,h3.2⟩
  ·have h3:=hf x x i h1 (fun h=>absurd h hi);generalize f x i=r at h3 ⊢;cases r with
   |bad a=>exact⟨Nat.le_trans h1 h3.1,fun ha=>by have:=h3.1;omega⟩
   |good z a=>exact⟨Nat.le_trans h1 h3.1,fun ha=>by have:=h3.1;omega⟩
theorem Det.good {α:Type} {R:α->α->Prop} {x y:α} {k j:Nat} (h:k<=j->R x y):Det R (.good x k) (.good y k) k j:=⟨Nat.le_refl _,fun hk=>⟨y,rfl,h hk⟩⟩
theorem Det.far {α:Type} {R:α->α->Prop} {p q q':PR α} {k i j:Nat} (h:Det R p q i j) (hi:j<i) (hk:k<=i):Det R p q' k j:=by
 cases p with
 |bad a=>exact⟨Nat.le_trans hk h.1,fun ha=>by have:=h.1;omega⟩
 |good x a=>exact⟨Nat.le_trans hk h.1,fun ha=>by have:=h.1;omega⟩
section
variable {l m:List LTok} {j:Nat}
theorem cD.take (h:cD j l m) {so:Int} (hs:so≠0) (k:Nat):Det LTok.like (cp so l k) (cp so m k) k j:=by
 rcases Nat.lt_trichotomy k j with hk|rfl|hk
 ·obtain⟨t,u,h1,h2,h3⟩:=h.1 k hk;rw[cO h1,cO h2,<-h3.1];split
  ·exact⟨Nat.le_succ _,fun _=>⟨u,rfl,h3⟩⟩
  ·exact⟨Nat.le_refl _,fun _=>rfl⟩
 ·obtain⟨u,h2,h3⟩:=h.2;rw[cO h2];unfold cp;split
  ·rename_i t ht;split
   ·exact⟨Nat.le_succ _,fun h=>absurd h (by omega)⟩
   ·rename_i hts;refine⟨Nat.le_refl _,fun _=>if_neg ?_⟩;rcases h3 with h3|⟨t',h1,h3⟩
    ·omega
    ·rw[ht] at h1;cases h1;rw[<-h3.1];exact hts
  ·rename_i hn;refine⟨Nat.le_refl _,fun _=>if_neg ?_⟩;rcases h3 with h3|⟨t',h1,h3⟩
   ·omega
   ·rw[hn] at h1;cases h1
 ·unfold cp;split
  ·split
   ·exact⟨Nat.le_succ _,fun h=>absurd h (by omega)⟩
   ·exact⟨Nat.le_refl _,fun h=>absurd h (by omega)⟩
  ·exact⟨Nat.le_refl _,fun h=>absurd h (by omega)⟩
theorem cD.look (h:cD j l m) {so:Int} (hs:so≠0) (b:List UInt8) {k:Nat} (hk:k<=j):ce so b l k=ce so b m k∨k=j∧ce so b l k=true:=by
 rcases Nat.lt_or_ge k j with hk|hk
 ·obtain⟨t,u,h1,h2,h3⟩:=h.1 k hk;left
  rw[dg h1,dg h2,h3.1,h3.2.1]
 ·obtain rfl:k=j:=by omega
  obtain⟨u,h2,h3⟩:=h.2;cases e:ce so b l k with
  |true=>exact .inr ⟨rfl,rfl⟩
  |false=>
   left
   rw[dg h2];rcases h3 with h3|⟨t',h1,h3⟩
   ·exact(decide_eq_false (by omega)).symm
   ·rw[dg h1,h3.1,h3.2.1] at e;exact e.symm
theorem cD.must (h:cD j l m) {so:Int} (hs:so≠0) (b:List UInt8) (k:Nat):Det (fun _ _=>True) (bC so b l k) (bC so b m k) k j:=by
 unfold bC;by_cases hk:k<=j
 ·rcases h.look hs b hk with e|⟨rfl,e⟩
  ·rw[e];split
   ·exact⟨Nat.le_succ _,fun _=>⟨(),rfl,trivial⟩⟩
   ·exact⟨Nat.le_refl _,fun _=>rfl⟩
  ·rw[if_pos e];exact⟨Nat.le_succ _,fun h=>absurd h (by omega)⟩
 ·split
  ·exact⟨Nat.le_succ _,fun h=>absurd h (by omega)⟩
  ·exact⟨Nat.le_refl _,fun h=>absurd h (by omega)⟩
theorem cD.num (h:cD j l m):∀(n k:Nat),(cQ l k).length=n->k+n<=j->cQ m k=cQ l k:=by
 intro n;induction n with
 |zero=>
  intro k hn hk;have e:cQ l k=[]:=List.eq_nil_of_length_eq_zero hn;rw[e];have hu:∃u,m[k]? =some u∧u.sort≠2:=by
   rcases Nat.lt_or_ge k j with hk|hk
   ·obtain⟨t,u,h1,h2,h3⟩:=h.1 k hk;refine⟨u,h2,fun hu=>?_⟩;rw[eM h1,if_pos (by rw[h3.1];exact hu)] at e;cases e
   ·obtain rfl:k=j:=by omega
    obtain⟨u,h2,h3⟩:=h.2;refine⟨u,h2,fun hu=>?_⟩;rcases h3 with h3|⟨t',h1,h3⟩
    ·omega
    ·rw[eM h1,if_pos (by rw[h3.1];exact hu)] at e;cases e
  obtain⟨u,h2,hu⟩:=hu;rw[eM h2,if_neg hu]
 |succ n ih=>
  intro k hn hk;obtain⟨t,u,h1,h2,h3⟩:=h.1 k (by omega);rw[eM h1] at hn ⊢;by_cases hs:t.sort=2
  ·rw[if_pos hs] at hn ⊢;rw[eM h2,if_pos (by rw[<-h3.1];exact hs),h3.2.2,ih (k+1) (by simpa using hn) (by omega)]
  ·rw[if_neg hs] at hn;cases hn
theorem cD.nums (h:cD j l m) (k:Nat):Det Eq (numsP l k) (numsP m k) k j:=by
 unfold numsP;refine⟨by omega,fun hi=>?_⟩;rw[h.num _ k rfl hi];exact⟨_,rfl,rfl⟩
def LPl.bare (p:LPl):LPl:=⟨p.name,p.port,0⟩
def LIt.bare (x:LIt):LIt:=⟨x.kind,x.name,x.tag,x.xs,x.fr.bare,x.tu.bare,0⟩
def LSk.bare (s:LSk):LSk:=⟨s.name,s.items.map LIt.bare⟩
abbrev xu (p q:LPl):Prop:=p.bare=q.bare
abbrev gF (x y:LIt):Prop:=x.bare=y.bare
theorem cD.place (h:cD j l m) (k:Nat):Det xu (cM l k) (cM m k) k j:=by
 unfold cM;refine(h.take (by decide) k).bind fun t u i _ ht=>(h.must (by decide) _ i).bind fun _ _ i2 h2 _=>(h.take (by decide) i2).bind fun n n' i3 h3 hn=>Det.good fun hj=>?_
 have a:=ht (by omega);have b:=hn hj;unfold xu LPl.bare;rw[a.2.1,b.2.2]
theorem cD.withs (h:cD j l m) (k:Nat):Det Eq (withP l k) (withP m k) k j:=by
 have hb:∀k,Det Eq ((cp 2 l k).bind fun n k1=>(numsP l k1).bind fun xs k2=> .good (n.num::xs) k2) ((cp 2 m k).bind fun n k1=>(numsP m k1).bind fun xs k2=> .good (n.num::xs) k2) k j:=fun k=>
  (h.take (by decide) k).bind fun t u i _ ht=>(h.nums i).bind fun xs ys i2 h2 hx=>Det.good fun hj=>by rw[(ht (by omega)).2.2,hx hj]
 unfold withP;by_cases hk:k<=j
 ·rcases h.look (so:=1) (by decide) gE hk with e|⟨rfl,e⟩
  ·rw[e];split
   ·have:=hb (k+1);generalize((cp 2 l (k+1)).bind fun n k1=>(numsP l k1).bind fun xs k2=>PR.good (n.num::xs) k2)=r at this ⊢;cases r with
    |bad a=>exact⟨by have:=this.1;omega,this.2⟩
    |good z a=>exact⟨by have:=this.1;omega,this.2⟩
   ·exact Det.good fun _=>rfl
  ·rw[if_pos e];exact(hb (k+1)).far (by omega) (by omega)
 ·split
  ·exact(hb (k+1)).far (by omega) (by omega)
  ·exact(Det.good (R:=Eq) fun _=>rfl:Det Eq (PR.good ([]:List Int) k) (.good [] k) k j).far (by omega) (Nat.le_refl _)
theorem Det.up {α:Type} {R:α->α->Prop} {p q:PR α} {k i j:Nat} (h:Det R p q i j) (hk:k<=i):Det R p q k j:=by
 cases p with
 |bad a=>exact⟨Nat.le_trans hk h.1,h.2⟩
 |good x a=>exact⟨Nat.le_trans hk h.1,h.2⟩
theorem cD.actor (h:cD j l m) (a b k:Nat):Det gF (fA a l k) (fA b m k) k j:=by
 unfold fA;refine(h.take (by decide) k).bind fun t u i _ ht=>(h.must (by decide) _ i).bind fun _ _ i2 h2 _=>(h.take (by decide) i2).bind fun n n' i3 h3 hn=>(h.nums i3).bind fun xs ys i4 h4 hx=>Det.good fun hj=>?_
 unfold gF LIt.bare;simp only[(ht (by omega)).2.1,(hn (by omega)).2.1,hx hj]
theorem cD.edge (h:cD j l m) (a b k:Nat):Det gF (fE a l k) (fE b m k) k j:=by
 unfold fE;refine(h.place k).bind fun t u i _ ht=>(h.must (by decide) _ i).bind fun _ _ i2 h2 _=>(h.place i2).bind fun n n' i3 h3 hn=>(h.withs i3).bind fun xs ys i4 h4 hx=>Det.good fun hj=>?_
 have e1:t.bare=u.bare:=ht (by omega);have e2:n.bare=n'.bare:=hn (by omega);unfold gF LIt.bare;simp only[e1,e2,hx hj]
theorem cD.inn (h:cD j l m) (a b k:Nat):Det gF (inP a l k) (inP b m k) k j:=by
 unfold inP;refine(h.take (by decide) k).bind fun t u i _ ht=>(h.must (by decide) _ i).bind fun _ _ i2 h2 _=>(h.place i2).bind fun n n' i3 h3 hn=>Det.good fun hj=>?_
 have e2:n.bare=n'.bare:=hn (by omega);unfold gF LIt.bare;simp only[(ht (by omega)).2.1,e2]
theorem cD.out (h:cD j l m) (a b k:Nat):Det gF (lv a l k) (lv b m k) k j:=by
 unfold lv;refine(h.place k).bind fun t u i _ ht=>(h.must (by decide) _ i).bind fun _ _ i2 h2 _=>(h.take (by decide) i2).bind fun n n' i3 h3 hn=>Det.good fun hj=>?_
 have e2:t.bare=u.bare:=ht (by omega);unfold gF LIt.bare;simp only[(hn (by omega)).2.1,e2]
theorem cD.body (h:cD j l m) (k:Nat):Det gF (fZ l k) (fZ m k) k j:=by
 have Dy:j<=k->Det gF (fZ l k) (fZ m k) k j∨∀q,j<k+1->Det gF (fZ l k) q k j:=by
  intro hk;unfold fZ;split
  ·rename_i hn;left
   refine⟨Nat.le_refl _,fun hj=>?_⟩;obtain rfl:k=j:=by omega
   obtain⟨u,h2,h3⟩:=h.2;rcases h3 with h3|⟨t',h1,h3⟩
   ·rw[h2];simp only;rw[if_neg (by omega),if_neg (by omega),if_neg (by omega),if_neg (by omega)]
   ·rw[hn] at h1;cases h1
  ·rename_i t ht;split
   ·right;exact fun q hq=>(h.actor t.at_ t.at_ (k+1)).far (by omega) (by omega)
   ·split
    ·right;exact fun q hq=>(h.edge t.at_ t.at_ (k+1)).far (by omega) (by omega)
    ·split
     ·right;exact fun q hq=>(h.inn t.at_ t.at_ (k+1)).far (by omega) (by omega)
     ·split
      ·right;exact fun q hq=>(h.out t.at_ t.at_ (k+1)).far (by omega) (by omega)
      ·rename_i n1 n2 n3 n4;left
       refine⟨Nat.le_refl _,fun hj=>?_⟩;obtain rfl:k=j:=by omega
       obtain⟨u,h2,h3⟩:=h.2;rw[h2];simp only;rcases h3 with h3|⟨t',h1,h3⟩
       ·rw[if_neg (by omega),if_neg (by omega),if_neg (by omega),if_neg (by omega)]
       ·rw[ht] at h1;cases h1
        rw[<-h3.1,<-h3.2.1,if_neg n1,if_neg n2,if_neg n3,if_neg n4]
 rcases Nat.lt_or_ge k j with hk|hk
 ·obtain⟨t,u,h1,h2,h3⟩:=h.1 k hk;unfold fZ;rw[h1,h2];simp only;rw[<-h3.1,<-h3.2.1];split
  ·exact(h.actor _ _ (k+1)).up (by omega)
  ·split
   ·exact(h.edge _ _ (k+1)).up (by omega)
   ·split
    ·exact(h.inn _ _ (k+1)).up (by omega)
    ·split
     ·exact(h.out _ _ (k+1)).up (by omega)
     ·exact⟨Nat.le_refl _,fun _=>rfl⟩
 ·rcases Dy hk with h1|h1
  ·exact h1
  ·exact h1 _ (by omega)
theorem cD.item (h:cD j l m) (k:Nat):Det gF (bN l k) (bN m k) k j:=by
 unfold bN;exact(h.body k).bind fun t u i _ ht=>(h.must (by decide) _ i).bind fun _ _ i2 h2 _=>Det.good fun hj=>ht (by omega)
theorem uD {l:List LTok} {k i:Nat} {x:LIt} (h:bN l k= .good x i):k<i:=by
 have hA:∀ {so:Int} {k m:Nat} {t:LTok},cp so l k= .good t m->k<m:=fun h=>by obtain⟨_,_,rfl⟩:=gq h;omega
 unfold bN at h;obtain⟨y,k1,h1,h⟩:=PR.bind_inv h;obtain⟨_,k2,h2,h⟩:=PR.bind_inv h;cases h
 obtain⟨_,_,_,_,rfl⟩:=ja h2;have hd:∀j,cD j l l->k<=k1:=fun j hj=>by have:=hj.body k;rw[h1] at this;exact this.1
 unfold fZ at h1;split at h1
 ·cases h1
 ·rename_i t ht;have hk:k<l.length:=(List.getElem?_eq_some_iff.1 ht).1;have:=hd k ⟨fun i hi=>⟨l[i],l[i],List.getElem?_eq_getElem (by omega),List.getElem?_eq_getElem (by omega),rfl,rfl,rfl⟩,t,ht,.inr ⟨t,ht,rfl,rfl,rfl⟩⟩;omega
def g9 (f:Nat) (l:List LTok) (k:Nat):PR (List LIt):=(bJ f l k).bind fun xs k1=>(bC 3 [125] l k1).bind fun _ k2=> .good xs k2
theorem jT (l:List LTok) (k:Nat):g9 0 l k= .bad k:=rfl
theorem iC (f:Nat) (l:List LTok) (k:Nat):g9 (f+1) l k=if ce 3 [125] l k=true then .good [] (k+1) else(bN l k).bind fun x k1=>(g9 f l k1).bind fun xs k2=> .good (x::xs) k2:=by
 unfold g9;rw[bJ];split
 ·rename_i e;simp[bC,e]
 ·simp only[PR.bind_assoc,PR.bind_good]
abbrev zS (x y:List LIt):Prop:=x.map LIt.bare=y.map LIt.bare
def PR.from {α:Type} (k:Nat):PR α->Prop
 | .bad i=>k<=i
 | .good _ i=>k<=i
theorem cD.mono0 (f:Nat) (k:Nat) (l:List LTok):(g9 f l k).from k:=by
 induction f generalizing k with
 |zero=>rw[jT];exact Nat.le_refl k
 |succ f ih=>
  rw[iC];by_cases e:ce 3 [125] l k=true
  ·rw[if_pos e];exact Nat.le_succ k
  ·rw[if_neg e];cases hi:bN l k with
   |bad i=>
    show k<=i
    by_cases hk:k<l.length
    ·have ha:cD k l l:=⟨fun i hi=>⟨l[i],l[i],List.getElem?_eq_getElem (by omega),List.getElem?_eq_getElem (by omega),rfl,rfl,rfl⟩,l[k],List.getElem?_eq_getElem hk,.inr ⟨l[k],List.getElem?_eq_getElem hk,rfl,rfl,rfl⟩⟩
     have:=ha.item k;rw[hi] at this;exact this.1
    ·unfold bN fZ at hi;rw[List.getElem?_eq_none (by omega)] at hi;cases hi;exact Nat.le_refl _
   |good x i=>
    have h1:=uD hi;have h2:=ih i;simp only[PR.bind_good];generalize g9 f l i=r at h2 ⊢;cases r with
    |bad a=>exact Nat.le_trans (Nat.le_of_lt h1) h2
    |good y a=>exact Nat.le_trans (Nat.le_of_lt h1) h2
theorem cD.block (h:cD j l m):∀(f g k:Nat),l.length<=k+f->m.length<=k+g->Det zS (g9 f l k) (g9 g m k) k j:=by
 intro f;induction f with
 |zero=>
  intro g k hf hg;rw[jT];refine⟨Nat.le_refl _,fun hk=>?_⟩;have hj:j<=l.length:=by
   rcases Nat.eq_zero_or_pos j with h0|h0
   ·omega
   ·obtain⟨t,u,h1,_⟩:=h.1 (j-1) (by omega);have:=(List.getElem?_eq_some_iff.1 h1).1;omega
  obtain rfl:k=j:=by omega
  obtain⟨u,h2,h3⟩:=h.2;have hs:u.sort=0:=by
   rcases h3 with h3|⟨t',h1,h3⟩
   ·exact h3
   ·have:=(List.getElem?_eq_some_iff.1 h1).1;omega
  cases g with
  |zero=>exact jT _ _
  |succ g=>
   rw[iC,dg h2,if_neg (by simp[hs])];unfold bN fZ;rw[h2];simp only;rw[if_neg (by omega),if_neg (by omega),if_neg (by omega),if_neg (by omega)];rfl
 |succ f ih=>
  intro g k hf hg;by_cases hk:k<=j
  ·have hm:k<m.length:=by
    obtain⟨u,h2,_⟩:=h.2;have:=(List.getElem?_eq_some_iff.1 h2).1;omega
   obtain⟨g,rfl⟩:∃g',g=g'+1:=⟨g-1,by omega⟩
   rw[iC,iC];rcases h.look (so:=3) (by decide) [125] hk with e|⟨rfl,e⟩
   ·rw[e];split
    ·exact⟨Nat.le_succ _,fun _=>⟨[],rfl,rfl⟩⟩
    ·have hi:=h.item k;cases hx:bN l k with
     |bad a=>rw[hx] at hi;exact⟨hi.1,fun ha=>by rw[hi.2 ha];rfl⟩
     |good x a=>
      have hlt:=uD hx;rw[hx] at hi;simp only[PR.bind_good];by_cases ha:a<=j
      ·obtain⟨y,hy,hxy⟩:=hi.2 ha;rw[hy];simp only[PR.bind_good];refine((ih g a (by omega) (by omega)).bind fun xs ys i hi hl=>Det.good fun hj=>?_).up (by omega);have e1:x.bare=y.bare:=hxy;have e2:xs.map LIt.bare=ys.map LIt.bare:=hl hj;show(x::xs).map LIt.bare=(y::ys).map LIt.bare
       rw[List.map_cons,List.map_cons,e1,e2]
      ·have h2:=cD.mono0 f a l;generalize g9 f l a=r at h2 ⊢;cases r with
       |bad b=>exact⟨by have h2:a<=b:=h2;omega,fun hb=>by have h2:a<=b:=h2;omega⟩
       |good y b=>exact⟨by have h2:a<=b:=h2;omega,fun hb=>by have h2:a<=b:=h2;omega⟩
   ·rw[if_pos e];exact⟨Nat.le_succ _,fun h=>absurd h (by omega)⟩
  ·have h2:=cD.mono0 (f+1) k l;generalize g9 (f+1) l k=r at h2 ⊢;cases r with
   |bad b=>exact⟨h2,fun hb=>by have h2:k<=b:=h2;omega⟩
   |good y b=>exact⟨h2,fun hb=>by have h2:k<=b:=h2;omega⟩
end
def ye (l:List LTok):PR LSk:=(bC 1 fe l 0).bind fun _ k1=>(cp 1 l k1).bind fun n k2=>(bC 3 [123] l k2).bind fun _ k3=>(g9 l.length l k3).bind fun xs k4=> .good ⟨n.text,xs⟩ k4
abbrev xv (x y:LSk):Prop:=x.bare=y.bare
theorem cD.head {l m:List LTok} {j:Nat} (h:cD j l m):Det xv (ye l) (ye m) 0 j:=by
 unfold ye;refine(h.must (by decide) _ 0).bind fun _ _ i _ _=>(h.take (by decide) i).bind fun t u i2 h2 ht=>(h.must (by decide) _ i2).bind fun _ _ i3 h3 _=>(h.block _ _ i3 (by omega) (by omega)).bind fun xs ys i4 h4 hx=>Det.good fun hj=>?_
 have e2:xs.map LIt.bare=ys.map LIt.bare:=hx hj;unfold xv LSk.bare;simp only[(ht (by omega)).2.1,e2]
open Go.RowKit Go.Joins
theorem bF {P:Program} {fn:Func} {R:Ending->World->Prop} {a:Act} {w:World} {c:List PanicEntry} (hd:a.defers=[]) (h:R (.panicked c) w):bodyPost P fn R (.panic c) a w:=by
 first|exact⟨hd,h⟩|exact h
abbrev iB (t:LTok):Value:= .agg #[.int .u8 t.sort,.string ⟨t.text.toArray⟩,I t.num,I t.at_]
structure PAt (w:World) (G:Nat) (l:List LTok) (a:Option Addr) (c k:Nat):Prop where
 bk:w.heap[G]? =some (.cells #[.slice a l.length c,I k] 95 (0,0))
 sl:ar w a (l.flatMap bm)
 ne:¬blk a G
 le:l.length<=2000000
theorem PAt.new {w w':World} {G:Nat} {l:List LTok} {a:Option Addr} {c k:Nat} (h:PAt w G l a c k) (n:New w w'):PAt w' G l a c k:=⟨Keeps.heap n h.bk (fun h=>h),h.sl.new n,h.ne,h.le⟩
theorem PAt.cells {w:World} {G:Nat} {l:List LTok} {a:Option Addr} {c k:Nat} (h:PAt w G l a c k):w.cell? ⟨G,0,none⟩=some (.slice a l.length c)∧w.cell? ⟨G,1,none⟩=some (I k)∧w.frozen? ⟨G,1,none⟩=false∧G<w.heap.size:=by
 refine⟨?_,?_,unfrozen_of_block h.bk 1,(Array.getElem?_eq_some_iff.1 h.bk).1⟩
 ·rw[cell_of_block h.bk 0];simp
 ·rw[cell_of_block h.bk 1];simp
theorem jh {S:Nat->Prop} {w w':World} {a:Option Addr} {xs:List Value} (h:ar w a xs) (k:Keeps S w w') (hS:∀g,blk a g->¬S g):ar w' a xs:=fun i hi=>by
 obtain⟨b,off,e,hc⟩:=h i hi;exact⟨b,off,e,k.cell hc (hS _ ⟨_,e,rfl⟩)⟩
theorem PAt.out0 {w:World} {G:Nat} {l:List LTok} {a:Option Addr} {c k R:Nat} (h:PAt w G l a c k) (hl:0<l.length) (hR:w.heap.size<=R):¬blk a R:=by
 obtain⟨b,o,e,q,-⟩:=mo h.sl hl;have:=World.block_lt_of_cell? w _ q;rintro⟨x,hx,rfl⟩;rw[e] at hx;cases hx
 simp only at this hR;omega
theorem PAt.go {w:World} {G:Nat} {l:List LTok} {a:Option Addr} {c k:Nat} (h:PAt w G l a c k) (j:Nat):PAt (w.setCell ⟨G,1,none⟩ (I j)) G l a c j∧Keeps (fun k=>k=G) w (w.setCell ⟨G,1,none⟩ (I j)):=by
 have ks:Keeps (fun k=>k=G) w (w.setCell ⟨G,1,none⟩ (I j)):=Keeps.setCell w _ _ rfl;refine⟨⟨?_,jh h.sl ks (fun g hg e=>h.ne (e▸hg)),h.ne,h.le⟩,ks⟩;rw[block_setCell h.bk];simp
def gu (at_:Nat):Value:= .iface 33 (.agg #[I 50,I at_])
def atT (l:List LTok) (k:Nat):Nat:=(l[k]?.map LTok.at_).getD 0
def xr (w:World) (G:Nat) (l:List LTok) (k:Nat) (e:Ending) (w':World):Prop:=e= .panicked [{ v:=gu (atT l k),recovered:=false }]∧Keeps (fun k=>k=G) w w'
def POk (w:World) (G:Nat) (l:List LTok) (a:Option Addr) (c:Nat) (v:Value) (k:Nat) (e:Ending) (w':World):Prop:=e= .returned v∧PAt w' G l a c k∧Keeps (fun k=>k=G) w w'
def PAs {α:Type} (w:World) (G:Nat) (l:List LTok) (a:Option Addr) (c:Nat) (val:α->Value) (res:PR α) (e:Ending) (w':World):Prop:=match res with
 | .bad k=>xr w G l k e w'
 | .good x k=>POk w G l a c (val x) k e w'
theorem dA (a b c d:Value) (W:World):(Instr.field 98 (.agg #[a,b,c,d]) 0).run Tryz.prog W= .ok a W∧(Instr.field 98 (.agg #[a,b,c,d]) 1).run Tryz.prog W= .ok b W∧
  (Instr.field 98 (.agg #[a,b,c,d]) 2).run Tryz.prog W= .ok c W∧(Instr.field 98 (.agg #[a,b,c,d]) 3).run Tryz.prog W= .ok d W:=⟨by kernel_rfl,by kernel_rfl,by kernel_rfl,by kernel_rfl⟩
theorem fX (w:World) (x0 x1 x2 x3:Value):(w.alloc (.cells #[x0,x1,x2,x3] 98)).heap[w.heap.size]? =some (.cells #[x0,x1,x2,x3] 98 (0,0)):=heap_alloc_new w _
theorem vc {w:World} {R:Nat} {x0 x1 x2 x3:Value} (h:w.heap[R]? =some (.cells #[x0,x1,x2,x3] 98 (0,0))) (u0 u1 u2 u3:Value):
  ((((w.setCell ⟨R,0,none⟩ u0).setCell ⟨R,1,none⟩ u1).setCell ⟨R,2,none⟩ u2).setCell ⟨R,3,none⟩ u3).heap[R]? =some (.cells #[u0,u1,u2,u3] 98 (0,0))∧Keeps (fun k=>k=R) w ((((w.setCell ⟨R,0,none⟩ u0).setCell ⟨R,1,none⟩ u1).setCell ⟨R,2,none⟩ u2).setCell ⟨R,3,none⟩ u3):=by
 have h1:=block_setCell (i:=0) h u0;have h2:=block_setCell (i:=1) h1 u1;have h3:=block_setCell (i:=2) h2 u2;have h4:=block_setCell (i:=3) h3 u3;refine⟨by rw[h4];simp,((((Keeps.setCell (S:=fun k=>k=R) w _ _ rfl).trans (Keeps.setCell (S:=fun k=>k=R) _ _ _ rfl) (fun _ _ h=>h)).trans (Keeps.setCell (S:=fun k=>k=R) _ _ _ rfl) (fun _ _ h=>h)).trans (Keeps.setCell (S:=fun k=>k=R) _ _ _ rfl) (fun _ _ h=>h))⟩
theorem eX {w:World} {R:Nat} {x0 x1 x2 x3:Value} (h:w.heap[R]? =some (.cells #[x0,x1,x2,x3] 98 (0,0))):
  w.cell? ⟨R,0,none⟩=some x0∧w.cell? ⟨R,1,none⟩=some x1∧w.cell? ⟨R,2,none⟩=some x2∧w.cell? ⟨R,3,none⟩=some x3∧(∀i,w.frozen? ⟨R,i,none⟩=false)∧R<w.heap.size:=by
 refine⟨?_,?_,?_,?_,fun i=>unfrozen_of_block h i,(Array.getElem?_eq_some_iff.1 h).1⟩
 ·rw[cell_of_block h 0];rfl
 ·rw[cell_of_block h 1];rfl
 ·rw[cell_of_block h 2];rfl
 ·rw[cell_of_block h 3];rfl
theorem cY (w:World) (G:Nat) (l:List LTok) (a:Option Addr) (c k:Nat) (h:PAt w G l a c k) (hk:k<l.length) (t:LTok) (ht:l[k]? =some t):
  Calls Tryz.prog 48 #[.pointer (some ⟨G,0,none⟩)] w fun e w'=>e= .returned (iB t)∧New w w':=by
 have na:New w (w.alloc (.cells #[.int .u8 0,.string ⟨#[]⟩,I 0,I 0] 98)):=(New.refl w).alloc _;have hb:=fX w (.int .u8 0) (.string ⟨#[]⟩) (I 0) (I 0);have h2:=h.new na;obtain⟨c0,c1,-,hG⟩:=h2.cells;obtain⟨b1,o1,e1,q0,q1,q2,q3⟩:=mo h2.sl hk;have et:l[k]=t:=by have:=List.getElem?_eq_getElem hk;rw[this] at ht;exact Option.some.inj ht
 rw[et] at q0 q1 q2 q3;have hle:=h.le;have hb1:b1<(w.alloc (.cells #[.int .u8 0,.string ⟨#[]⟩,I 0,I 0] 98)).heap.size:=World.block_lt_of_cell? _ _ q0;obtain⟨y0,y1,y2,y3,z,hR⟩:=eX hb;have z0:=z 0;have z1:=z 1;have z2:=z 2;have z3:=z 3;have HB:=Lib.hid hb;have HN:=Lib.hid na;have hkI:(k:Int)<(l.length:Int):=by omega
 obtain⟨n,hn⟩:∃n,l.length=n:=⟨_,rfl⟩
 rw[hn] at c0 hkI hle;obtain⟨so,tx,nu,at_⟩:=t;subst e1;obtain⟨T,hT⟩:∃T:ByteArray,(⟨tx.toArray⟩:ByteArray)=T:=⟨_,rfl⟩
 simp only[hT] at q0 q1 q2 q3 ⊢;clear h h2 hb na z hn et ht hk;have HT:=Lib.hid hT;clear hT;go_enter Tryz.func48,Tryz.ntmps48;go_wp2_with fail;obtain⟨R,hRe⟩:∃R,R=w.heap.size:=⟨_,rfl⟩
 rw[<-hRe] at y0 y1 y2 y3 z0 z1 z2 z3 hR HB ⊢;have HR:=Lib.hid (Nat.le_of_eq hRe.symm);clear hRe;generalize w.alloc (.cells #[.int .u8 0,.string ⟨#[]⟩,I 0,I 0] 98)=W at*;have hS0:(fun w':World=>w'.cell? ⟨G,0,none⟩=some (.slice (some ⟨b1,o1,none⟩) n c)∧w'.cell? ⟨G,1,none⟩=some (I (k:Int))∧w'.cell? ⟨b1,o1+k*4,none⟩=some (.int .u8 so)∧w'.cell? ⟨b1,o1+k*4+1,none⟩=some (.string T)∧w'.cell? ⟨b1,o1+k*4+2,none⟩=some (I nu)∧w'.cell? ⟨b1,o1+k*4+3,none⟩=some (I (at_:Int))∧G<w'.heap.size∧b1<w'.heap.size) W.drew:=⟨c0,c1,q0,q1,q2,q3,hG,hb1⟩
 refine aj (fun w':World=>w'.cell? ⟨G,0,none⟩=some (.slice (some ⟨b1,o1,none⟩) n c)∧w'.cell? ⟨G,1,none⟩=some (I (k:Int))∧w'.cell? ⟨b1,o1+k*4,none⟩=some (.int .u8 so)∧w'.cell? ⟨b1,o1+k*4+1,none⟩=some (.string T)∧w'.cell? ⟨b1,o1+k*4+2,none⟩=some (I nu)∧w'.cell? ⟨b1,o1+k*4+3,none⟩=some (I (at_:Int))∧G<w'.heap.size∧b1<w'.heap.size) [10] (by kernel_rfl) hS0 ?_;refine ae 0 hS0 ?_;refine ae 1 hS0 ?_;refine ae 2 hS0 ?_;refine ae 3 hS0 ?_;refine ae 4 hS0 ?_;refine ae 5 hS0 ?_;refine ae 6 hS0 ?_;refine ae 7 hS0 ?_;refine ae 8 hS0 ?_;refine ae 9 hS0 ?_;refine ag 10 ?_;intro K hK;(try simp only[Act.put,sLs])
 go_simp;refine hK _ _ (fun h=>absurd h (by decide)) ?_;clear hK K;refine av (by kernel_rfl) ?_;(try simp only[Act.put,sLs])
 have hst:=vc HB.out (.int .u8 so) (.string T) (I nu) (I (at_:Int));have dj:New w ((((W.setCell ⟨R,0,none⟩ (.int .u8 so)).setCell ⟨R,1,none⟩ (.string T)).setCell ⟨R,2,none⟩ (I nu)).setCell ⟨R,3,none⟩ (I (at_:Int))).drew:=(New.keeps HN.out hst.2 (fun i hi hx=>by have:=HR.out;omega)).drew;have hb3:=hst.1;generalize(((W.setCell ⟨R,0,none⟩ (.int .u8 so)).setCell ⟨R,1,none⟩ (.string T)).setCell ⟨R,2,none⟩ (I nu)).setCell ⟨R,3,none⟩ (I (at_:Int))=Wf at hb3 dj ⊢;obtain⟨p0,p1,p2,p3,-,-⟩:=eX hb3;clear hst hb3 y0 y1 y2 y3 z0 z1 z2 z3 q0 q1 q2 q3 c0 c1 hS0;simp only[Exit.then];go_wp2_with fail;refine bodyPost_ret (v:= .agg #[.int .u8 so,.string T,I nu,I (at_:Int)]) (by simp[results,Tryz.results48,go_sem,p0,p1,p2,p3]) rfl ?_;exact⟨by rw[<-HT.out],dj⟩
theorem ir (w:World) (G:Nat) (l:List LTok) (a:Option Addr) (c k:Nat) (h:PAt w G l a c k) (hk:k<l.length):
  Calls Tryz.prog 49 #[.pointer (some ⟨G,0,none⟩)] w fun e w'=>e= .panicked [{ v:=gu (atT l k),recovered:=false }]∧New w w':=by
 have hn:=cY w G l a c k h hk l[k] (List.getElem?_eq_getElem hk);have e:atT l k=l[k].at_:=by unfold atT;rw[List.getElem?_eq_getElem hk];rfl
 rw[e];generalize l[k]=t at hn ⊢;obtain⟨so,tx,nu,at_⟩:=t;simp only[iB] at hn ⊢;generalize(⟨tx.toArray⟩:ByteArray)=T at hn;clear h e;have f3:=fun W=>(dA (.int .u8 so) (.string T) (I nu) (I (at_:Int)) W).2.2.2
 go_enter Tryz.func49,Tryz.ntmps49;go_wp2_with fail;refine hn.mono ?_;rintro e w2 ⟨rfl,n2⟩;go_wp2_with fail;exact bF rfl ⟨rfl,n2⟩
theorem BK {w W W1 Wf:World} {G R:Nat} {l:List LTok} {a:Option Addr} {c k:Nat} {cs:Array Value} (hn:New w W) (h:PAt W1 G l a c k) (k1:Keeps (fun k=>k=G) W W1) (k2:Keeps (fun k=>k=R) W1 Wf) (hb:W1.heap[R]? =some (.cells cs 98 (0,0))) (hG:G≠R) (hR:w.heap.size<=R) (hne:¬blk a R):PAt Wf G l a c k∧Keeps (fun k=>k=G) w Wf:=
 ⟨⟨k2.heap h.bk hG,jh h.sl k2 (fun g hg e=>hne (e▸hg)),h.ne,h.le⟩,((Keeps.mono hn (fun _ _ h=>h.elim)).trans k1 (fun _ _ h=>h)).trans k2 (fun i hi e=>by omega)⟩
theorem xr.new {w w0 w':World} {G:Nat} {l:List LTok} {k:Nat} {e:Ending} (n:New w0 w) (h:xr w G l k e w'):xr w0 G l k e w':=⟨h.1,(Keeps.mono n (fun _ _ h=>h.elim)).trans h.2 (fun _ _ h=>h)⟩
theorem ew (w:World) (G:Nat) (l:List LTok) (a:Option Addr) (c k:Nat) (so:Int) (h:PAt w G l a c k) (hk:k<l.length):
  Calls Tryz.prog 50 #[.pointer (some ⟨G,0,none⟩),.int .u8 so] w (PAs w G l a c iB (cp so l k)):=by
 rw[cO (List.getElem?_eq_getElem hk)];have n0:New w (w.alloc (.cells #[.int .u8 0,.string ⟨#[]⟩,I 0,I 0] 98)):=(New.refl w).alloc _;have hn:=fun W (n:New w W)=>cY W G l a c k (h.new n) hk l[k] (List.getElem?_eq_getElem hk)
 have hw:=fun W (n:New w W)=>ir W G l a c k (h.new n) hk
 have hb:=fX w (.int .u8 0) (.string ⟨#[]⟩) (I 0) (I 0);have H:=Lib.hid h;have hle:=h.le;have hGw:=h.cells.2.2.2;generalize l[k]=t at hn ⊢;obtain⟨so',tx,nu,at_⟩:=t;simp only at hn ⊢;obtain⟨T,hT⟩:∃T:ByteArray,(⟨tx.toArray⟩:ByteArray)=T:=⟨_,rfl⟩
 simp only[iB,hT] at hn ⊢;have HT:=Lib.hid hT;have HB:=Lib.hid hb;have HN:=Lib.hid n0;clear h hT hb;by_cases hs:so'=so
 ·rw[if_pos hs];have d1:(so' != so)=false:=by simp[hs]
  have HS:=Lib.hid hs;clear hs hw;go_enter Tryz.func50,Tryz.ntmps50;go_wp2_with fail;refine(hn _ n0).mono ?_;rintro e w2 ⟨rfl,n2⟩;have n3:New w2 (w2.alloc (.cells #[.int .u8 so',.string T,I nu,I (at_:Int)] 98)):=(New.refl w2).alloc _;have hb3:=fX w2 (.int .u8 so') (.string T) (I nu) (I (at_:Int));obtain⟨p0,p1,p2,p3,-,hp⟩:=eX hb3;have H3:=H.out.new ((n0.trans n2).trans n3);obtain⟨-,c1,z1,hG⟩:=H3.cells;have hb2:=Keeps.heap (n2.trans n3) HB.out (fun h=>h);obtain⟨y0,y1,y2,y3,z,hR⟩:=eX hb2;have x0:=z 0;have x1:=z 1;have x2:=z 2;have x3:=z 3;have HB2:=Lib.hid hb2;have HB3:=Lib.hid hb3;have H3':=Lib.hid H3;have HN3:=Lib.hid ((n0.trans n2).trans n3);have hsz:=(n0.trans n2).size;have hw1:IntKind.i64.wrap ((k:Int)+1)=(k:Int)+1:=IntWalk.i64_in _ (by omega);have hGs:G≠w.heap.size:=by omega
  have Eg:w.heap.size≠G:=by omega
  have hGt:G≠w2.heap.size:=by omega
  have Eh:w2.heap.size≠G:=by omega
  clear hn n0 n2 n3 hb2 hb3 H3 z;go_wp2_with fail;obtain⟨H4,k4⟩:=H3'.out.go (k+1);have e4:((k+1:Nat):Int)=(k:Int)+1:=by omega
  rw[e4] at H4 k4;have hb4:=k4.heap HB2.out (by omega);have hst:=vc hb4 (.int .u8 so') (.string T) (I nu) (I (at_:Int));have hb5:=hst.1;have dj:=BK HN3.out H4 k4 hst.2 hb4 hGs (by omega) (H.out.out0 (by omega) (Nat.le_refl _));generalize((((((w2.alloc (.cells #[.int .u8 so',.string T,I nu,I (at_:Int)] 98)).setCell ⟨G,1,none⟩ (I ((k:Int)+1))).setCell ⟨w.heap.size,0,none⟩ (.int .u8 so')).setCell ⟨w.heap.size,1,none⟩ (.string T)).setCell ⟨w.heap.size,2,none⟩ (I nu)).setCell ⟨w.heap.size,3,none⟩ (I (at_:Int)))=Wf at hb5 dj ⊢;obtain⟨r0,r1,r2,r3,-,-⟩:=eX hb5;clear p0 p1 p2 p3 y0 y1 y2 y3 x0 x1 x2 x3 c1 z1 hst hb4 hb5;refine bodyPost_ret (v:= .agg #[.int .u8 so',.string T,I nu,I (at_:Int)]) (by simp[results,Tryz.results50,go_sem,r0,r1,r2,r3]) rfl ?_;exact⟨by simp only[iB,HT.out],dj⟩
 ·rw[if_neg hs];have d1:(so' != so)=true:=by simpa using hs
  clear hs;go_enter Tryz.func50,Tryz.ntmps50;go_wp2_with fail;refine(hn _ n0).mono ?_;rintro e w2 ⟨rfl,n2⟩;have n3:New w2 (w2.alloc (.cells #[.int .u8 so',.string T,I nu,I (at_:Int)] 98)):=(New.refl w2).alloc _;have hb3:=fX w2 (.int .u8 so') (.string T) (I nu) (I (at_:Int));obtain⟨p0,p1,p2,p3,-,hp⟩:=eX hb3;have HN3:=Lib.hid ((n0.trans n2).trans n3);have hw2:=hw _ ((n0.trans n2).trans n3);clear hn n0 n2 n3 hb3 hw;go_wp2_with fail;refine hw2.mono ?_;rintro e w4 ⟨rfl,n4⟩;go_wp2_with fail;exact bF rfl ⟨rfl,Keeps.mono (HN3.out.trans n4) (fun _ _ h=>h.elim)⟩
theorem gR (tx b:List UInt8):(⟨tx.toArray⟩:ByteArray).toList=b ↔ tx=b:=by rw[ByteArray.toList_eq]
theorem dM (w:World) (G:Nat) (l:List LTok) (a:Option Addr) (c k:Nat) (B:List UInt8) (h:PAt w G l a c k) (hk:k<l.length):
  Calls Tryz.prog 51 #[.pointer (some ⟨G,0,none⟩),.string ⟨B.toArray⟩] w (PAs w G l a c (fun _:Unit=> .tuple #[]) (bC 3 B l k)):=by
 unfold bC;rw[dg (List.getElem?_eq_getElem hk)];have hn:=fun W (n:New w W)=>cY W G l a c k (h.new n) hk l[k] (List.getElem?_eq_getElem hk)
 have hw:=fun W (n:New w W)=>ir W G l a c k (h.new n) hk
 have H:=Lib.hid h;have hle:=h.le;generalize l[k]=t at hn ⊢;obtain⟨so',tx,nu,at_⟩:=t;simp only at hn ⊢;obtain⟨T,hT⟩:∃T:ByteArray,(⟨tx.toArray⟩:ByteArray)=T:=⟨_,rfl⟩
 obtain⟨S,hS⟩:∃S:ByteArray,(⟨B.toArray⟩:ByteArray)=S:=⟨_,rfl⟩
 have hTS:tx=B ↔ T=S:=by
  rw[<-hT,<-hS];constructor
  ·rintro rfl;rfl
  ·intro e;have:=congrArg (fun x:ByteArray=>x.data.toList) e;simpa using this
 simp only[iB,hT] at hn;rw[hS];have f0:=fun W=>(dA (.int .u8 so') (.string T) (I nu) (I (at_:Int)) W).1
 have f1:=fun W=>(dA (.int .u8 so') (.string T) (I nu) (I (at_:Int)) W).2.1
 clear h hT hS;by_cases hs:so'=3
 ·subst hs;by_cases he:tx=B
  ·rw[if_pos (by simp[he])];have e1:=hTS.1 he;have e2:=tJ T;subst e1;clear hTS he hw;go_enter Tryz.func51,Tryz.ntmps51;go_wp2_with fail;refine(hn _ (New.refl w)).mono ?_;rintro e w2 ⟨rfl,n2⟩;go_wp2_with fail;refine(hn _ n2).mono ?_;rintro e w3 ⟨rfl,n3⟩;have H3:=H.out.new (n2.trans n3);obtain⟨-,c1,z1,hG⟩:=H3.cells;have hw1:IntKind.i64.wrap ((k:Int)+1)=(k:Int)+1:=IntWalk.i64_in _ (by omega);have H3':=Lib.hid H3;have HN:=Lib.hid (n2.trans n3);clear hn n2 n3 H3;go_wp2_with fail;obtain⟨H4,k4⟩:=H3'.out.go (k+1);have e4:((k+1:Nat):Int)=(k:Int)+1:=by omega
   rw[e4] at H4 k4;refine bodyPost_ret (results_none (by kernel_rfl) _ _ _) rfl ?_;exact⟨rfl,H4,(Keeps.mono HN.out (fun _ _ h=>h.elim)).trans k4 (fun _ _ h=>h)⟩
  ·rw[if_neg (by simp[he])];have e2:(T.toList==S.toList)=false:=yN (fun h=>he (hTS.2 (by apply ByteArray.ext;exact Array.toList_inj.1 h)));clear hTS he;go_enter Tryz.func51,Tryz.ntmps51;go_wp2_with fail;refine(hn _ (New.refl w)).mono ?_;rintro e w2 ⟨rfl,n2⟩;go_wp2_with fail;refine(hn _ n2).mono ?_;rintro e w3 ⟨rfl,n3⟩;go_wp2_with fail;refine(hw _ (n2.trans n3)).mono ?_;rintro e w4 ⟨rfl,n4⟩;go_wp2_with fail;exact bF rfl ⟨rfl,Keeps.mono ((n2.trans n3).trans n4) (fun _ _ h=>h.elim)⟩
 ·have d1:(so' != 3)=true:=by simpa using hs
  rw[if_neg (by simp[hs])];clear hTS hs;go_enter Tryz.func51,Tryz.ntmps51;go_wp2_with fail;refine(hn _ (New.refl w)).mono ?_;rintro e w2 ⟨rfl,n2⟩;go_wp2_with fail;refine(hw _ n2).mono ?_;rintro e w4 ⟨rfl,n4⟩;go_wp2_with fail;exact bF rfl ⟨rfl,Keeps.mono (n2.trans n4) (fun _ _ h=>h.elim)⟩
def uZ:Value->Nat
 | .slice _ n _=>n
 |_=>0
theorem PAt.keeps {S:Nat->Prop} {w w':World} {G:Nat} {l:List LTok} {a:Option Addr} {c k:Nat} (h:PAt w G l a c k) (ks:Keeps S w w') (hG:¬S G) (ha:∀g,blk a g->¬S g):PAt w' G l a c k:=
 ⟨ks.heap h.bk hG,jh h.sl ks ha,h.ne,h.le⟩
theorem PAt.lt {w:World} {G:Nat} {l:List LTok} {a:Option Addr} {c k:Nat} (h:PAt w G l a c k):G<w.heap.size:=h.cells.2.2.2
theorem PAt.old {w:World} {G:Nat} {l:List LTok} {a:Option Addr} {c k:Nat} (h:PAt w G l a c k) (hl:0<l.length) {g:Nat} (hg:blk a g):g<w.heap.size:=by
 rcases Nat.lt_or_ge g w.heap.size with h1|h1
 ·exact h1
 ·exact absurd hg (h.out0 hl h1)
theorem mb (w:World) (G:Nat) (l:List LTok) (a:Option Addr) (c k:Nat) (h:PAt w G l a c k) (so:Int) (tx:List UInt8) (nu:Int) (at_:Nat) (ht:l[k]? =some ⟨so,tx,nu,at_⟩) (T:ByteArray) (hT:(⟨tx.toArray⟩:ByteArray)=T):
  Calls Tryz.prog 50 #[.pointer (some ⟨G,0,none⟩),.int .u8 so] w fun e w'=>e= .returned (.agg #[.int .u8 so,.string T,I nu,I (at_:Int)])∧PAt w' G l a c (k+1)∧Keeps (fun k=>k=G) w w':=by
 have hk:k<l.length:=(List.getElem?_eq_some_iff.1 ht).1;refine(ew w G l a c k so h hk).mono ?_;rw[cO ht,if_pos rfl,<-hT];exact fun e w' h=>h
theorem su (w:World) (G:Nat) (l:List LTok) (a:Option Addr) (c k:Nat) (h:PAt w G l a c k) (hk:k<l.length) (so:Int) {j:Nat} (hb:cp so l k= .bad j):
  Calls Tryz.prog 50 #[.pointer (some ⟨G,0,none⟩),.int .u8 so] w fun e w'=>e= .panicked [{ v:=gu (atT l j),recovered:=false }]∧Keeps (fun k=>k=G) w w':=by
 refine(ew w G l a c k so h hk).mono ?_;rw[hb];exact fun e w' h=>h
theorem sr (w:World) (G:Nat) (l:List LTok) (a:Option Addr) (c k:Nat) (h:PAt w G l a c k) (hk:k<l.length) (B:List UInt8) {m:Nat} {u:Unit} (hb:bC 3 B l k= .good u m):
  Calls Tryz.prog 51 #[.pointer (some ⟨G,0,none⟩),.string ⟨B.toArray⟩] w fun e w'=>e= .returned (.tuple #[])∧PAt w' G l a c m∧Keeps (fun k=>k=G) w w':=by
 refine(dM w G l a c k B h hk).mono ?_;rw[hb];exact fun e w' h=>h
theorem zh (w:World) (G:Nat) (l:List LTok) (a:Option Addr) (c k:Nat) (h:PAt w G l a c k) (hk:k<l.length) (B:List UInt8) {j:Nat} (hb:bC 3 B l k= .bad j):
  Calls Tryz.prog 51 #[.pointer (some ⟨G,0,none⟩),.string ⟨B.toArray⟩] w fun e w'=>e= .panicked [{ v:=gu (atT l j),recovered:=false }]∧Keeps (fun k=>k=G) w w':=by
 refine(dM w G l a c k B h hk).mono ?_;rw[hb];exact fun e w' h=>h
theorem qb (w:World) (G:Nat) (l:List LTok) (a:Option Addr) (c k:Nat) (he:dT l) (h:PAt w G l a c k) (hk:k<l.length):
  Calls Tryz.prog 92 #[.pointer (some ⟨G,0,none⟩)] w fun e w'=>∃ao co,e= .returned (.slice ao (cQ l k).length co)∧bc w' w.heap.size ao co (cQ l k)∧PAt w' G l a c (k+(cQ l k).length)∧Keeps (fun k=>k=G) w w':=by
 obtain⟨i0,hi,hz0,hz1,hz2⟩:=info_parts Tryz.infoInt;have kO:w.ownsRow w.heap.size 3 1 (.slice none 0 0) 0 []:=World.ownsRow_nil _ _ _ _;have H:=Lib.hid h;have hle:=h.le;have hGl:=h.lt;obtain⟨L,hL⟩:∃L,cQ l k=L:=⟨_,rfl⟩
 rw[hL];have HL:=Lib.hid hL;obtain⟨N,hN⟩:∃N,L.length=N:=⟨_,rfl⟩
 have HN:=Lib.hid hN;have hb:=he.nums hk;rw[hL] at hb;clear h hL;go_enter Tryz.func92,Tryz.ntmps92;go_wp2_with fail;go_loopw [3] (fun y wr=>∃(acc:List Int) (nn k':Nat) (ao:Option Addr) (co:Nat),y= .slice ao nn co∧Hid (acc.length=nn)∧k+nn=k'∧k'<l.length∧Hid (acc++cQ l k'=L)∧Hid (wr.ownsRow w.heap.size 3 1 (.slice ao nn co) nn (Is acc))∧Hid (PAt wr G l a c k')∧Hid (Keeps (fun k=>k=G) w wr)) (fun y _=>l.length-uZ y)
 case atStart=>exact⟨[],0,k,none,0,rfl,Lib.hid rfl,rfl,hk,Lib.hid (by rw[HL.out];rfl),Lib.hid kO,H,Lib.hid (Keeps.refl _ w)⟩
 case round=>
  clear kO;obtain⟨acc,nn,k',ao,co,rfl,HA,rfl,hk',HE,HO,HP,HK⟩:=hrel;have hn:=fun W (n:New wr W)=>cY W G l a c (k+nn) (HP.out.new n) hk' l[k+nn] (List.getElem?_eq_getElem hk')
  have hnx:l[k+nn].sort≠0->k+nn+1<l.length:=he.next (List.getElem?_eq_getElem hk');have hsm:=eM (List.getElem?_eq_getElem hk');obtain⟨t,ht⟩:∃t,l[k+nn]=t:=⟨_,rfl⟩
  have hg:=List.getElem?_eq_getElem hk';rw[ht] at hn hnx hsm hg;clear ht;obtain⟨so,tx,nu,at_⟩:=t;simp only[iB] at hn hnx hsm;obtain⟨T,hT⟩:∃T:ByteArray,(⟨tx.toArray⟩:ByteArray)=T:=⟨_,rfl⟩
  rw[hT] at hn;have f0:=fun W=>(dA (.int .u8 so) (.string T) (I nu) (I (at_:Int)) W).1
  have f2:=fun W=>(dA (.int .u8 so) (.string T) (I nu) (I (at_:Int)) W).2.2.1
  by_cases hs:so=2
  ·subst hs;rw[if_pos rfl] at hsm;have ht:=fun W (n:New wr W)=>mb W G l a c (k+nn) (HP.out.new n) 2 tx nu at_ hg T hT
   clear hT hg;have HSM:=Lib.hid hsm;have hk2:=hnx (by decide);clear hsm hnx;go_wp2_with fail;refine(hn _ (New.refl _)).mono ?_;rintro e w1 ⟨rfl,n1⟩;go_wp2_with fail;refine(ht _ n1).mono ?_;rintro e w2 ⟨rfl,H2,k2⟩;have kk:Keeps (fun k=>k=G) wr w2:=(Keeps.mono n1 (fun _ _ h=>h.elim)).trans k2 (fun _ _ h=>h);have ho2:=kk.owns HO.out (fun g hg e=>by have:=(ai HO.out (aM hg)).1;omega);have na:New w2 (w2.alloc (.cells #[I nu] 3)):=(New.refl _).alloc _;have hz:w.heap.size<=w2.heap.size:=(HK.out.trans kk (fun _ _ h=>h)).size;have HK2:=Lib.hid (HK.out.trans kk (fun _ _ h=>h));have H2':=Lib.hid H2;have lU:∀u∈[I nu],u.oneCell'=true:=by intro u hu;simp only[List.mem_cons,List.not_mem_nil,or_false] at hu;rcases hu with rfl;rfl
   have ho3:=na.owns ho2;clear hn ht n1 k2 H2 kk ho2;go_wp2_with (at_builtin;refine aR rfl _ _ 61 rfl w.heap.size 3 i0 (.int .i64 0) 1 8 Tryz.underlying61 hi hz0 hz1 hz2 rfl (by decide) ao nn co (Is acc) rfl ho3 _ 1 1 [I nu] rfl rfl (ar.lit _ _ _) lU (by unfold maxLen;omega) (by omega) (Nat.le_trans hz na.size) ?_);intro a3 c3 w3 rO hk3 _ _;have hob:∀g,blk ao g->w.heap.size<=g:=fun g hg=>(ai ho3 hg).1
   have H3:PAt w3 G l a c (k+nn+1):=(H2'.out.new na).keeps hk3 (fun hg=>by have:=hob _ hg;omega) (fun g hg hg2=>by have h1:=H.out.old (by omega) hg;have h2:=hob _ hg2;omega);have HK3:=Lib.hid ((HK2.out.trans na (fun _ _ h=>h.elim)).trans hk3 (fun i hi hx=>by have:=hob _ hx;omega));have HO3:Hid (w3.ownsRow w.heap.size 3 1 (.slice a3 (nn+1) c3) (nn+1) (Is (acc++[nu]))):=Lib.hid (by rw[show Is (acc++[nu])=Is acc++[I nu] by simp[Is]];exact rO);have HE3:Hid ((acc++[nu])++cQ l (k+nn+1)=L):=Lib.hid (by rw[<-HE.out,HSM.out];simp);have HA3:Hid ((acc++[nu]).length=nn+1):=Lib.hid (by rw[List.length_append,HA.out];rfl);have HP3:=Lib.hid H3;clear rO hk3 ho3 H3;go_wp2_with fail;go_roundw
   case rel=>exact⟨acc++[nu],nn+1,k+(nn+1),a3,c3,rfl,HA3,rfl,hk2,HE3,HO3,HP3,HK3⟩
   case measure=>simp[uZ];omega
  ·rw[if_neg hs] at hsm;have d1:(so==2)=false:=by simpa using hs
   have HSM:=Lib.hid hsm;clear hsm hs hnx hT hg;go_wp2_with fail;refine(hn _ (New.refl _)).mono ?_;rintro e w1 ⟨rfl,n1⟩;have eL:acc=L:=by have:=HE.out;rw[HSM.out,List.append_nil] at this;exact this
   have eN:nn=N:=by rw[<-HA.out,eL,HN.out]
   subst eN eL;have dj:bc w1 w.heap.size ao co acc:=by have:=n1.owns HO.out;unfold bc;rw[HA.out];exact this
   have H1:=HP.out.new n1;have k1:=HK.out.trans n1 (fun _ _ h=>h.elim);go_wp2_with fail;go_ret
   rw[hN];exact⟨ao,co,rfl,dj,H1,k1⟩
abbrev plV (p:LPl):Value:= .agg #[.string ⟨p.name.toArray⟩,I p.port,I p.at_]
theorem tZ (w:World) (x0 x1 x2:Value):(w.alloc (.cells #[x0,x1,x2] 103)).heap[w.heap.size]? =some (.cells #[x0,x1,x2] 103 (0,0)):=heap_alloc_new w _
theorem zg {w:World} {R:Nat} {x0 x1 x2:Value} (h:w.heap[R]? =some (.cells #[x0,x1,x2] 103 (0,0))) (u0 u1 u2:Value):
  (((w.setCell ⟨R,0,none⟩ u0).setCell ⟨R,1,none⟩ u1).setCell ⟨R,2,none⟩ u2).heap[R]? =some (.cells #[u0,u1,u2] 103 (0,0))∧Keeps (fun k=>k=R) w (((w.setCell ⟨R,0,none⟩ u0).setCell ⟨R,1,none⟩ u1).setCell ⟨R,2,none⟩ u2):=by
 have h1:=block_setCell (i:=0) h u0;have h2:=block_setCell (i:=1) h1 u1;have h3:=block_setCell (i:=2) h2 u2;refine⟨by rw[h3];simp,(((Keeps.setCell (S:=fun k=>k=R) w _ _ rfl).trans (Keeps.setCell (S:=fun k=>k=R) _ _ _ rfl) (fun _ _ h=>h)).trans (Keeps.setCell (S:=fun k=>k=R) _ _ _ rfl) (fun _ _ h=>h))⟩
theorem gK {w:World} {R:Nat} {x0 x1 x2:Value} (h:w.heap[R]? =some (.cells #[x0,x1,x2] 103 (0,0))):
  w.cell? ⟨R,0,none⟩=some x0∧w.cell? ⟨R,1,none⟩=some x1∧w.cell? ⟨R,2,none⟩=some x2∧(∀i,w.frozen? ⟨R,i,none⟩=false)∧R<w.heap.size:=by
 refine⟨?_,?_,?_,fun i=>unfrozen_of_block h i,(Array.getElem?_eq_some_iff.1 h).1⟩
 ·rw[cell_of_block h 0];rfl
 ·rw[cell_of_block h 1];rfl
 ·rw[cell_of_block h 2];rfl
theorem KG {w w1 w2:World} {G:Nat} (h:Keeps (fun k=>k=G) w w1) (k:Keeps (fun k=>k=G) w1 w2):Keeps (fun k=>k=G) w w2:=h.trans k (fun _ _ h=>h)
theorem KN {w w1:World} {G:Nat} (h:New w w1):Keeps (fun k=>k=G) w w1:=Keeps.mono h (fun _ _ h=>h.elim)
theorem jC (w:World) (G:Nat) (l:List LTok) (a:Option Addr) (c k:Nat) (he:dT l) (h:PAt w G l a c k) (hk:k<l.length):
  Calls Tryz.prog 94 #[.pointer (some ⟨G,0,none⟩)] w (PAs w G l a c plV (cM l k)):=by
 have hGl:=h.lt;have n0:New w (w.alloc (.cells #[.string ⟨#[]⟩,I 0,I 0] 103)):=(New.refl w).alloc _;have hb0:=tZ w (.string ⟨#[]⟩) (I 0) (I 0);have hle:=h.le;have H:=Lib.hid h;obtain⟨res,hre⟩:∃r,cM l k=r:=⟨_,rfl⟩
 rw[hre];have da:=Lib.hid hre;clear hre;obtain⟨r,hr⟩:∃r,cp 1 l k=r:=⟨_,rfl⟩
 have HR1:=Lib.hid hr;cases r with
 |bad j=>
  have ht:=su _ G l a c k (h.new n0) hk 1 hr;clear h;go_enter Tryz.func94,Tryz.ntmps94;go_wp2_with fail;refine ht.mono ?_;rintro e w1 ⟨rfl,k1⟩;go_wp2
  refine bF rfl ?_;rw[<-da.out];unfold cM;rw[HR1.out];exact⟨rfl,KG (KN n0) k1⟩
 |good t k1=>
  obtain⟨ht1,hso,rfl⟩:=gq hr;obtain⟨so,tx,nu,at_⟩:=t;simp only at hso;subst hso;have hk1:k+1<l.length:=he.next ht1 (by simp);obtain⟨T,hT⟩:∃T:ByteArray,(⟨tx.toArray⟩:ByteArray)=T:=⟨_,rfl⟩
  have ht:=mb _ G l a c k (h.new n0) 1 tx nu at_ ht1 T hT;have HB0:=Lib.hid hb0;have HT:=Lib.hid hT;clear h hr hT ht1 hb0;go_enter Tryz.func94,Tryz.ntmps94;go_wp2_with fail;refine ht.mono ?_;rintro e w1 ⟨rfl,H1,kg1⟩;have nb:New w1 (w1.alloc (.cells #[.int .u8 1,.string T,I nu,I (at_:Int)] 98)):=(New.refl w1).alloc _;have hb1:=fX w1 (.int .u8 1) (.string T) (I nu) (I (at_:Int));have Bk:=Keeps.heap nb (kg1.heap HB0.out (by omega)) (fun h=>h);have hs1:w.heap.size<w1.heap.size:=by have:=kg1.size;simp at this;omega
  have H1':=H1.new nb;have kk1:=KG (KG (KN n0) kg1) (KN nb);obtain⟨r,hr⟩:∃r,bC 3 [46] l (k+1)=r:=⟨_,rfl⟩
  have HR2:=Lib.hid hr;have HB1:=Lib.hid hb1;have BX:=Lib.hid Bk;have HP1:=Lib.hid H1';have HK1:=Lib.hid kk1;clear H1 kg1 ht n0;cases r with
  |bad j=>
   have ht:=zh _ G l a c (k+1) H1' hk1 [46] hr;clear hb1 Bk H1' kk1 nb;go_wp2_with fail;refine ht.mono ?_;rintro e w2 ⟨rfl,k2⟩;go_wp2
   refine bF rfl ?_;rw[<-da.out];unfold cM;rw[HR1.out,PR.bind_good,HR2.out];exact⟨rfl,KG HK1.out k2⟩
  |good u k2=>
   obtain⟨_,_,_,_,rfl⟩:=ja hr;have hk2:=(he.must hr (by decide)).1;have ht:=sr _ G l a c (k+1) H1' hk1 [46] hr;clear hb1 Bk H1' kk1 nb;go_wp2_with fail;refine ht.mono ?_;rintro e w2 ⟨rfl,H2,k2⟩;have hb0:=k2.heap BX.out (by omega);have hb1:=k2.heap HB1.out (by omega);have kk2:=KG HK1.out k2;have hs2:w1.heap.size<w2.heap.size:=by have:=k2.size;simp at this;omega
   obtain⟨R,hR⟩:∃R,w1.heap.size=R:=⟨_,rfl⟩
   obtain⟨Q,hQ⟩:∃Q,w.heap.size=Q:=⟨_,rfl⟩
   rw[hR] at hb1 hs1 hs2 ⊢;rw[hQ] at hb0 hs1 hGl ⊢;have hRG:R≠G:=by omega
   have hQG:Q≠G:=by omega
   have hQw:w.heap.size<=Q:=by omega
   have HQw:=Lib.hid hQw;obtain⟨r,hr⟩:∃r,cp 2 l (k+1+1)=r:=⟨_,rfl⟩
   have HR3:=Lib.hid hr;have HP2:=Lib.hid H2;have HK2:=Lib.hid kk2;have HB0:=Lib.hid hb0;have HB1:=Lib.hid hb1;obtain⟨p0,p1,p2,p3,-,hp⟩:=eX hb1;clear H2 k2 ht BX HB1 hR hQ hQw hb0 kk2 hb1;have hS0:(fun w':World=>w'.cell? ⟨R,1,none⟩=some (.string T)∧w'.cell? ⟨R,3,none⟩=some (I (at_:Int))) w2.drew:=⟨p1,p3⟩
   cases r with
   |bad j=>
    have ht:=su _ G l a c (k+1+1) (HP2.out.new (New.refl _).drew) hk2 2 hr;go_wp2_with fail;refine aj (fun w':World=>w'.cell? ⟨R,1,none⟩=some (.string T)∧w'.cell? ⟨R,3,none⟩=some (I (at_:Int))) [10] (by kernel_rfl) hS0 ?_;refine ae 0 hS0 ?_;refine ae 1 hS0 ?_;refine ae 2 hS0 ?_;refine ae 3 hS0 ?_;refine ae 4 hS0 ?_;refine ae 7 hS0 ?_;refine ae 8 hS0 ?_;refine ag 5 ?_;intro K hK;(try simp only[Act.put,sLs])
    go_simp;refine ht.mono ?_;rintro e w3 ⟨rfl,k3⟩;refine bF rfl ?_;rw[<-da.out];unfold cM;rw[HR1.out,PR.bind_good,HR2.out,PR.bind_good,HR3.out];exact⟨rfl,KG (KG HK2.out (KN (New.refl _).drew)) k3⟩
   |good t k3=>
    obtain⟨ht1,hso,rfl⟩:=gq hr;obtain⟨so,tx3,nu3,at3⟩:=t;simp only at hso;subst hso;have hk3:k+1+1+1<l.length:=he.next ht1 (by simp);obtain⟨T3,hT3⟩:∃T:ByteArray,(⟨tx3.toArray⟩:ByteArray)=T:=⟨_,rfl⟩
    have ht:=mb _ G l a c (k+1+1) (HP2.out.new (New.refl _).drew) 2 tx3 nu3 at3 ht1 T3 hT3;have f2:=fun W=>(dA (.int .u8 2) (.string T3) (I nu3) (I (at3:Int)) W).2.2.1
    clear hT3 ht1;go_wp2_with fail;refine aj (fun w':World=>w'.cell? ⟨R,1,none⟩=some (.string T)∧w'.cell? ⟨R,3,none⟩=some (I (at_:Int))) [10] (by kernel_rfl) hS0 ?_;refine ae 0 hS0 ?_;refine ae 1 hS0 ?_;refine ae 2 hS0 ?_;refine ae 3 hS0 ?_;refine ae 4 hS0 ?_;refine ae 7 hS0 ?_;refine ae 8 hS0 ?_;refine ag 5 ?_;intro K hK;(try simp only[Act.put,sLs])
    go_simp;refine ht.mono ?_;rintro e w3 ⟨rfl,H3,k3⟩;have hS1:(fun w':World=>w'.cell? ⟨R,1,none⟩=some (.string T)∧w'.cell? ⟨R,3,none⟩=some (I (at_:Int))) w3:=⟨k3.cell hS0.1 hRG,k3.cell hS0.2 hRG⟩
    refine hK _ _ (fun _=>hS1) ?_;clear hK K hS0;have HP3:=Lib.hid H3;have HK3:=Lib.hid (KG (KG HK2.out (KN (New.refl _).drew)) k3);have hbz:=k3.heap (w:=w2.drew) HB0.out hQG;have HBZ:=Lib.hid hbz;obtain⟨y0,y1,y2,z,hy⟩:=gK hbz;have z0:=z 0;have z1:=z 1;have z2:=z 2;clear H3 k3 hbz z p0 p1 p2 p3 ht;refine ae 6 hS1 ?_;refine ae 9 hS1 ?_;refine ag 10 ?_;intro K hK;(try simp only[Act.put,sLs])
    go_simp;refine hK _ _ (fun h=>absurd h (by decide)) ?_;clear hK K;refine av (by kernel_rfl) ?_;(try simp only[Act.put,sLs])
    simp only[Exit.then];have hst:=zg HBZ.out (.string T) (I nu3) (I (at_:Int));have hb5:=hst.1;have HP5:=HP3.out.keeps hst.2 (fun h=>hQG h.symm) (fun g hg e=>by have h1:=H.out.old (by omega) hg;have:=HQw.out;omega);have HK5:=HK3.out.trans hst.2 (fun i hi e=>by have:=HQw.out;omega);generalize((w3.setCell ⟨Q,0,none⟩ (.string T)).setCell ⟨Q,1,none⟩ (I nu3)).setCell ⟨Q,2,none⟩ (I (at_:Int))=Wf at hb5 HP5 HK5 ⊢;obtain⟨r0,r1,r2,-,-⟩:=gK hb5;clear y0 y1 y2 z0 z1 z2 hst hb5;go_wp2_with fail;refine bodyPost_ret (v:= .agg #[.string T,I nu3,I (at_:Int)]) (by simp[results,Tryz.results94,go_sem,r0,r1,r2]) rfl ?_;rw[<-da.out];unfold cM;rw[HR1.out,PR.bind_good,HR2.out,PR.bind_good,HR3.out];exact⟨by simp only[plV,HT.out],HP5,HK5⟩
theorem At (w:World) (B:Nat) (hB:B<=w.heap.size) (v:Int):(w.alloc (.cells #[I v] 3)).ownsRow B 3 1 (.slice (some ⟨w.heap.size,0,none⟩) 1 1) 1 [I v]:=
 ⟨rfl,.inr ⟨w.heap.size,1,_,rfl,hB,heap_alloc_new w _,Nat.le_refl _,by decide,rfl,rfl⟩⟩
def LIt.mem (x:LIt) (a:Option Addr) (c:Nat):SIt:=⟨x.kind,⟨x.name.toArray⟩,⟨x.tag.toArray⟩,a,c,x.xs,⟨x.fr.name.toArray⟩,x.fr.port,x.fr.at_,⟨x.tu.name.toArray⟩,x.tu.port,x.tu.at_,x.at_⟩
def LSk.mem (s:LSk):Sk:=⟨⟨s.name.toArray⟩,none,0,s.items.map fun x=>x.mem none 0⟩
theorem PAs.inv {α:Type} {w:World} {G:Nat} {l:List LTok} {a:Option Addr} {c:Nat} {val:α->Value} {res:PR α} {e:Ending} {w':World} (h:PAs w G l a c val res e w'):
  (∃j,res= .bad j∧e= .panicked [{ v:=gu (atT l j),recovered:=false }]∧Keeps (fun k=>k=G) w w')∨(∃x k',res= .good x k'∧e= .returned (val x)∧PAt w' G l a c k'∧Keeps (fun k=>k=G) w w'):=by
 cases res with
 |bad j=>exact .inl ⟨j,rfl,h.1,h.2⟩
 |good x k=>exact .inr ⟨x,k,rfl,h.1,h.2.1,h.2.2⟩
abbrev ItT:TypeId:=105
structure ItS (w0:World) (G X:Nat) (l:List LTok) (a:Option Addr) (c k:Nat) (cs:Array Value) (wr:World):Prop where
 p:PAt wr G l a c k
 b:wr.heap[X]? =some (.cells cs ItT (0,0))
 ks:Keeps (fun b=>b=G∨b=X) w0 wr
 ne:X≠G
 na:¬blk a X
section
variable {w0:World} {G X:Nat} {l:List LTok} {a:Option Addr} {c k:Nat} {cs:Array Value} {wr:World}
theorem ItS.new {w':World} (h:ItS w0 G X l a c k cs wr) (n:New wr w'):ItS w0 G X l a c k cs w':=
 ⟨h.p.new n,Keeps.heap n h.b (fun h=>h),h.ks.trans n (fun _ _ h=>h.elim),h.ne,h.na⟩
theorem ItS.call {w':World} {k':Nat} (h:ItS w0 G X l a c k cs wr) (hp:PAt w' G l a c k') (hk:Keeps (fun b=>b=G) wr w'):ItS w0 G X l a c k' cs w':=
 ⟨hp,hk.heap h.b h.ne,h.ks.trans hk (fun _ _ h=> .inl h),h.ne,h.na⟩
theorem ItS.bad {w':World} (h:ItS w0 G X l a c k cs wr) (hk:Keeps (fun b=>b=G) wr w'):Keeps (fun b=>b=G∨b=X) w0 w':=h.ks.trans hk (fun _ _ h=> .inl h)
theorem ItS.set (h:ItS w0 G X l a c k cs wr) (i:Nat) (v:Value):ItS w0 G X l a c k (cs.setIfInBounds i v) (wr.setCell ⟨X,i,none⟩ v):=
 have ks:Keeps (fun b=>b=X) wr (wr.setCell ⟨X,i,none⟩ v):=Keeps.setCell wr _ _ rfl
 ⟨h.p.keeps ks (fun e=>h.ne e.symm) (fun g hg e=>h.na (e▸hg)),block_setCell h.b v,h.ks.trans ks (fun _ _ h=> .inr h),h.ne,h.na⟩
theorem ItS.go (h:ItS w0 G X l a c k cs wr) (j:Nat):ItS w0 G X l a c j cs (wr.setCell ⟨G,1,none⟩ (I j)):=
 h.call (h.p.go j).1 (h.p.go j).2
theorem ItS.lt (h:ItS w0 G X l a c k cs wr):X<wr.heap.size:=(Array.getElem?_eq_some_iff.1 h.b).1
theorem ItS.keeps {S:Nat->Prop} {w':World} (h:ItS w0 G X l a c k cs wr) (ks:Keeps S wr w') (hX:¬S X) (hG:¬S G) (ha:∀g,blk a g->¬S g) (hS:∀g,S g->w0.heap.size<=g):ItS w0 G X l a c k cs w':=
 ⟨h.p.keeps ks hG ha,ks.heap h.b hX,h.ks.trans ks (fun i hi hs=>by have:=hS i hs;omega),h.ne,h.na⟩
theorem ItS.tr {w1:World} (h:Keeps (fun b=>b=G∨b=X) w1 w0) (k2:ItS w0 G X l a c k cs wr):ItS w1 G X l a c k cs wr:=⟨k2.p,k2.b,h.trans k2.ks (fun _ _ h=>h),k2.ne,k2.na⟩
end
abbrev cJ (at_:Nat):Array Value:=#[.int .u8 0,.string ⟨#[]⟩,.string ⟨#[]⟩,.slice none 0 0,.string ⟨#[]⟩,I 0,I 0,.string ⟨#[]⟩,I 0,I 0,I (at_:Int)]
theorem aF {w:World} {C:Nat} {x0 x1 x2 x3 x4 x5 x6 x7 x8 x9 x10:Value} (h:w.heap[C]? =some (.cells #[x0,x1,x2,x3,x4,x5,x6,x7,x8,x9,x10] ItT (0,0))):
  (w.cell? ⟨C,0,none⟩=some x0∧w.cell? ⟨C,1,none⟩=some x1∧w.cell? ⟨C,2,none⟩=some x2∧w.cell? ⟨C,3,none⟩=some x3∧w.cell? ⟨C,4,none⟩=some x4∧w.cell? ⟨C,5,none⟩=some x5∧
  w.cell? ⟨C,6,none⟩=some x6∧w.cell? ⟨C,7,none⟩=some x7∧w.cell? ⟨C,8,none⟩=some x8∧w.cell? ⟨C,9,none⟩=some x9∧w.cell? ⟨C,10,none⟩=some x10)∧(∀i,w.frozen? ⟨C,i,none⟩=false)∧C<w.heap.size:=by
 refine⟨⟨?_,?_,?_,?_,?_,?_,?_,?_,?_,?_,?_⟩,fun i=>unfrozen_of_block h i,(Array.getElem?_eq_some_iff.1 h).1⟩;all_goals rw[cell_of_block h];rfl
def ux (w:World) (G X:Nat) (l:List LTok) (a:Option Addr) (c:Nat) (res:PR LIt) (e:Ending) (w':World):Prop:=match res with
 | .bad j=>e= .panicked [{ v:=gu (atT l j),recovered:=false }]∧Keeps (fun b=>b=G∨b=X) w w'
 | .good x k=>e= .returned (.tuple #[])∧∃ao co,ItS w G X l a c k (itA (x.mem ao co)) w'∧bc w' w.heap.size ao co x.xs
theorem wE (w:World) (G X:Nat) (l:List LTok) (a:Option Addr) (c k:Nat) (at_:Nat) (he:dT l) (h:ItS w G X l a c k (cJ at_) w) (hk:k<l.length):
  Calls Tryz.prog 93 #[.pointer (some ⟨G,0,none⟩),.pointer (some ⟨X,0,none⟩)] w (ux w G X l a c (fE at_ l k)):=by
 obtain⟨i0,hi,hz0,hz1,hz2⟩:=info_parts Tryz.infoInt;obtain⟨res,hre⟩:∃r,fE at_ l k=r:=⟨_,rfl⟩
 rw[hre];have da:=Lib.hid hre;have hle:=h.p.le;have CV:∀g,blk a g->g<w.heap.size:=fun g hg=>h.p.old (by omega) hg
 have hGw:=h.p.lt;have HOB:=Lib.hid CV;have hb:=h.b;clear hre CV;obtain⟨⟨y0,y1,y2,y3,y4,y5,y6,y7,y8,y9,y10⟩,z,hX⟩:=aF hb;have z0:=z 0;clear z y1 y2 y3 y4 y5 y6 y7 y8 y9 y10;have h1:=h.set 0 (.int .u8 2);have H1:=Lib.hid h1;have hpl:=jC _ G l a c k he h1.p hk;clear h h1 hb;go_enter Tryz.func93,Tryz.ntmps93;go_wp2_with fail;refine hpl.mono ?_;intro e w1 hq;clear hpl y0 z0 hX;rcases hq.inv with⟨j,hr,rfl,k1⟩|⟨p,k1,hr,rfl,hp1,kk1⟩
 ·clear hq;go_wp2
  refine bF rfl ?_;rw[<-da.out];unfold fE;rw[hr,PR.bind_bad];exact⟨rfl,H1.out.bad k1⟩
 have HR1:=Lib.hid hr;have hk1:=(he.place hr).1;have H2:=H1.out.call hp1 kk1;have hb:=H2.b;simp only[cJ,sLs] at hb;obtain⟨pn,pp,pa⟩:=p;obtain⟨⟨y0,y1,y2,y3,y4,y5,y6,y7,y8,y9,y10⟩,z,hX⟩:=aF hb;have z4:=z 4;have z5:=z 5;have z6:=z 6;clear z y0 y1 y2 y3 y7 y8 y9 y10;have H3:=Lib.hid (((H2.set 4 (.string ⟨pn.toArray⟩)).set 5 (I pp)).set 6 (I (pa:Int)));have hmk:=dM _ G l a c k1 [45,62] H3.out.p hk1;clear hq hr hp1 kk1 H2 hb H1;go_wp2_with fail;refine hmk.mono ?_;intro e w2 hq;clear hmk y4 y5 y6 z4 z5 z6 hX;rcases hq.inv with⟨j,hr,rfl,k2⟩|⟨u,k2,hr,rfl,hp2,kk2⟩
 ·clear hq;go_wp2
  refine bF rfl ?_;rw[<-da.out];unfold fE;rw[HR1.out,PR.bind_good,hr,PR.bind_bad];exact⟨rfl,H3.out.bad k2⟩
 have HR2:=Lib.hid hr;have hk2:=(he.must hr (by decide)).1;have H4:=Lib.hid (H3.out.call hp2 kk2);have hpl:=jC _ G l a c k2 he H4.out.p hk2;clear hq hr hp2 kk2 H3;go_wp2_with fail;refine hpl.mono ?_;intro e w3 hq;clear hpl;rcases hq.inv with⟨j,hr,rfl,k3⟩|⟨q,k3,hr,rfl,hp3,kk3⟩
 ·clear hq;go_wp2
  refine bF rfl ?_;rw[<-da.out];unfold fE;rw[HR1.out,PR.bind_good,HR2.out,PR.bind_good,hr,PR.bind_bad];exact⟨rfl,H4.out.bad k3⟩
 have HR3:=Lib.hid hr;have hk3:=(he.place hr).1;have H5:=H4.out.call hp3 kk3;have hb:=H5.b;simp only[cJ,sLs] at hb;obtain⟨qn,qp,qa⟩:=q;obtain⟨⟨y0,y1,y2,y3,y4,y5,y6,y7,y8,y9,y10⟩,z,hX⟩:=aF hb;have z7:=z 7;have z8:=z 8;have z9:=z 9;clear z y0 y1 y2 y3 y4 y5 y6 y10;have H6:=((H5.set 7 (.string ⟨qn.toArray⟩)).set 8 (I qp)).set 9 (I (qa:Int));have hW6:=(H6.ks).size;obtain⟨W6,Bh⟩:∃W,W=((w3.setCell ⟨X,7,none⟩ (.string ⟨qn.toArray⟩)).setCell ⟨X,8,none⟩ (I qp)).setCell ⟨X,9,none⟩ (I (qa:Int)):=⟨_,rfl⟩
 rw[<-Bh] at H6 hW6;simp only[cJ,sLs] at H6;have HE6:=Lib.hid Bh;have H7:=Lib.hid H6;have HRW:Hid (fE at_ l k=(withP l k3).bind fun xs k4=> .good ⟨2,[],[],xs,⟨pn,pp,pa⟩,⟨qn,qp,qa⟩,at_⟩ k4):=Lib.hid (by unfold fE;rw[HR1.out,PR.bind_good,HR2.out,PR.bind_good,hr,PR.bind_good]);have hnx:=fun W (n:New W6 W)=>cY W G l a c k3 (H7.out.p.new n) hk3 l[k3] (List.getElem?_eq_getElem hk3)
 have hlk:=dg (so:=1) (b:=gE) (List.getElem?_eq_getElem hk3);have hnt:=he.next (List.getElem?_eq_getElem hk3);obtain⟨t,ht⟩:∃t,l[k3]=t:=⟨_,rfl⟩
 rw[ht] at hnx hlk hnt;have hg:=List.getElem?_eq_getElem hk3;rw[ht] at hg;obtain⟨so,tx,nu,ta⟩:=t;simp only[iB] at hnx hlk hnt;obtain⟨T,hT⟩:∃T:ByteArray,(⟨tx.toArray⟩:ByteArray)=T:=⟨_,rfl⟩
 rw[hT] at hnx;have htx:=fun b=>gR tx b
 rw[hT] at htx;have HT:=Lib.hid hT;have HG:=Lib.hid hg;have f0:=fun W=>(dA (.int .u8 so) (.string T) (I nu) (I (ta:Int)) W).1
 have f1:=fun W=>(dA (.int .u8 so) (.string T) (I nu) (I (ta:Int)) W).2.1
 clear hq hr hp3 kk3 H5 hb H4 H6 Bh ht hg hT HR1 HR2 HR3;by_cases hs:so=1
 ·subst hs;by_cases hw:tx=gE
  ·have d2:(T.toList==[119,105,116,104])=true:=by rw[(htx [119,105,116,104]).2 hw];rfl
   rw[decide_eq_true ⟨rfl,hw⟩] at hlk;have HLK:=Lib.hid hlk;have hk4:=hnt (by decide);have htk:=fun W (n:New W6 W)=>mb W G l a c k3 (H7.out.p.new n) 1 tx nu ta HG.out T HT.out
   clear hw hlk htx hnt;go_wp2_with fail;rw[<-HE6.out];refine(hnx _ (New.refl _)).mono ?_;rintro e w4 ⟨rfl,n4⟩;go_wp2_with fail;refine(hnx _ n4).mono ?_;rintro e w5 ⟨rfl,n5⟩;go_wp2_with fail;refine(htk _ (n4.trans n5)).mono ?_;rintro e w6 ⟨rfl,hp6,kk6⟩;have H8:=Lib.hid ((H7.out.new (n4.trans n5)).call hp6 kk6);have C2:=ew _ G l a c (k3+1) 2 hp6 hk4;clear n4 n5 hp6 kk6 hnx htk H7 y7 y8 y9 z7 z8 z9 hX;go_wp2_with fail;refine C2.mono ?_;intro e w7 hq;clear C2;rcases hq.inv with⟨j,hr,rfl,k7⟩|⟨t,k7,hr,rfl,hp7,kk7⟩
   ·clear hq;go_wp2
    refine bF rfl ?_;rw[<-da.out,HRW.out];unfold withP;rw[if_pos HLK.out,hr,PR.bind_bad,PR.bind_bad];exact⟨rfl,H8.out.bad k7⟩
   have hk7:=(he.take hr (by decide)).1;have H9:=Lib.hid (H8.out.call hp7 kk7);have HR7:=Lib.hid hr;obtain⟨so2,tx2,n0,ta2⟩:=t;obtain⟨T2,hT2⟩:∃T:ByteArray,(⟨tx2.toArray⟩:ByteArray)=T:=⟨_,rfl⟩
   simp only[iB,hT2];have f2:=fun W=>(dA (.int .u8 so2) (.string T2) (I n0) (I (ta2:Int)) W).2.2.1
   have na:New w7 (w7.alloc (.cells #[I n0] 3)):=(New.refl _).alloc _;have hnu:=qb _ G l a c k7 he (hp7.new na) hk7;have hsz:w.heap.size<=w7.heap.size:=H9.out.ks.size;clear hT2 hq hr hp7 kk7 H8 f0 f1;go_wp2_with fail;refine hnu.mono ?_;rintro e w8 ⟨ao,co,rfl,ho8,hp8,kk8⟩;have hl8:=he.nums hk7;obtain⟨L,hL⟩:∃L,cQ l k7=L:=⟨_,rfl⟩
   rw[hL] at ho8 hp8 hl8 ⊢;have HR8:Hid (numsP l k7= .good L (k7+L.length)):=Lib.hid (by unfold numsP;rw[hL]);have HB8:Hid (ItS w G X l a c (k7+L.length) _ w8):=Lib.hid ((H9.out.new na).call hp8 kk8);have ED:w7.heap.size<w8.heap.size:=by have:=kk8.size;simp at this;omega
   have hGx:G<w8.heap.size:=hp8.lt;have hX7:=H9.out.lt;have hG7:=H9.out.p.lt;have bi:w8.ownsRow w.heap.size 3 1 (.slice (some ⟨w7.heap.size,0,none⟩) 1 1) 1 [I n0]:=kk8.owns (At w7 w.heap.size hsz n0) (fun g hg e=>by
    have e1:g=w7.heap.size:=by simp[Value.ownBlock] at hg;exact hg.symm
    have:=H9.out.p.lt;omega)
   obtain⟨N,hN⟩:∃N,L.length=N:=⟨_,rfl⟩
   have yD:ar w8 ao (Is L):=ar.of_owns ho8;have lU:∀u∈Is L,u.oneCell'=true:=cG .i64 L;have hIs:(Is L).length=N*1:=by unfold Is;rw[List.length_map,hN,Nat.mul_one]
   have HOL:=Lib.hid hL;have HN:=Lib.hid hN;unfold bc at ho8;have HO8:=Lib.hid ho8;clear hL hnu hp8 kk8 na ho8 H9;have hNx:1+N<=2000001:=by omega
   rw[hN];clear hN;go_wp2_with (at_builtin;refine aR rfl _ _ 61 rfl w.heap.size 3 i0 (.int .i64 0) 1 8 Tryz.underlying61 hi hz0 hz1 hz2 rfl (by decide) (some ⟨w7.heap.size,0,none⟩) 1 1 [I n0] rfl bi ao N co (Is L) rfl hIs yD lU (by unfold maxLen;omega) (by omega) (by omega) ?_);intro a9 c9 w9 ij hk9 _ _;have yv:∀g,blk (some ⟨w7.heap.size,0,none⟩) g->g=w7.heap.size:=fun g hg=>by obtain⟨x,hx,rfl⟩:=hg;cases hx;rfl
   have H10:=Lib.hid (HB8.out.keeps hk9 (fun h=>by have:=yv _ h;omega) (fun h=>by have:=yv _ h;omega) (fun g hg h=>by have h1:=yv _ h;have h2:=HOB.out g hg;omega) (fun g h=>by have:=yv _ h;omega));have hb:=H10.out.b;obtain⟨⟨-,-,-,y3,-,-,-,-,-,-,-⟩,z,hX⟩:=aF hb;have z3:=z 3;clear z;have H11:=H10.out.set 3 (.slice a9 (1+N) c9);have yz:=al ij (Keeps.setCell (S:=fun b=>b=X) w9 ⟨X,3,none⟩ (.slice a9 (1+N) c9) rfl) (fun g hg=>⟨_,_,_,hg▸hb,by decide⟩);have C8:=Lib.hid H11;have Dh:=Lib.hid yz;clear ij hk9 bi yD lU yv HB8 H10 hb H11 yz;go_wp2_with fail;refine bodyPost_ret (results_none (by kernel_rfl) _ _ _) rfl ?_;rw[<-da.out,HRW.out];unfold withP;rw[if_pos HLK.out,HR7.out,PR.bind_good,HR8.out,PR.bind_good,PR.bind_good];have h11:=C8.out;have h12:=Dh.out;simp only[sLs] at h11;have eN:1+N=L.length+1:=by rw[HN.out];omega
   rw[eN] at h11 h12 ⊢;exact⟨rfl,a9,c9,h11,h12⟩
  ·have d2:(T.toList==[119,105,116,104])=false:=by
    have:=(htx [119,105,116,104])
    cases hh:(T.toList==[119,105,116,104]) with
    |false=>rfl
    |true=>exact absurd (this.1 (by simpa using hh)) hw
   rw[decide_eq_false (fun h=>hw h.2)] at hlk;have HLK:=Lib.hid hlk;clear hw hlk htx hnt;go_wp2_with fail;rw[<-HE6.out];refine(hnx _ (New.refl _)).mono ?_;rintro e w4 ⟨rfl,n4⟩;go_wp2_with fail;refine(hnx _ n4).mono ?_;rintro e w5 ⟨rfl,n5⟩;go_wp2_with fail;refine bodyPost_ret (results_none (by kernel_rfl) _ _ _) rfl ?_;rw[<-da.out,HRW.out];unfold withP;rw[if_neg (by rw[HLK.out];decide),PR.bind_good];exact⟨rfl,none,0,H7.out.new (n4.trans n5),World.ownsRow_nil _ _ _ _⟩
 ·have d1:(so==1)=false:=by simpa using hs
  rw[decide_eq_false (fun h=>hs h.1)] at hlk;have HLK:=Lib.hid hlk;clear hs hlk htx hnt;go_wp2_with fail;rw[<-HE6.out];refine(hnx _ (New.refl _)).mono ?_;rintro e w4 ⟨rfl,n4⟩;go_wp2_with fail;refine bodyPost_ret (results_none (by kernel_rfl) _ _ _) rfl ?_;rw[<-da.out,HRW.out];unfold withP;rw[if_neg (by rw[HLK.out];decide),PR.bind_good];exact⟨rfl,none,0,H7.out.new n4,World.ownsRow_nil _ _ _ _⟩
end Go.Proofs.YtnedmonlofbahaaGreatDoor
namespace Go.Proofs
open Go.Shelf
def Tryz.lays169_ren:Go.Shelf.Ren:=⟨fun|169=>76|n=>n,fun|70=>137|9=>9|0=>0|72=>140|37=>138|127=>195|3=>3|5=>5|n=>n,fun|n=>n⟩
theorem Tryz.lays169:Go.Proofs.Lays.n169 Tryz.prog Tryz.lays169_ren:= {
 mixed:=by kernel_rfl
 f169:=Tryz.func76.trans (congrArg some (by kernel_rfl))
 t0:=Tryz.underlying0
 a0:=Tryz.isAgg0
 z0:=Tryz.sizeOf0
 v0:=Tryz.zeroValue0
 t3:=Tryz.underlying3
 a3:=Tryz.isAgg3
 z3:=Tryz.sizeOf3
 v3:=Tryz.zeroValue3
 t9:=Tryz.underlying9
 a9:=Tryz.isAgg9
 z9:=Tryz.sizeOf9
 v9:=Tryz.zeroValue9
 t37:=Tryz.underlying138
 a37:=Tryz.isAgg138
 z37:=Tryz.sizeOf138
 v37:=Tryz.zeroValue138
 t70:=Tryz.underlying137
 a70:=Tryz.isAgg137
 z70:=Tryz.sizeOf137
 v70:=Tryz.zeroValue137
 t72:=Tryz.underlying140
 a72:=Tryz.isAgg140
 z72:=Tryz.sizeOf140
 v72:=Tryz.zeroValue140
 t127:=Tryz.underlying195
 a127:=Tryz.isAgg195
 z127:=Tryz.sizeOf195
 v127:=Tryz.zeroValue195 }
theorem Tryz.Builder_Extra_169:Builder.Extra Tryz.prog Tryz.lays169_ren:= {
 sizeBuilder:=by kernel_rfl
 liesBuilder:=by kernel_rfl
 t5:=Tryz.underlying5
 a5:=Tryz.isAgg5
 z5:=Tryz.sizeOf5
 v5:=Tryz.zeroValue5
 infoByte:=by kernel_rfl
 cellsByte:=by kernel_rfl
 sizeByte:=by kernel_rfl
 neB5:=by decide }
open Go.RowKit in
theorem Tryz.Builder_String_any (B b:Nat) (l:List UInt8) (w:World) (h:Lib.IsBuilder 140 5 B b (Lib.byteCells l) w) (hBw:B<=w.heap.size):
  Calls Tryz.prog 76 #[.pointer (some ⟨b,0,none⟩)] w fun e w'=>e= .returned (.string ⟨l.toArray⟩)∧Below B w w':=Any.Builder_String_any Tryz.lays169 Tryz.Builder_Extra_169 B b l w h hBw
end Go.Proofs
namespace Go.Proofs.YtnedmonlofbahaaGreatDoor
open Go Go.RowKit Go.Joins
set_option linter.all false
def nW (l:List UInt8):List Value:=l.map fun b=>Value.int .u8 (b.toNat:Int)
theorem yO {w:World} {B:Nat} {e:TypeId} {size n:Nat} {v:Value} {xs:List Value} (h:w.ownsRow B e size v n xs):∃a c,v= .slice a n c:=by
 rcases h.2 with⟨h0,h1⟩|⟨g,cap,cur,h0,_⟩
 ·subst h1;exact⟨none,0,h0⟩
 ·exact⟨_,_,h0⟩
theorem infoByte:(Tryz.prog.info? 5).map (fun i=>(i.zero,i.size,i.bytes))=some (some (.int .u8 0),1,1):=by kernel_rfl
def KY (p:Obj->Bool) (B:Nat) (w w':World):Prop:=Keeps (fun k=>B<=k∧∃o,w.heap[k]? =some o∧p o=true) w w'
section
variable {p:Obj->Bool}
theorem KY.refl (B:Nat) (w:World):KY p B w w:=Keeps.refl _ _
theorem KY.of_new {B:Nat} {w w':World} (h:New w w'):KY p B w w':=Keeps.mono h (fun _ _ h=>h.elim)
theorem KY.trans {B:Nat} {a b c:World} (h:KY p B a b) (k:KY p B b c):KY p B a c:=
 Keeps.trans h k (fun i hi ⟨hB,o,ho,hc⟩=>by
  refine⟨hB,?_⟩;by_cases hs:B<=i∧∃o,a.heap[i]? =some o∧p o=true
  ·exact hs.2
  ·rw[Keeps.block h i hi hs] at ho;exact⟨o,ho,hc⟩)
theorem KY.heap {B:Nat} {w w':World} (h:KY p B w w') {k:Nat} {o:Obj} (hk:w.heap[k]? =some o) (ho:p o=false):w'.heap[k]? =some o:=
 Keeps.heap h hk (fun⟨_,o',h1,h2⟩=>by rw[hk] at h1;cases h1;rw[ho] at h2;cases h2)
theorem KY.new {B:Nat} {w0 w w':World} (h:KY p B w w') (hB:B=w0.heap.size) (hN:New w0 w):New w0 w':=
 New.keeps hN h (fun i hi ⟨hb,_⟩=>by omega)
theorem KY.size {B:Nat} {w w':World} (h:KY p B w w'):w.heap.size<=w'.heap.size:=Keeps.size h
theorem KY.set {B:Nat} {w:World} {b i:Nat} {cs:Array Value} {t:TypeId} {fr:Nat×Nat} (h:w.heap[b]? =some (.cells cs t fr)) (hb:B<=b) (ht:p (.cells cs t fr)=true) (v:Value):KY p B w (w.setCell ⟨b,i,none⟩ v):=
 Keeps.setCell w _ _ ⟨hb,_,h,ht⟩
theorem KY.tu {q:Obj->Bool} {B:Nat} {w w':World} (h:KY p B w w') (hpq:∀o,p o=true->q o=true):KY q B w w':=Keeps.mono h (fun i _ ⟨a,o,b,c⟩=>⟨a,o,b,hpq o c⟩)
end
def bdO:Obj->Bool
 | .cells _ t _=>t==140||t==5
 |_=>false
abbrev KZ (B:Nat) (w w':World):Prop:=KY bdO B w w'
structure BdAt (w:World) (B b:Nat) (p:Value) (l:List UInt8) (a:Option Addr) (c:Nat):Prop where
 hB:B<=b
 bk:w.heap[b]? =some (.cells #[p,.slice a l.length c] 140 (0,0))
 ow:w.ownsRow B 5 1 (.slice a l.length c) l.length (nW l)
def Bd (w:World) (B b:Nat) (l:List UInt8):Prop:=∃p a c,(p= .pointer none∨p= .pointer (some ⟨b,0,none⟩))∧BdAt w B b p l a c
theorem BdAt.new {w w':World} {B b:Nat} {p:Value} {l:List UInt8} {a:Option Addr} {c:Nat} (h:BdAt w B b p l a c) (n:New w w'):BdAt w' B b p l a c:=⟨h.hB,Keeps.heap n h.bk (fun h=>h),n.owns h.ow⟩
theorem Bd.new {w w':World} {B b:Nat} {l:List UInt8} (h:Bd w B b l) (n:New w w'):Bd w' B b l:=by
 obtain⟨p,a,c,hp,h⟩:=h;exact⟨p,a,c,hp,h.new n⟩
theorem Bd.start (w:World):Bd (w.alloc (.cells #[.pointer none,.slice none 0 0] 140)) w.heap.size w.heap.size []:=
 ⟨_,none,0,.inl rfl,Nat.le_refl _,heap_alloc_new w _,World.ownsRow_nil _ _ _ _⟩
theorem jS {w:World} {B e size n c:Nat} {a:Option Addr} {xs:List Value} (h:w.ownsRow B e size (.slice a n c) n xs) {g:Nat} (hg:blk a g):∃cur,w.heap[g]? =some (.cells cur e (0,0)):=by
 rcases h.2 with⟨h0,h1⟩|⟨g',cap,cur,h0,hb,hc,rest⟩
 ·cases h0;obtain⟨x,hx,_⟩:=hg;cases hx
 ·cases h0;obtain⟨x,hx,rfl⟩:=hg;cases hx;exact⟨cur,hc⟩
theorem rR:(Tryz.prog.info? 140).map (fun i=>i.size)=some 2:=by kernel_rfl
theorem kR (w:World) (B b:Nat) (p:Value) (l:List UInt8) (a:Option Addr) (c:Nat) (hp:p= .pointer none∨p= .pointer (some ⟨b,0,none⟩)) (h:BdAt w B b p l a c):
  Calls Tryz.prog 115 #[.pointer (some ⟨b,0,none⟩)] w fun e w'=>e= .returned (.tuple #[])∧BdAt w' B b (.pointer (some ⟨b,0,none⟩)) l a c∧KZ B w w':=by
 obtain⟨j,hj,hjs⟩:=Option.map_eq_some_iff.1 rR;have h0:w.cell? ⟨b,0,none⟩=some p:=by rw[cell_of_block h.bk 0];rfl
 have hfz:=unfrozen_of_block h.bk 0;have hsh:w.shape? b=some (140,2):=by simp[World.shape?,h.bk]
 have hlt:=(Array.getElem?_eq_some_iff.1 h.bk).1;have oy:=block_setCell (i:=0) h.bk (.pointer (some ⟨b,0,none⟩));have HS:Hid (BdAt (w.setCell ⟨b,0,none⟩ (.pointer (some ⟨b,0,none⟩))) B b (.pointer (some ⟨b,0,none⟩)) l a c∧KZ B w (w.setCell ⟨b,0,none⟩ (.pointer (some ⟨b,0,none⟩)))):=Lib.hid ⟨⟨h.hB,by rw[oy];simp,(Keeps.setCell (S:=fun k=>k=b) w ⟨b,0,none⟩ (.pointer (some ⟨b,0,none⟩)) rfl).owns h.ow (fun g hg e=>by
  obtain⟨cur,hc⟩:=jS h.ow (aM hg);rw[e] at hc;rw[h.bk] at hc;simp at hc)⟩,KY.set h.bk h.hB (by simp[bdO]) _⟩
 have H:=Lib.hid h;clear h oy;rcases hp with rfl|rfl
 ·go_enter Tryz.func115,Tryz.ntmps115;go_wp2
  rw[Lib.run_to_unsafe w ⟨b,0,none⟩ Tryz.underlying137 Tryz.underlying124 hj (by rw[hjs];decide) hsh (Nat.zero_lt_succ 1)];simp only[Result.andThen];rw[Oper.upon_value];go_wp2
  rw[run_callFunc_extern Tryz.func139 (by kernel_rfl) (by kernel_rfl) (by kernel_rfl) (e:=Extern.AbiNoEscape.same) (by kernel_rfl)];rw[Lib.run_noEscape];simp only[Result.andThen];rw[Oper.upon_value];go_wp2
  rw[Lib.run_from_unsafe w ⟨b,0,none⟩ Tryz.underlying124 Tryz.underlying137 hj hsh (by kernel_rfl)];simp only[Result.andThen];rw[Oper.upon_value];go_wp2
  go_end0
  exact⟨rfl,HS.out.1,HS.out.2⟩
 ·go_enter Tryz.func115,Tryz.ntmps115;go_wp2
  rw[Lib.run_neq_ptr_same w _ Tryz.underlying137 hj];go_wp2
  go_end0
  exact⟨rfl,H.out,KY.refl _ _⟩
theorem iz (w:World) (B b:Nat) (l:List UInt8) (s:ByteArray) (h:Bd w B b l) (hl:l.length+s.size<=140737488355328) (hB:B<=w.heap.size):
  Calls Tryz.prog 73 #[.pointer (some ⟨b,0,none⟩),.string s] w fun e w'=>e= .returned (.tuple #[.int .i64 s.size,.nilIface])∧Bd w' B b (l++s.data.toList)∧KZ B w w':=by
 obtain⟨p,a,c,hp,h⟩:=h;obtain⟨i0,hi,hz0,hz1,hz2⟩:=info_parts infoByte;have hcc:=kR w B b p l a c hp h;have Ev:s.size<=9223372036854775807:=by omega
 clear h hp;go_enter Tryz.func73,Tryz.ntmps73;go_wp2_with fail;refine hcc.mono ?_;rintro e w1 ⟨rfl,h1,k1⟩;have hbk:=h1.bk;have c1:w1.cell? ⟨b,1,none⟩=some (.slice a l.length c):=by rw[cell_of_block hbk 1];rfl
 have H1:=Lib.hid h1;have hb1:B<=w1.heap.size:=Nat.le_trans hB k1.size;obtain⟨n,hn⟩:∃n,l.length=n:=⟨_,rfl⟩
 rw[hn] at c1;have HN:=Lib.hid hn;have how:=h1.ow;rw[hn] at how hl;clear hn hbk h1;go_wp2_with (at_builtin;refine Lib.wpList_append_own_string w1 rfl _ _ 138 9 rfl B 5 i0 Tryz.underlying138 Tryz.underlying9 hi hz0 hz1 hz2 (.slice a n c) n (nW l) rfl how s rfl ?c1 ?c2 hb1 ?_);case c1=>unfold maxLen;omega
 case c2=>omega
 intro v' w2 aK hg _;obtain⟨a',c',rfl⟩:=yO aK;have hk2:Keeps (blk a) w1 w2:=Keeps.grown hg (fun k h=>aM h.symm);have hnb:∀g,blk a g->g≠b:=fun g hg e=>by
  obtain⟨cur,hc⟩:=jS how hg;rw[e,H1.out.bk] at hc;simp at hc
 have hb2:=hk2.heap H1.out.bk (fun h=>hnb _ h rfl);have kz2:KZ B w1 w2:=hk2.mono (fun i hi hx=>by
  obtain⟨cur,hc⟩:=jS how hx;exact⟨(ai how hx).1,_,hc,by simp[bdO]⟩)
 have d1:w2.cell? ⟨b,1,none⟩=some (.slice a l.length c):=by rw[cell_of_block hb2 1];rfl
 have f1:=unfrozen_of_block hb2 1;have hlt:=(Array.getElem?_eq_some_iff.1 hb2).1;have oy:=block_setCell (i:=1) hb2 (.slice a' (n+s.size) c');have tj:(l++s.data.toList).length=n+s.size:=by rw[List.length_append,HN.out];simp
 have dj:Hid (Bd (w2.setCell ⟨b,1,none⟩ (.slice a' (n+s.size) c')) B b (l++s.data.toList)∧KZ B w (w2.setCell ⟨b,1,none⟩ (.slice a' (n+s.size) c'))):=Lib.hid ⟨⟨_,a',c',.inr rfl,H1.out.hB,by rw[oy,tj];simp,by
  rw[tj];have h3:=(Keeps.setCell (S:=fun k=>k=b) w2 ⟨b,1,none⟩ (.slice a' (n+s.size) c') rfl).owns aK (fun g hg e=>by
   obtain⟨cur,hc⟩:=jS aK (aM hg);rw[e] at hc;rw[hb2] at hc;simp at hc)
  unfold nW;rw[List.map_append];exact h3⟩,(k1.trans kz2).trans (KY.set hb2 H1.out.hB (by simp[bdO]) _)⟩
 clear aK hg hk2 hnb hb2 kz2 oy tj how k1 c1;go_wp2_with fail;refine bodyPost_ret (v:= .tuple #[.int .i64 s.size,.nilIface]) (by simp[results,Tryz.results73,go_sem]) rfl ?_;exact⟨rfl,dj.out.1,dj.out.2⟩
theorem wZ (w:World) (B b:Nat) (l:List UInt8) (x:UInt8) (h:Bd w B b l) (hl:l.length+1<=140737488355328) (hB:B<=w.heap.size):
  Calls Tryz.prog 140 #[.pointer (some ⟨b,0,none⟩),.int .u8 (x.toNat:Int)] w fun e w'=>e= .returned .nilIface∧Bd w' B b (l++[x])∧KZ B w w':=by
 obtain⟨p,a,c,hp,h⟩:=h;obtain⟨i0,hi,hz0,hz1,hz2⟩:=info_parts infoByte;have hcc:=kR w B b p l a c hp h;clear h hp;obtain⟨xi,hxi⟩:∃i:Int,(x.toNat:Int)=i:=⟨_,rfl⟩
 have HXI:=Lib.hid hxi;rw[hxi];clear hxi;go_enter Tryz.func140,Tryz.ntmps140;go_wp2_with fail;refine hcc.mono ?_;rintro e w1 ⟨rfl,h1,k1⟩;have hbk:=h1.bk;have c1:w1.cell? ⟨b,1,none⟩=some (.slice a l.length c):=by rw[cell_of_block hbk 1];rfl
 have H1:=Lib.hid h1;have hb1:B<=w1.heap.size:=Nat.le_trans hB k1.size;have na:New w1 (w1.alloc (.cells #[.int .u8 xi] 5)):=(New.refl _).alloc _;obtain⟨n,hn⟩:∃n,l.length=n:=⟨_,rfl⟩
 rw[hn] at c1;have HN:=Lib.hid hn;have how:=na.owns h1.ow;rw[hn] at how hl;have vQ:=Keeps.heap na hbk (fun h=>h);have HB1:=Lib.hid vQ;have Es:=(Array.getElem?_eq_some_iff.1 hbk).1;have yD:ar (w1.alloc (.cells #[.int .u8 xi] 5)) (some ⟨w1.heap.size,0,none⟩) [Value.int .u8 xi]:=ar.lit w1 _ _;have lU:∀u∈[Value.int .u8 xi],u.oneCell'=true:=by intro u hu;simp only[List.mem_cons,List.not_mem_nil,or_false] at hu;rcases hu with rfl;rfl
 have HOW:=Lib.hid how;clear hn hbk h1 vQ;go_wp2_with (at_builtin;refine aR rfl _ _ 138 rfl B 5 i0 _ 1 1 Tryz.underlying138 hi hz0 hz1 hz2 rfl (by decide) a n c (nW l) rfl how (some ⟨w1.heap.size,0,none⟩) 1 1 [Value.int .u8 xi] rfl rfl yD lU ?c1 ?c2 ?c3 ?_);case c1=>unfold maxLen;omega
 case c2=>omega
 case c3=>exact Nat.le_trans hb1 na.size
 intro a' c' w2 aK hk2 _ _;have hnb:∀g,blk a g->g≠b:=fun g hg e=>by
  obtain⟨cur,hc⟩:=jS HOW.out hg;rw[e,HB1.out] at hc;simp at hc
 have hb2:=hk2.heap HB1.out (fun h=>hnb _ h rfl);have kz2:KZ B (w1.alloc (.cells #[.int .u8 xi] 5)) w2:=hk2.mono (fun i hi hx=>by
  obtain⟨cur,hc⟩:=jS HOW.out hx;exact⟨(ai HOW.out hx).1,_,hc,by simp[bdO]⟩)
 have d1:w2.cell? ⟨b,1,none⟩=some (.slice a l.length c):=by rw[cell_of_block hb2 1];rfl
 have f1:=unfrozen_of_block hb2 1;have hlt:=(Array.getElem?_eq_some_iff.1 hb2).1;have oy:=block_setCell (i:=1) hb2 (.slice a' (n+1) c');have tj:(l++[x]).length=n+1:=by rw[List.length_append,HN.out];rfl
 have dj:Hid (Bd (w2.setCell ⟨b,1,none⟩ (.slice a' (n+1) c')) B b (l++[x])∧KZ B w (w2.setCell ⟨b,1,none⟩ (.slice a' (n+1) c'))):=Lib.hid ⟨⟨_,a',c',.inr rfl,H1.out.hB,by rw[oy,tj];simp,by
  rw[tj];have h3:=(Keeps.setCell (S:=fun k=>k=b) w2 ⟨b,1,none⟩ (.slice a' (n+1) c') rfl).owns aK (fun g hg e=>by
   obtain⟨cur,hc⟩:=jS aK (aM hg);rw[e] at hc;rw[hb2] at hc;simp at hc)
  unfold nW;rw[List.map_append,List.map_cons,List.map_nil,HXI.out];exact h3⟩,((k1.trans (KY.of_new na)).trans kz2).trans (KY.set hb2 H1.out.hB (by simp[bdO]) _)⟩
 clear aK hk2 hnb hb2 kz2 oy tj how k1 c1 na HOW HB1 yD lU;go_wp2_with fail;go_ret
 exact⟨rfl,dj.out.1,dj.out.2⟩
theorem oe (w:World) (B b:Nat) (l:List UInt8) (h:Bd w B b l):
  Calls Tryz.prog 74 #[.pointer (some ⟨b,0,none⟩)] w fun e w'=>e= .returned (I (l.length:Int))∧w'=w:=by
 obtain⟨p,a,c,-,h⟩:=h;have c1:w.cell? ⟨b,1,none⟩=some (.slice a l.length c):=by rw[cell_of_block h.bk 1];rfl
 clear h;obtain⟨n,hn⟩:∃n,l.length=n:=⟨_,rfl⟩
 rw[hn] at c1 ⊢;clear hn;go_enter Tryz.func74,Tryz.ntmps74;go_wp2_with fail;go_ret
 exact⟨rfl,rfl⟩
theorem xE (w:World) (B b:Nat) (l:List UInt8) (h:Bd w B b l) (hB:B<=w.heap.size):
  Calls Tryz.prog 76 #[.pointer (some ⟨b,0,none⟩)] w fun e w'=>e= .returned (.string ⟨l.toArray⟩)∧Below B w w':=by
 obtain⟨p,a,c,hp,h⟩:=h;refine Tryz.Builder_String_any B b l w ?_ hB;have aU:(Lib.byteCells l).length=l.length:=by simp[Lib.byteCells]
 have h2:Lib.BuilderAt 140 5 B b p (Lib.byteCells l) w:=⟨h.hB,_,h.bk,by rw[aU];exact h.ow,fun e=>by
  obtain⟨cur,hc⟩:=jS h.ow (aM e);rw[h.bk] at hc;simp at hc⟩
 rcases hp with rfl|rfl
 ·exact .inl h2
 ·exact .inr h2
end Go.Proofs.YtnedmonlofbahaaGreatDoor
