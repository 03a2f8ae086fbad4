/-
  LexN, LexP, LexA, LexB, XX, LexC: what is wanted of them.
-/
import Derived.Test.YtnedmonlofbahaaGreatDoorBs
import Derived.Test.YtnedmonlofbahaaGreatDoorDbl
import Derived.Lib.ItoaMem
import Derived.Lib.ItoaLen
import Derived.Lib.ParseIntBTie
import Derived.OwnWalk
import Derived.Shelf.Strings.Builder1
import Derived.Shelf.Strings.BuilderF
import Derived.Shelf.Strings.BuilderK
import Derived.Shelf.Strconv.Itoa0
import Derived.Shelf.Strconv.Itoa1
import Derived.Shelf.LaysM
import Derived.Shelf.Strconv.Itoa2
import Derived.Shelf.Strconv.Itoa3
import Derived.Shelf.Strconv.Itoa4
import Derived.Shelf.Strconv.ParseIntEmpty
import Derived.Shelf.Strconv.Clone
import Derived.Shelf.Strconv.SyntaxError
import Derived.Shelf.LaysC
import Derived.Shelf.Strconv.ToError
import Derived.Shelf.Strconv.Lower
import Derived.Shelf.Strconv.ParseUint10
import Derived.Shelf.Strconv.ParseUint10Empty
import Derived.Shelf.Strconv.ParseUint10Any
import Derived.Shelf.Strconv.ParseInt10
import Derived.Shelf.Strconv.RangeError
import Derived.Shelf.Strconv.ToErrorRange
import Derived.Shelf.Strconv.ParseUintEmpty
import Derived.Shelf.Strconv.ParseUint10b64
import Derived.Shelf.Strconv.ParseUint10b32
import Derived.Shelf.Strconv.ParseUint10b16
import Derived.Shelf.Strconv.ParseUint10b8
import Derived.Shelf.Strconv.ParseUint10At
import Derived.Shelf.Strconv.ParseInt10At64
import Derived.Shelf.Strconv.ParseInt10At32
import Derived.Shelf.Strconv.ParseInt10At16
import Derived.Shelf.Strconv.ParseInt10At8
import Derived.Shelf.Strconv.ParseInt10All
import Derived.Shelf.Strconv.ParseIntPublic10
import Derived.Shelf.Strconv.ErrVarParseInt
import Derived.Test.YtnedmonlofbahaaGreatDoorProg
import Derived.Laws.Concat
set_option maxRecDepth 100000
set_option maxHeartbeats 8000000
namespace Go.Proofs.YtnedmonlofbahaaGreatDoor
open Go
set_option linter.all false
def df (b:UInt8):Bool:=bg (b.toNat:Int)
def aq (b:UInt8):Bool:=bw (b.toNat:Int)
def cg (b:UInt8):Bool:=be (b.toNat:Int)
theorem bq (b:UInt8):aq b=true ↔ 48<=b.toNat∧b.toNat<=57:=by
 unfold aq bw;rw[decide_eq_true_iff];omega
def bY (a:Nat) (l:List UInt8):Nat:=l.foldl (fun a b=>a*10+(b.toNat-48)) a
theorem gt (a:Nat) (c:UInt8) (r:List UInt8):bY a (c::r)=bY (a*10+(c.toNat-48)) r:=by unfold bY;rw[List.foldl_cons]
theorem kh (a:Nat):bY a []=a:=rfl
theorem vd:∀(l:List UInt8) (a:Nat),a<=bY a l:=by
 intro l;induction l with
 |nil=>intro a;exact Nat.le_refl _
 |cons c r ih=>intro a;rw[gt];exact Nat.le_trans (by omega) (ih _)
theorem ql (a:Nat) (l:List UInt8) (c:UInt8):bY a (l++[c])=bY a l*10+(c.toNat-48):=by
 unfold bY;rw[List.foldl_append];rfl
theorem ve:∀(l:List UInt8) (a:Nat),l.all aq=true->bY a l<(a+1)*10^l.length:=by
 intro l;induction l with
 |nil=>intro a _;simp[kh]
 |cons c r ih=>
  intro a h;simp only[List.all_cons,Bool.and_eq_true] at h;have hc:=(bq c).1 h.1;have:=ih (a*10+(c.toNat-48)) h.2;rw[gt,List.length_cons,Nat.pow_succ];refine Nat.lt_of_lt_of_le this ?_;have h10:a*10+(c.toNat-48)+1<=(a+1)*10:=by omega
  have:=Nat.mul_le_mul_right (10^r.length) h10;rw[Nat.mul_assoc,Nat.mul_comm 10] at this;exact this
theorem oh (c:UInt8) (h:aq c=true):UInt8.ofNat (48+(c.toNat-48))=c:=by
 have:=(bq c).1 h;rw[show 48+(c.toNat-48)=c.toNat by omega];exact UInt8.ofNat_toNat
theorem og:∀(l:List UInt8) (a:Nat),1<=a->l.all aq=true->Lib.decDigits (bY a l)=Lib.decDigits a++l:=by
 intro l;induction l with
 |nil=>intro a _ _;simp[kh]
 |cons c r ih=>
  intro a ha h;simp only[List.all_cons,Bool.and_eq_true] at h;have hc:=(bq c).1 h.1;rw[gt,ih _ (by omega) h.2];have e:Lib.decDigits (a*10+(c.toNat-48))=Lib.decDigits a++[c]:=by
   rw[Lib.decDigits,dif_neg (by omega)];rw[show(a*10+(c.toNat-48))/10=a by omega,show(a*10+(c.toNat-48))%10=c.toNat-48 by omega,oh c h.1]
  rw[e];simp
theorem pj (c:UInt8) (r:List UInt8) (h:(c::r).all aq=true) (h0:r=[]∨c.toNat≠48):Lib.decDigits (bY 0 (c::r))=c::r:=by
 simp only[List.all_cons,Bool.and_eq_true] at h;have hc:=(bq c).1 h.1;have e1:Lib.decDigits (c.toNat-48)=[c]:=by rw[Lib.decDigits_one (by omega),oh c h.1]
 rw[gt,Nat.zero_mul,Nat.zero_add];rcases h0 with rfl|h0
 ·rw[kh,e1]
 ·rw[og r _ (by omega) h.2,e1];rfl
theorem hJ:∀(d n:Nat),n<=d->1<=n->∃c r,Lib.decDigits n=c::r∧c.toNat≠48:=by
 intro d;induction d with
 |zero=>intro n h1 h2;omega
 |succ d ih=>
  intro n h1 h2;by_cases h:n<10
  ·refine⟨_,[],Lib.decDigits_one h,?_⟩;rw[UInt8.toNat_ofNat'];omega
  ·obtain⟨c,r,e,hc⟩:=ih (n/10) (by omega) (by omega);refine⟨c,r++[UInt8.ofNat (48+n%10)],?_,hc⟩;rw[Lib.decDigits,dif_neg h,e];rfl
theorem iS:∀(d n:Nat),n<=d->(Lib.decDigits n).all aq=true:=by
 intro d;induction d with
 |zero=>
  intro n h;rw[Lib.decDigits_one (by omega)];have:n=0:=by omega
  subst this;decide
 |succ d ih=>
  intro n h1;have key:∀k<10,aq (UInt8.ofNat (48+k))=true:=by decide
  by_cases h:n<10
  ·rw[Lib.decDigits_one h,List.all_cons,List.all_nil,key n h];rfl
  ·rw[Lib.decDigits,dif_neg h,List.all_append,ih (n/10) (by omega)];rw[List.all_cons,List.all_nil,key (n%10) (by omega)];rfl
theorem gc:∀(k n:Nat),1<=k->n<10^k->(Lib.decDigits n).length<=k:=by
 intro k;induction k with
 |zero=>intro n h;omega
 |succ k ih=>
  intro n _ hn;by_cases h:n<10
  ·rw[Lib.decDigits_one h];simp
  ·rw[Lib.decDigits,dif_neg h,List.length_append];have h1:1<=k:=by
    rcases Nat.eq_zero_or_pos k with rfl|hk
    ·simp at hn;omega
    ·exact hk
   have h2:n/10<10^k:=by rw[Nat.pow_succ] at hn;omega
   have:=ih (n/10) h1 h2;simp;omega
theorem dH:Lib.decDigits 0=[48]:=Lib.decDigits_one (by omega)
theorem jr (n:Nat):Lib.decDigits n≠[]:=by
 rcases Nat.eq_zero_or_pos n with rfl|h
 ·rw[dH];simp
 ·obtain⟨c,r,e,_⟩:=hJ n n (Nat.le_refl _) h;rw[e];simp
theorem kg (n:Nat):bY 0 (Lib.decDigits n)=n:=by
 induction n using Nat.strongRecOn with
 |ind n ih=>
  by_cases h:n<10
  ·rw[Lib.decDigits_one h,gt,kh,UInt8.toNat_ofNat'];omega
  ·rw[Lib.decDigits,dif_neg h,ql,ih (n/10) (by omega),UInt8.toNat_ofNat'];omega
def i8 (l:List UInt8):Option Nat:=if(2<=l.length∧l.head? =some 48)∨19<l.length then none else some (bY 0 l)
def fU (d:List UInt8):Option Int:=match d with
 |[]=>none
 |c::r=>
  if c.toNat=45 then
   (if r=[48] then none else match i8 r with
    |some v=>if v<=9223372036854775808 then some (-(v:Int)) else none
    |none=>none)
  else match i8 (c::r) with
   |some v=>if v<9223372036854775808 then some (v:Int) else none
   |none=>none
theorem gl (r:List UInt8):fU (45::r)=(if r=[48] then none else match i8 r with
    |some v=>if v<=9223372036854775808 then some (-(v:Int)) else none
    |none=>none):=by
 have h:(45:UInt8).toNat=45:=rfl;unfold fU;exact if_pos h
theorem wD:∀(l:List UInt8) (a:Nat),l.all aq=true->a<18446744073709551616->Lib.parseUint10 a l=if bY a l<18446744073709551616 then .ok (bY a l) else .range:=by
 intro l;induction l with
 |nil=>intro a _ ha;rw[kh,if_pos ha];rfl
 |cons c r ih=>
  intro a h ha;simp only[List.all_cons,Bool.and_eq_true] at h;have hc:=(bq c).1 h.1;have hle:=vd r (a*10+(c.toNat-48));rw[gt];unfold Lib.parseUint10;rw[if_pos hc];by_cases h1:1844674407370955162<=a
  ·rw[if_pos h1,if_neg (by omega)]
  ·rw[if_neg h1];by_cases h2:18446744073709551616<=a*10+(c.toNat-48)
   ·rw[if_pos h2,if_neg (by omega)]
   ·rw[if_neg h2,ih _ h.2 (by omega)]
theorem uS (l:List UInt8) (hn:l≠[]) (h:l.all aq=true):Lib.parseMag l=if bY 0 l<18446744073709551616 then .ok (bY 0 l) else .range:=by
 unfold Lib.parseMag;rw[if_neg hn,wD l 0 h (by omega)]
theorem pM (l:List UInt8) (hn:l≠[]) (hd:l.all aq=true) (h:i8 l=none) (hv:bY 0 l<10000000000000000000):Lib.decDigits (bY 0 l)≠l:=by
 unfold i8 at h;split at h
 ·rename_i hc;intro e;rcases hc with⟨h2,h0⟩|h19
  ·rcases Nat.eq_zero_or_pos (bY 0 l) with z|z
   ·rw[z,dH] at e;rw[<-e] at h2;simp at h2
   ·obtain⟨c,r,e2,hc⟩:=hJ _ _ (Nat.le_refl _) z;rw[e2] at e;rw[<-e] at h0;simp only[List.head?_cons,Option.some.injEq] at h0;rw[h0] at hc;exact hc rfl
  ·have:=gc 19 (bY 0 l) (by omega) (by omega);rw[e] at this;omega
 ·cases h
theorem pN (l:List UInt8) (hn:l≠[]) (hd:l.all aq=true) {v:Nat} (h:i8 l=some v):v=bY 0 l∧Lib.decDigits v=l∧v<10000000000000000000:=by
 unfold i8 at h;split at h
 ·cases h
 ·rename_i hc;cases h
  refine⟨rfl,?_,?_⟩
  ·cases l with
   |nil=>exact absurd rfl hn
   |cons c r=>
    refine pj c r hd ?_;by_cases hr:r=[]
    ·exact Or.inl hr
    ·refine Or.inr fun h48=>hc (Or.inl ⟨?_,?_⟩)
     ·cases r with
      |nil=>exact absurd rfl hr
      |cons=>simp
     ·simp only[List.head?_cons,Option.some.injEq];exact UInt8.toNat_inj.1 h48
  ·have h1:=ve l 0 hd;have h2:(10:Nat)^l.length<=10^19:=Nat.pow_le_pow_right (by omega) (by omega);have h3:(10:Nat)^19=10000000000000000000:=by decide
   omega
theorem oK (c:UInt8) (r:List UInt8) (hd:(c::r).all aq=true):
  (∃n,fU (c::r)=some n∧Lib.parseIntB 64 (c::r)= .ok n∧Lib.itoa n=c::r)∨
  (fU (c::r)=none∧(Lib.parseIntB 64 (c::r)= .range∨∃n,Lib.parseIntB 64 (c::r)= .ok n∧Lib.itoa n≠c::r)):=by
 have hc:aq c=true:=by simp only[List.all_cons,Bool.and_eq_true] at hd;exact hd.1
 have hcd:=(bq c).1 hc;have e:Lib.parseIntB 64 (c::r)=Lib.signless (Lib.parseMag (c::r)):=by rw[Lib.parseIntB_64,Lib.atoiAll_plain c r (by omega) (by omega)]
 have en:fU (c::r)=match i8 (c::r) with
   |some v=>if v<9223372036854775808 then some (v:Int) else none
   |none=>none:=by
  show(if c.toNat=45 then _ else _)=_
  rw[if_neg (by omega)]
 rw[e,en,uS _ (by simp) hd];cases hm:i8 (c::r) with
 |some v=>
  obtain⟨hv,hdd,_⟩:=pN _ (by simp) hd hm;rw[<-hv];by_cases h1:v<9223372036854775808
  ·left
   refine⟨v,by simp only[if_pos h1],?_,?_⟩
   ·rw[if_pos (by omega)];unfold Lib.signless;simp only;rw[if_neg (by omega)]
   ·rw[Lib.itoa_nonneg];exact hdd
  ·right
   refine⟨by simp only[if_neg h1],Or.inl ?_⟩;by_cases h2:v<18446744073709551616
   ·rw[if_pos h2];unfold Lib.signless;simp only;rw[if_pos (by omega)]
   ·rw[if_neg h2];rfl
 |none=>
  right
  refine⟨rfl,?_⟩;by_cases h1:bY 0 (c::r)<9223372036854775808
  ·refine Or.inr ⟨((bY 0 (c::r):Nat):Int),?_,?_⟩
   ·rw[if_pos (by omega)];unfold Lib.signless;simp only;rw[if_neg (by omega)]
   ·rw[Lib.itoa_nonneg];exact pM _ (by simp) hd hm (by omega)
  ·left
   by_cases h2:bY 0 (c::r)<18446744073709551616
   ·rw[if_pos h2];unfold Lib.signless;simp only;rw[if_pos (by omega)]
   ·rw[if_neg h2];rfl
theorem oJ (r:List UInt8) (hn:r≠[]) (hd:r.all aq=true):
  (∃n,fU (45::r)=some n∧Lib.parseIntB 64 (45::r)= .ok n∧Lib.itoa n=45::r)∨
  (fU (45::r)=none∧(Lib.parseIntB 64 (45::r)= .range∨∃n,Lib.parseIntB 64 (45::r)= .ok n∧Lib.itoa n≠45::r)):=by
 have e:Lib.parseIntB 64 (45::r)=Lib.signed (Lib.parseMag r):=by rw[Lib.parseIntB_64,Lib.atoiAll_minus]
 have en:fU (45::r)=(if r=[48] then none else match i8 r with
    |some v=>if v<=9223372036854775808 then some (-(v:Int)) else none
    |none=>none):=by
  exact gl r
 rw[e,en,uS _ hn hd];by_cases hz:r=[48]
 ·subst hz;right
  refine⟨by rw[if_pos rfl],Or.inr ⟨0,?_,?_⟩⟩
  ·have:bY 0 [48]=0:=rfl;rw[this,if_pos (by omega)];rfl
  ·show Lib.itoa ((0:Nat):Int)≠_
   rw[Lib.itoa_nonneg,dH];simp
 ·rw[if_neg hz];have gd:Lib.decDigits (bY 0 r)=r->1<=bY 0 r:=by
   intro h;rcases Nat.eq_zero_or_pos (bY 0 r) with z|z
   ·rw[z,dH] at h;exact absurd h.symm hz
   ·exact z
  cases hm:i8 r with
  |some v=>
   obtain⟨hv,hdd,_⟩:=pN _ hn hd hm;have hp:=gd (by rw[<-hv];exact hdd);rw[<-hv] at hp ⊢;by_cases h1:v<=9223372036854775808
   ·left
    refine⟨-(v:Int),by simp only[if_pos h1],?_,?_⟩
    ·rw[if_pos (by omega)];unfold Lib.signed;simp only;rw[if_neg (by omega)]
    ·rw[Lib.itoa_neg v hp,hdd]
   ·right
    refine⟨by simp only[if_neg h1],Or.inl ?_⟩;by_cases h2:v<18446744073709551616
    ·rw[if_pos h2];unfold Lib.signed;simp only;rw[if_pos (by omega)]
    ·rw[if_neg h2];rfl
  |none=>
   right
   refine⟨rfl,?_⟩;by_cases h1:bY 0 r<=9223372036854775808
   ·refine Or.inr ⟨-((bY 0 r:Nat):Int),?_,?_⟩
    ·rw[if_pos (by omega)];unfold Lib.signed;simp only;rw[if_neg (by omega)]
    ·rcases Nat.eq_zero_or_pos (bY 0 r) with z|z
     ·rw[z];show Lib.itoa ((0:Nat):Int)≠_
      rw[Lib.itoa_nonneg,dH];simp
     ·rw[Lib.itoa_neg _ z];intro h;exact pM _ hn hd hm (by omega) (List.cons_inj_right 45|>.1 h)
   ·left
    by_cases h2:bY 0 r<18446744073709551616
    ·rw[if_pos h2];unfold Lib.signed;simp only;rw[if_pos (by omega)]
    ·rw[if_neg h2];rfl
theorem wl (n:Int) (h0: -9223372036854775808<=n) (h1:n<=9223372036854775807):fU (Lib.itoa n)=some n:=by
 have CT:∀v:Nat,v<10000000000000000000->i8 (Lib.decDigits v)=some v:=by
  intro v hv;unfold i8;rw[if_neg,kg];rintro(⟨h2,h48⟩|h19)
  ·rcases Nat.eq_zero_or_pos v with z|z
   ·rw[z,dH] at h2;simp at h2
   ·obtain⟨c,r,e,hc⟩:=hJ v v (Nat.le_refl _) z;rw[e] at h48;simp only[List.head?_cons,Option.some.injEq] at h48;rw[h48] at hc;exact hc rfl
  ·have:=gc 19 v (by omega) (by omega);omega
 by_cases hn:0<=n
 ·obtain⟨k,rfl⟩:=Int.eq_ofNat_of_zero_le hn;rw[Lib.itoa_nonneg];have di:=iS k k (Nat.le_refl _);have hm:=CT k (by omega);cases hd:Lib.decDigits k with
  |nil=>exact absurd hd (jr k)
  |cons c r=>
   rw[hd] at di hm;have hc:aq c=true:=by simp only[List.all_cons,Bool.and_eq_true] at di;exact di.1
   have hcd:=(bq c).1 hc;show(if c.toNat=45 then _ else _)=_
   rw[if_neg (by omega),hm];simp only;rw[if_pos (by omega)]
 ·obtain⟨k,rfl⟩:∃k:Nat,n= -(k:Int):=⟨n.natAbs,by omega⟩
  rw[Lib.itoa_neg k (by omega)];rw[gl,if_neg,CT k (by omega)]
  ·simp only;rw[if_pos (by omega)]
  ·intro e;have:=kg k;rw[e] at this;have z:bY 0 [48]=0:=rfl;omega
theorem oL (d:List UInt8) (n:Int) (h:fU d=some n): -9223372036854775808<=n∧n<=9223372036854775807:=by
 cases d with
 |nil=>cases h
 |cons c r=>
  unfold fU at h;simp only at h;split at h
  ·split at h
   ·cases h
   ·split at h
    ·split at h
     ·cases h;omega
     ·cases h
    ·cases h
  ·split at h
   ·split at h
    ·cases h;omega
    ·cases h
   ·cases h
inductive TokR where
 |bad (code:Int)
 |good (sort:Int) (text:List UInt8) (num:Int) (len:Nat)
structure LTok where
 sort:Int
 text:List UInt8
 num:Int
 at_:Nat
def de (b:UInt8):Bool:=decide (b.toNat=32∨b.toNat=9∨b.toNat=13∨b.toNat=10)
def bV (b:UInt8):Bool:=decide (b.toNat≠10)
def f5 (b:UInt8):Bool:=decide (b.toNat=123∨b.toNat=125∨b.toNat=61∨b.toNat=59∨b.toNat=46)
def cZ:List UInt8->TokR
 |[]=> .bad 40
 |c::r=>
  if df c=true then
   (if 16<((c::r).takeWhile cg).length then .bad 42 else .good 1 ((c::r).takeWhile cg) 0 ((c::r).takeWhile cg).length)
  else if aq c=true∨(c.toNat=45∧aq (r.headD 0)=true) then
   (match fU (c::r.takeWhile aq) with
   |some n=> .good 2 [] n ((r.takeWhile aq).length+1)
   |none=> .bad 41)
  else if c.toNat=45∧(r.headD 0).toNat=62 then .good 3 [45,62] 0 2
  else if f5 c=true then .good 3 [c] 0 1
  else .bad 40
theorem aY (c:UInt8) (r:List UInt8):cZ (c::r)=
  (if df c=true then
   (if 16<((c::r).takeWhile cg).length then .bad 42 else .good 1 ((c::r).takeWhile cg) 0 ((c::r).takeWhile cg).length)
  else if aq c=true∨(c.toNat=45∧aq (r.headD 0)=true) then
   (match fU (c::r.takeWhile aq) with
   |some n=> .good 2 [] n ((r.takeWhile aq).length+1)
   |none=> .bad 41)
  else if c.toNat=45∧(r.headD 0).toNat=62 then .good 3 [45,62] 0 2
  else if f5 c=true then .good 3 [c] 0 1
  else .bad 40):=rfl
def nC:Nat->Nat->List UInt8->List LTok×Option (Int×Nat)
 |0,_,_=>([],none)
 |_+1,_,[]=>([],none)
 |f+1,p,c::r=>
  if de c=true then nC f (p+1) r
  else if c.toNat=35 then nC f (p+1+(r.takeWhile bV).length) (r.drop (r.takeWhile bV).length)
  else match cZ (c::r) with
   | .bad e=>([],some (e,p))
   | .good s t n k=>(⟨s,t,n,p⟩::(nC f (p+k) ((c::r).drop k)).1,(nC f (p+k) ((c::r).drop k)).2)
def bU (p:Nat) (l:List UInt8):List LTok×Option (Int×Nat):=nC l.length p l
def eR (l:List UInt8):List LTok×Int×Nat:=
 if 1048576<l.length then([],2,1048576)
 else match bU 0 l with
  |(ts,none)=>(ts++[⟨0,[],0,l.length⟩],0,0)
  |(_,some (c,a))=>([],c,a)
theorem er (b:UInt8):df b=true ↔ 97<=b.toNat∧b.toNat<=122:=by
 unfold df bg;rw[decide_eq_true_iff];omega
theorem kx (b:UInt8):cg b=true ↔ (df b=true∨aq b=true∨b.toNat=95):=by
 have e:((b.toNat:Int)=95)=(b.toNat=95):=by rw[eq_iff_iff];omega
 unfold cg be df aq;simp only[Bool.or_eq_true,decide_eq_true_iff,e,or_assoc]
theorem bH {α:Type} (p:α->Bool) (l:List α):l.take (l.takeWhile p).length=l.takeWhile p:=by
 exact(List.prefix_iff_eq_take.1 (List.takeWhile_prefix p)).symm
theorem bX {α:Type} (p:α->Bool) (l:List α):(l.takeWhile p).length<=l.length:=(List.takeWhile_prefix p).length_le
theorem ii (r:List UInt8) (h:r.headD 0≠0):∃r',r=r.headD 0::r':=by
 cases r with
 |nil=>exact absurd rfl h
 |cons c r'=>exact⟨r',rfl⟩
theorem gD {l:List UInt8} {s n:Int} {t:List UInt8} {k:Nat} (h:cZ l= .good s t n k):1<=k∧k<=l.length:=by
 cases l with
 |nil=>cases h
 |cons c r=>
  rw[aY] at h;split at h
  ·rename_i hl;split at h
   ·cases h
   ·cases h
    have hi:cg c=true:=(kx c).2 (Or.inl hl);refine⟨?_,bX _ _⟩;rw[List.takeWhile_cons,if_pos hi];simp
  ·split at h
   ·split at h
    ·cases h
     have:=bX aq r;simp only[List.length_cons];omega
    ·cases h
   ·split at h
    ·rename_i hc;cases h
     obtain⟨r',e⟩:=ii r (fun e=>by rw[e] at hc;exact absurd hc.2 (by decide));rw[e];simp
    ·split at h
     ·cases h;simp
     ·cases h
theorem pK:∀(f g p:Nat) (l:List UInt8),l.length<=f->l.length<=g->nC f p l=nC g p l:=by
 intro f;induction f with
 |zero=>
  intro g p l h1 h2;obtain rfl:l=[]:=List.eq_nil_of_length_eq_zero (by omega);cases g<;>rfl
 |succ f ih=>
  intro g p l h1 h2;cases l with
  |nil=>cases g<;>rfl
  |cons c r=>
   cases g with
   |zero=>simp at h2
   |succ g=>
    simp only[List.length_cons] at h1 h2;unfold nC;split
    ·exact ih _ _ _ (by omega) (by omega)
    ·split
     ·exact ih _ _ _ (by rw[List.length_drop];omega) (by rw[List.length_drop];omega)
     ·split
      ·rfl
      ·rename_i s t n k ht;have:=gD ht;simp only[List.length_cons] at this;rw[ih g (p+k) _ (by rw[List.length_drop,List.length_cons];omega) (by rw[List.length_drop,List.length_cons];omega)]
theorem eK (p:Nat):bU p []=([],none):=rfl
theorem cC (p:Nat) (c:UInt8) (r:List UInt8) (h:de c=true):bU p (c::r)=bU (p+1) r:=by
 unfold bU;simp only[List.length_cons];rw[nC,if_pos h]
theorem gj (p:Nat) (c:UInt8) (r:List UInt8) (h:c.toNat=35):bU p (c::r)=bU (p+1+(r.takeWhile bV).length) (r.drop (r.takeWhile bV).length):=by
 unfold bU;simp only[List.length_cons];rw[nC,if_neg (by unfold de;simp[h]),if_pos h];exact pK _ _ _ _ (by rw[List.length_drop];omega) (Nat.le_refl _)
theorem i7 (p:Nat) (c:UInt8) (r:List UInt8) (h1:de c=false) (h2:c.toNat≠35) {e:Int} (h:cZ (c::r)= .bad e):bU p (c::r)=([],some (e,p)):=by
 unfold bU;simp only[List.length_cons];rw[nC,if_neg (by simp[h1]),if_neg h2,h]
theorem eS (p:Nat) (c:UInt8) (r:List UInt8) (h1:de c=false) (h2:c.toNat≠35) {s n:Int} {t:List UInt8} {k:Nat} (h:cZ (c::r)= .good s t n k):
  bU p (c::r)=(⟨s,t,n,p⟩::(bU (p+k) ((c::r).drop k)).1,(bU (p+k) ((c::r).drop k)).2):=by
 have hk:=gD h;simp only[List.length_cons] at hk;unfold bU;simp only[List.length_cons];rw[nC,if_neg (by simp[h1]),if_neg h2,h];simp only;rw[pK r.length ((c::r).drop k).length (p+k) _ (by rw[List.length_drop,List.length_cons];omega) (Nat.le_refl _)]
def LTok.spelt (t:LTok):List UInt8:=if t.sort=2 then Lib.itoa t.num else t.text
theorem gw {α:Type} (p:α->Bool):∀l:List α,(l.takeWhile p).all p=true:=by
 intro l;induction l with
 |nil=>rfl
 |cons c r ih=>
  rw[List.takeWhile_cons];split
  ·rename_i h;simp only[List.all_cons,h,ih,Bool.and_self]
  ·rfl
theorem wn {c:UInt8} {r:List UInt8} {n:Int} (hc:aq c=true∨(c.toNat=45∧aq (r.headD 0)=true)) (h:fU (c::r.takeWhile aq)=some n):Lib.itoa n=c::r.takeWhile aq:=by
 have ha:=gw aq r;rcases hc with hc|⟨hc,hd⟩
 ·rcases oK c (r.takeWhile aq) (by simp only[List.all_cons,hc,ha,Bool.and_self]) with⟨m,h1,_,h2⟩|⟨h1,_⟩
  ·rw[h1] at h;cases h;exact h2
  ·rw[h1] at h;cases h
 ·obtain rfl:c=45:=UInt8.toNat_inj.1 hc;have hn:r.takeWhile aq≠[]:=by
   obtain⟨r',e⟩:=ii r (fun e=>by rw[e] at hd;exact absurd hd (by decide));rw[e,List.takeWhile_cons];rw[if_pos hd];simp
  rcases oJ (r.takeWhile aq) hn ha with⟨m,h1,_,h2⟩|⟨h1,_⟩
  ·rw[h1] at h;cases h;exact h2
  ·rw[h1] at h;cases h
theorem uv {l:List UInt8} {s n:Int} {t:List UInt8} {k:Nat} (h:cZ l= .good s t n k):(LTok.mk s t n 0).spelt=l.take k:=by
 cases l with
 |nil=>cases h
 |cons c r=>
  rw[aY] at h;split at h
  ·split at h
   ·cases h
   ·cases h
    exact(bH cg (c::r)).symm
  ·split at h
   ·rename_i hc;split at h
    ·rename_i m hm;cases h
     show Lib.itoa n=_
     rw[wn hc hm,List.take_succ_cons,bH]
    ·cases h
   ·split at h
    ·rename_i hc;cases h
     obtain⟨r',e⟩:=ii r (fun e=>by rw[e] at hc;exact absurd hc.2 (by decide));have h45:c=45:=UInt8.toNat_inj.1 hc.1;have h62:r.headD 0=62:=UInt8.toNat_inj.1 hc.2;rw[e,h45,h62];rfl
    ·split at h
     ·cases h;rfl
     ·cases h
open Go.RowKit Go.Joins
theorem j0 {w:World} {B e size n:Nat} {v:Value} {xs:List Value} (h:w.ownsRow B e size v n xs) {k:Nat} (hk:v.ownBlock=some k):∃cur,w.heap[k]? =some (.cells cur e (0,0)):=by
 rcases h.2 with⟨h0,h1⟩|⟨g,cap,cur,rfl,hb,hg,rest⟩
 ·rw[h0] at hk;simp[Value.ownBlock] at hk
 ·simp[Value.ownBlock] at hk;subst hk;exact⟨cur,hg⟩
theorem lq {a:Option Addr} {n c k:Nat} (h:blk a k):(Value.slice a n c).ownBlock=some k:=by
 obtain⟨x,rfl,rfl⟩:=h;rfl
theorem lp {S:Nat->Prop} {w w':World} {B e size n:Nat} {v:Value} {xs:List Value} (h:w.ownsRow B e size v n xs) (k:Keeps S w w') (hS:∀g,S g->∃cur t fr,w.heap[g]? =some (.cells cur t fr)∧t≠e):w'.ownsRow B e size v n xs:=
 k.owns h (fun g hg hs=>by
  obtain⟨c1,h1⟩:=j0 h hg;obtain⟨c2,t,fr,h2,hne⟩:=hS g hs;rw[h1] at h2;cases h2;exact hne rfl)
def bm (t:LTok):List Value:=[.int .u8 t.sort,.string ⟨t.text.toArray⟩,I t.num,I t.at_]
theorem mn (t:LTok):(bm t).length=4:=rfl
theorem uK:(Tryz.prog.info? 98).map (fun i=>(i.zero,i.size,i.bytes))=some (some (.agg #[.int .u8 0,.string ⟨#[]⟩,.int .i64 0,.int .i64 0]),4,40):=by kernel_rfl
structure Rd (w0 w:World) (P:Nat) (s:ByteArray) (k:Nat) (ts:List LTok):Prop where
 nw:New w0 w
 hP:w0.heap.size<=P
 own:∃a c,w.heap[P]? =some (.cells #[.string s,I k,.slice a ts.length c] 156 (0,0))∧w.ownsRow w0.heap.size 98 4 (.slice a ts.length c) ts.length (ts.flatMap bm)
theorem Rd.new {w0 w w':World} {P:Nat} {s:ByteArray} {k:Nat} {ts:List LTok} (h:Rd w0 w P s k ts) (n:New w w'):Rd w0 w' P s k ts:=by
 obtain⟨nw,hP,a,c,hb,ho⟩:=h;exact⟨nw.trans n,hP,a,c,Keeps.heap n hb (fun h=>h),n.owns ho⟩
theorem Rd.cells {w0 w:World} {P:Nat} {s:ByteArray} {k:Nat} {ts:List LTok} (h:Rd w0 w P s k ts):
  w.cell? ⟨P,0,none⟩=some (.string s)∧w.cell? ⟨P,1,none⟩=some (I k)∧w.frozen? ⟨P,1,none⟩=false∧w.frozen? ⟨P,2,none⟩=false∧P<w.heap.size:=by
 obtain⟨nw,hP,a,c,hb,ho⟩:=h;refine⟨?_,?_,unfrozen_of_block hb 1,unfrozen_of_block hb 2,(Array.getElem?_eq_some_iff.1 hb).1⟩
 ·rw[cell_of_block hb 0];simp
 ·rw[cell_of_block hb 1];simp
theorem Rd.go {w0 w:World} {P:Nat} {s:ByteArray} {k:Nat} {ts:List LTok} (h:Rd w0 w P s k ts) (j:Nat):Rd w0 (w.setCell ⟨P,1,none⟩ (I j)) P s j ts:=by
 obtain⟨nw,hP,a,c,hb,ho⟩:=h;have ks:Keeps (fun k=>k=P) w (w.setCell ⟨P,1,none⟩ (I j)):=Keeps.setCell w _ _ rfl;refine⟨New.keeps nw ks (fun i hi hx=>by omega),hP,a,c,?_,lp ho ks (fun g hg=>⟨_,_,_,hg▸hb,by decide⟩)⟩;rw[block_setCell hb];simp
theorem Rd.add {w0 w w3:World} {P:Nat} {s:ByteArray} {k:Nat} {ts:List LTok} (t:LTok) (nw:New w0 w) (hP:w0.heap.size<=P) {a a':Option Addr} {c c':Nat}
  (hb:w.heap[P]? =some (.cells #[.string s,I k,.slice a ts.length c] 156 (0,0))) (ho0:w.ownsRow w0.heap.size 98 4 (.slice a ts.length c) ts.length (ts.flatMap bm))
  (ho:w3.ownsRow w0.heap.size 98 4 (.slice a' (ts.length+1) c') (ts.length+1) (ts.flatMap bm++bm t)) (hk:Keeps (blk a) w w3):
  (w3.frozen? ⟨P,2,none⟩=false∧P<w3.heap.size∧w3.cell? ⟨P,2,none⟩=some (.slice a ts.length c))∧Rd w0 (w3.setCell ⟨P,2,none⟩ (.slice a' (ts.length+1) c')) P s k (ts++[t]):=by
 have cw:∀g,blk a g->∃cur,w.heap[g]? =some (.cells cur 98 (0,0)):=fun g hg=>j0 ho0 (lq hg)
 have hP3:=hk.heap hb (fun hx=>by obtain⟨cur,hc⟩:=cw _ hx;rw[hb] at hc;simp at hc);have ks:Keeps (fun k=>k=P) w3 (w3.setCell ⟨P,2,none⟩ (.slice a' (ts.length+1) c')):=Keeps.setCell w3 _ _ rfl;have hnw:New w0 w3:=New.keeps nw hk (fun i hi hx=>by have:=(ai ho0 hx).1;omega);refine⟨⟨unfrozen_of_block hP3 2,(Array.getElem?_eq_some_iff.1 hP3).1,?_⟩,New.keeps hnw ks (fun i hi hx=>by omega),hP,a',c',?_,?_⟩
 ·rw[cell_of_block hP3 2];rfl
 ·rw[block_setCell hP3];simp
 ·have:=lp ho ks (fun g hg=>⟨_,_,_,hg▸hP3,by decide⟩);simpa using this
def af (s:ByteArray) (k:Nat):UInt8:=(s.data.toList.drop k).headD 0
theorem bQ (s:ByteArray) (k:Nat) (h:k<s.size):af s k=s[k]:=by
 have hk:k<s.data.toList.length:=by simpa using h
 unfold af;rw[List.drop_eq_getElem_cons hk];simp;rfl
theorem jp (s:ByteArray) (k:Nat) (h:¬k<s.size):af s k=0:=by
 have hk:s.data.toList.length<=k:=by have:s.data.toList.length=s.size:=by simp
                                     omega
 unfold af;rw[List.drop_eq_nil_of_le hk];rfl
theorem xP (s:ByteArray) (k:Nat) (h:k<s.size):s.data.toList.drop k=s[k]::s.data.toList.drop (k+1):=by
 have hk:k<s.data.toList.length:=by simpa using h
 rw[List.drop_eq_getElem_cons hk];simp;rfl
theorem eB (p:UInt8->Bool):∀(l:List UInt8) (j:Nat),(l.take j).all p=true->(∀b,l[j]? =some b->p b=false)->j<=l.length->(l.takeWhile p).length=j:=by
 intro l;induction l with
 |nil=>intro j _ _ hk;simp at hk;subst hk;rfl
 |cons b r ih=>
  intro j ha hb hk;rw[List.takeWhile_cons];cases j with
  |zero=>rw[if_neg (by rw[hb b rfl];simp)];rfl
  |succ j=>
   simp only[List.take_succ_cons,List.all_cons,Bool.and_eq_true] at ha;rw[if_pos ha.1,List.length_cons,ih j ha.2 (fun c hc=>hb c (by simpa using hc)) (by simpa using hk)]
set_option maxRecDepth 512 in
theorem xG (w:World) (b:UInt8):Calls Tryz.prog 128 #[.int .u8 (b.toNat:Int)] w fun e w'=>e= .returned (.bool (bV b))∧w'=w:=by
 have e:bV b= !((b.toNat:Int)==10):=by
  unfold bV;by_cases h:b.toNat=10
  ·rw[h];rfl
  ·rw[decide_eq_true h];have:((b.toNat:Int)==10)=false:=by simpa using fun h2:(b.toNat:Int)=10=>h (by omega)
   rw[this];rfl
 rw[e];obtain⟨x,hx⟩:∃x:Int,(b.toNat:Int)=x:=⟨_,rfl⟩
 rw[hx];clear e hx;go_enter Tryz.func128,Tryz.ntmps128;go_wp2_with fail;go_ret
 exact⟨rfl,rfl⟩
set_option maxRecDepth 512 in
theorem sT (w:World) (b:UInt8):Calls Tryz.prog 127 #[.int .u8 (b.toNat:Int)] w fun e w'=>e= .returned (.bool (de b))∧w'=w:=by
 have hx:∀k:Nat,((b.toNat:Int)==(k:Int))=decide (b.toNat=k):=by
  intro k;by_cases h:b.toNat=k
  ·rw[h];simp
  ·rw[decide_eq_false h];simpa using fun h2:(b.toNat:Int)=(k:Int)=>h (by omega)
 have e1:((b.toNat:Int)==32)=decide (b.toNat=32):=hx 32;have e2:((b.toNat:Int)==9)=decide (b.toNat=9):=hx 9;have e3:((b.toNat:Int)==13)=decide (b.toNat=13):=hx 13;have e4:((b.toNat:Int)==10)=decide (b.toNat=10):=hx 10;by_cases h1:b.toNat=32
 ·have e:de b=true:=by unfold de;simp[h1]
  rw[decide_eq_true h1] at e1;rw[e];clear e h1 hx e2 e3 e4;obtain⟨x,hx⟩:∃x:Int,(b.toNat:Int)=x:=⟨_,rfl⟩
  rw[hx] at e1 ⊢;clear hx;go_enter Tryz.func127,Tryz.ntmps127;go_wp2_with fail;go_ret
  exact⟨rfl,rfl⟩
 ·rw[decide_eq_false h1] at e1;by_cases h2:b.toNat=9
  ·have e:de b=true:=by unfold de;simp[h2]
   rw[decide_eq_true h2] at e2;rw[e];clear e h1 h2 hx e3 e4;obtain⟨x,hx⟩:∃x:Int,(b.toNat:Int)=x:=⟨_,rfl⟩
   rw[hx] at e1 e2 ⊢;clear hx;go_enter Tryz.func127,Tryz.ntmps127;go_wp2_with fail;go_ret
   exact⟨rfl,rfl⟩
  ·rw[decide_eq_false h2] at e2;by_cases h3:b.toNat=13
   ·have e:de b=true:=by unfold de;simp[h3]
    rw[decide_eq_true h3] at e3;rw[e];clear e h1 h2 h3 hx e4;obtain⟨x,hx⟩:∃x:Int,(b.toNat:Int)=x:=⟨_,rfl⟩
    rw[hx] at e1 e2 e3 ⊢;clear hx;go_enter Tryz.func127,Tryz.ntmps127;go_wp2_with fail;go_ret
    exact⟨rfl,rfl⟩
   ·rw[decide_eq_false h3] at e3;have e:de b=decide (b.toNat=10):=by unfold de;simp[h1,h2,h3]
    rw[e,<-e4];clear e h1 h2 h3 hx e4;obtain⟨x,hx⟩:∃x:Int,(b.toNat:Int)=x:=⟨_,rfl⟩
    rw[hx] at e1 e2 e3 ⊢;clear hx;go_enter Tryz.func127,Tryz.ntmps127;go_wp2_with fail;go_ret
    exact⟨rfl,rfl⟩
set_option maxRecDepth 512 in
theorem mL (w0 w:World) (P:Nat) (s:ByteArray) (k:Nat) (ts:List LTok) (h:Rd w0 w P s k ts) (hs:s.size<=9223372036854775807):
  Calls Tryz.prog 89 #[.pointer (some ⟨P,0,none⟩)] w fun e w'=>e= .returned (.bool (decide (k<s.size)))∧New w w':=by
 obtain⟨c0,c1,_,_,hB⟩:=h.cells;clear h;go_enter Tryz.func89,Tryz.ntmps89;go_wp2_with fail;go_quiet (fail)
 go_wp2_with fail;go_ret
 exact⟨rfl,by first|exact(New.refl w).drewN _|exact New.refl w⟩
set_option maxRecDepth 512 in
theorem bG (w0 w:World) (P:Nat) (s:ByteArray) (k:Nat) (ts:List LTok) (h:Rd w0 w P s k ts) (hk:k<=s.size) (hs:s.size<=9223372036854775806):
  Calls Tryz.prog 111 #[.pointer (some ⟨P,0,none⟩),I 0] w fun e w'=>e= .returned (.int .u8 ((af s k).toNat:Int))∧New w w':=by
 obtain⟨c0,c1,_,_,hB⟩:=h.cells;clear h;by_cases h0:k<s.size
 ·rw[bQ s _ h0];have hjI:(k:Int)<(s.size:Int):=by omega
  have d1:decide ((s.size:Int)<=(k:Int))=false:=decide_eq_false (by omega);go_enter Tryz.func111,Tryz.ntmps111;go_wp2_with fail;go_quiet (fail)
  go_wp2_with fail;go_quiet (fail)
  go_wp2_with fail;go_ret
  exact⟨rfl,by first|exact((New.refl w).drewN _).drewN _|exact(New.refl w).drewN _⟩
 ·rw[jp s _ h0];have d1:decide ((s.size:Int)<=(k:Int))=true:=decide_eq_true (by omega);go_enter Tryz.func111,Tryz.ntmps111;go_wp2_with fail;go_quiet (fail)
  go_wp2_with fail;go_ret
  exact⟨rfl,by first|exact(New.refl w).drewN _|exact New.refl w⟩
set_option maxRecDepth 512 in
theorem lC (w0 w:World) (P:Nat) (s:ByteArray) (k:Nat) (ts:List LTok) (h:Rd w0 w P s k ts) (hk:k<=s.size) (hs:s.size<=9223372036854775806):
  Calls Tryz.prog 111 #[.pointer (some ⟨P,0,none⟩),I 1] w fun e w'=>e= .returned (.int .u8 ((af s (k+1)).toNat:Int))∧New w w':=by
 obtain⟨c0,c1,_,_,hB⟩:=h.cells;clear h;by_cases h0:k+1<s.size
 ·obtain⟨j,hj⟩:∃j:Nat,k+1=j:=⟨_,rfl⟩
  have hwr:IntKind.i64.wrap ((k:Int)+1)=(j:Int):=by rw[IntWalk.i64_in _ (by omega)];omega
  have hj2:j<=9223372036854775807:=by omega
  rw[hj] at h0 ⊢;rw[bQ s j h0];have hjI:(j:Int)<(s.size:Int):=by omega
  have d1:decide ((s.size:Int)<=(j:Int))=false:=decide_eq_false (by omega);clear hk hj;go_enter Tryz.func111,Tryz.ntmps111;go_wp2_with fail;go_quiet (fail)
  go_wp2_with fail;go_quiet (fail)
  go_wp2_with fail;go_ret
  exact⟨rfl,by first|exact((New.refl w).drewN _).drewN _|exact(New.refl w).drewN _⟩
 ·rw[jp s _ h0];have d1:decide ((s.size:Int)<=(k:Int)+1)=true:=decide_eq_true (by omega);go_enter Tryz.func111,Tryz.ntmps111;go_wp2_with fail;go_quiet (fail)
  go_wp2_with fail;go_ret
  exact⟨rfl,by first|exact(New.refl w).drewN _|exact New.refl w⟩
theorem mM (F:Nat) (q:UInt8->Bool) (hq:(F=113∧q=cg)∨(F=129∧q=aq)∨(F=128∧q=bV)) (w0 w:World) (P:Nat) (s:ByteArray) (k0:Nat) (ts:List LTok) (h:Rd w0 w P s k0 ts) (hk0:k0<=s.size) (hs:s.size<=9223372036854775806):
  Calls Tryz.prog 112 #[.pointer (some ⟨P,0,none⟩),.func (Fn.func F) #[] #[]] w fun e w'=>e= .returned (.string (s.extract k0 (k0+((s.data.toList.drop k0).takeWhile q).length)))∧Rd w0 w' P s (k0+((s.data.toList.drop k0).takeWhile q).length) ts:=by
 have hI:∀W (b:UInt8),Calls Tryz.prog F #[.int .u8 (b.toNat:Int)] W fun e w'=>e= .returned (.bool (q b))∧w'=W:=by
  rcases hq with⟨rfl,rfl⟩|⟨rfl,rfl⟩|⟨rfl,rfl⟩
  ·exact fun W b=>rq W _
  ·exact fun W b=>db W _
  ·exact fun W b=>xG W b
 rcases hq with⟨rfl,-⟩|⟨rfl,-⟩|⟨rfl,-⟩
 all_goals
  obtain⟨L,hL⟩:∃L,s.data.toList.drop k0=L:=⟨_,rfl⟩
  have aU:L.length=s.size-k0:=by rw[<-hL,List.length_drop];simp
  have hat:∀k (hk:k<s.size),k0<=k->L[k-k0]? =some s[k]:=fun k hk h0=>by
   rw[<-hL,List.getElem?_drop,show k0+(k-k0)=k by omega,Array.getElem?_toList];exact Array.getElem?_eq_getElem hk
  rw[hL];have HL:=Lib.hid aU;have HAT:=Lib.hid hat;clear hL aU hat;obtain⟨c0,c1,z1,_,hB⟩:=h.cells;go_enter Tryz.func112,Tryz.ntmps112;go_wp2_with fail;clear c0 c1 z1;go_loopw [] (fun wr=>∃k:Nat,k0<=k∧k<=s.size∧Hid ((L.take (k-k0)).all q=true)∧Rd w0 wr P s k ts) (fun wr=>s.size-fB wr P)
  case atStart=>exact⟨k0,Nat.le_refl _,hk0,Lib.hid (by rw[Nat.sub_self];rfl),h⟩
  case round=>
   clear h;obtain⟨k,hk1,hk,HA,hR⟩:=hrel;obtain⟨c0,c1,z1,_,hBr⟩:=hR.cells;have HY:Hid (fB wr P=k):=Lib.hid (by unfold fB;rw[c1];simp);have hm:=fun W (n:New wr W)=>mL w0 W P s k ts (hR.new n) (by omega)
   by_cases hk2:k<s.size
   ·rw[decide_eq_true hk2] at hm;have hi:=fun W=>hI W s[k]
    have fC:s[k].toNat<256:=s[k].toNat_lt;have hat:=HAT.out k hk2 hk1;have hkI:(k:Int)<(s.size:Int):=by omega
    cases e2:q s[k] with
    |true=>
     rw[e2] at hi;have HA2:Hid ((L.take (k+1-k0)).all q=true):=Lib.hid (by
      rw[show k+1-k0=(k-k0)+1 by omega,List.take_succ,hat,List.all_append,HA.out];simp[e2])
     clear e2 hat;go_wp2_with fail;go_region_held3 (fun w'=>w'.cell? ⟨P,0,none⟩=some (.string s)∧w'.cell? ⟨P,1,none⟩=some (I (k:Int))∧New wr w')
      ((refine⟨New.cell (w:=wr) ?_ c0,New.cell (w:=wr) ?_ c1,?_⟩<;>(repeat(first|exact New.refl wr|refine New.drew ?_|exact hN2|refine New.trans ?_ hN2))))
      ((first|(go_at_call 89;refine(hm _ ((New.refl wr).drew)).mono ?_;rintro e w2 ⟨rfl,hN2⟩)|((first|go_at_call 113|go_at_call 129|go_at_call 128);refine(hi _).mono ?_;rintro e w3 ⟨rfl,rfl⟩)))
     rename_i hSX;obtain⟨e0,e1,hNX⟩:=hSX;have hR3:=hR.new hNX;obtain⟨_,_,y1,_,hB3⟩:=hR3.cells;have HR4:=Lib.hid (hR3.go (k+1));have hwr:IntKind.i64.wrap ((k:Int)+1)=((k+1:Nat):Int):=by rw[IntWalk.i64_in _ (by omega)];omega
     clear hR hR3 c0 c1 z1;simp only[Exit.then];go_wp2_with fail;go_roundw
     case rel=>exact⟨k+1,by omega,by omega,HA2,HR4.out⟩
     case measure=>
      have hx:fB (w3.setCell ⟨P,1,none⟩ (I ((k+1:Nat):Int))) P=k+1:=by
       obtain⟨_,d1,_⟩:=HR4.out.cells;unfold fB;rw[d1];simp
      first
      |(rw[hx,HY.out];omega)
      |(rw[Int.natCast_add] at hx;simp at hx ⊢;rw[hx,HY.out];omega)
    |false=>
     rw[e2] at hi;have HSP:Hid ((L.takeWhile q).length=k-k0):=Lib.hid (eB _ _ _ HA.out (fun b hb=>by rw[hat] at hb;cases hb;exact e2) (by rw[HL.out];omega));clear e2 hat;go_wp2_with fail;go_region_held3 (fun w'=>w'.cell? ⟨P,0,none⟩=some (.string s)∧w'.cell? ⟨P,1,none⟩=some (I (k:Int))∧New wr w')
      ((refine⟨New.cell (w:=wr) ?_ c0,New.cell (w:=wr) ?_ c1,?_⟩<;>(repeat(first|exact New.refl wr|refine New.drew ?_|exact hN2|refine New.trans ?_ hN2))))
      ((first|(go_at_call 89;refine(hm _ ((New.refl wr).drew)).mono ?_;rintro e w2 ⟨rfl,hN2⟩)|((first|go_at_call 113|go_at_call 129|go_at_call 128);refine(hi _).mono ?_;rintro e w3 ⟨rfl,rfl⟩)))
     rename_i hSX;obtain⟨e0,e1,hNX⟩:=hSX;have HRX:=Lib.hid (hR.new hNX);clear c0 c1 hR;have DC:(k0:Int)<=(k:Int):=by omega
     simp only[Exit.then];go_wp2_with fail;go_quiet (fail)
     go_wp2_with fail;go_ret
     rw[HSP.out,show k0+(k-k0)=k by omega];exact⟨by rfl,by first|exact HRX.out.new (Keeps.drewN _ _)|exact HRX.out⟩
   ·rw[decide_eq_false hk2] at hm;have HSP:Hid ((L.takeWhile q).length=k-k0):=Lib.hid (eB _ _ _ HA.out (fun b hb=>by rw[List.getElem?_eq_none (by rw[HL.out];omega)] at hb;cases hb) (by rw[HL.out];omega));have DC:(k0:Int)<=(k:Int):=by omega
    go_wp2_with fail;have hS0:(fun w':World=>w'.cell? ⟨P,0,none⟩=some (.string s)∧w'.cell? ⟨P,1,none⟩=some (I (k:Int))) wr.drew:=⟨New.cell ((New.refl wr).drew) c0,New.cell ((New.refl wr).drew) c1⟩
    refine aj (fun w':World=>w'.cell? ⟨P,0,none⟩=some (.string s)∧w'.cell? ⟨P,1,none⟩=some (I (k:Int))) [] (by kernel_rfl) hS0 ?_;refine ae 0 hS0 ?_;refine nV 1 (by kernel_rfl) ?_;intro oi ho;cases ho;intro K hK
    (try simp only[Act.put,List.getElem_toArray,List.getElem_cons_succ,List.getElem_cons_zero,sLs])
    go_simp;refine(hm _ ((New.refl wr).drew)).mono ?_;rintro e w2 ⟨rfl,k2⟩;have hS1:(fun w':World=>w'.cell? ⟨P,0,none⟩=some (.string s)∧w'.cell? ⟨P,1,none⟩=some (I (k:Int))) w2:=⟨New.cell k2 hS0.1,New.cell k2 hS0.2⟩
    refine hK _ _ (fun _=>hS1) ?_;clear hK K;refine ae 2 hS1 ?_;refine cA 3 hS1 ?_;refine cA 4 hS1 ?_;refine cA 5 hS1 ?_;refine cA 6 hS1 ?_;refine cA 7 hS1 ?_;refine cA 8 hS1 ?_;refine cA 9 hS1 ?_;refine cA 10 hS1 ?_;refine cA 11 hS1 ?_;refine cA 12 hS1 ?_;refine cA 13 hS1 ?_;refine ae 14 hS1 ?_;refine av (by kernel_rfl) ?_;(try simp only[Act.put,List.getElem_toArray,List.getElem_cons_succ,List.getElem_cons_zero,sLs])
    have e0:=hS1.1;have e1:=hS1.2;have HRX:=Lib.hid (hR.new (((New.refl wr).drew).trans k2));clear hS0 hS1 c0 c1 hR k2 hm;simp only[Exit.then];go_wp2_with fail;go_quiet (fail)
    go_wp2_with fail;go_ret
    rw[HSP.out,show k0+(k-k0)=k by omega];exact⟨by rfl,by first|exact HRX.out.new (Keeps.drewN _ _)|exact HRX.out⟩
theorem o6 (w0 w:World) (P:Nat) (s:ByteArray) (k0:Nat) (ts:List LTok) (h:Rd w0 w P s k0 ts) (hk0:k0<=s.size) (hs:s.size<=9223372036854775806):
  Calls Tryz.prog 112 #[.pointer (some ⟨P,0,none⟩),.func (Fn.func 113) #[] #[]] w fun e w'=>e= .returned (.string (s.extract k0 (k0+((s.data.toList.drop k0).takeWhile cg).length)))∧Rd w0 w' P s (k0+((s.data.toList.drop k0).takeWhile cg).length) ts:=
 mM _ _ (.inl ⟨rfl,rfl⟩) w0 w P s k0 ts h hk0 hs
theorem gn (w0 w:World) (P:Nat) (s:ByteArray) (k0:Nat) (ts:List LTok) (h:Rd w0 w P s k0 ts) (hk0:k0<=s.size) (hs:s.size<=9223372036854775806):
  Calls Tryz.prog 112 #[.pointer (some ⟨P,0,none⟩),.func (Fn.func 129) #[] #[]] w fun e w'=>e= .returned (.string (s.extract k0 (k0+((s.data.toList.drop k0).takeWhile aq).length)))∧Rd w0 w' P s (k0+((s.data.toList.drop k0).takeWhile aq).length) ts:=
 mM _ _ (.inr (.inl ⟨rfl,rfl⟩)) w0 w P s k0 ts h hk0 hs
theorem ug (w0 w:World) (P:Nat) (s:ByteArray) (k0:Nat) (ts:List LTok) (h:Rd w0 w P s k0 ts) (hk0:k0<=s.size) (hs:s.size<=9223372036854775806):
  Calls Tryz.prog 112 #[.pointer (some ⟨P,0,none⟩),.func (Fn.func 128) #[] #[]] w fun e w'=>e= .returned (.string (s.extract k0 (k0+((s.data.toList.drop k0).takeWhile bV).length)))∧Rd w0 w' P s (k0+((s.data.toList.drop k0).takeWhile bV).length) ts:=
 mM _ _ (.inr (.inr ⟨rfl,rfl⟩)) w0 w P s k0 ts h hk0 hs
theorem fq (w0 w:World) (P:Nat) (s:ByteArray) (k:Nat) (ts:List LTok) (h:Rd w0 w P s k ts) (so:Int) (tx:List UInt8) (nu:Int) (at_:Nat) (hn:ts.length<=2000000):
  Calls Tryz.prog 91 #[.pointer (some ⟨P,0,none⟩),.int .u8 so,.string ⟨tx.toArray⟩,I nu,I at_] w fun e w'=>e= .returned (I 0)∧Rd w0 w' P s k (ts++[⟨so,tx,nu,at_⟩]):=by
 obtain⟨i0,hi,hz0,hz1,hz2⟩:=info_parts uK;obtain⟨nw,hP,a,c,hb,ho⟩:=h;obtain⟨T,hT⟩:∃T:ByteArray,(⟨tx.toArray⟩:ByteArray)=T:=⟨_,rfl⟩
 have c2:w.cell? ⟨P,2,none⟩=some (.slice a ts.length c):=by rw[cell_of_block hb 2];rfl
 have hPl:P<w.heap.size:=(Array.getElem?_eq_some_iff.1 hb).1;rw[hT];have HB:=Lib.hid hb;have HO:=Lib.hid ho;have HT:=Lib.hid hT;have hsz:w0.heap.size<=w.heap.size:=nw.size;clear hb ho hT;go_enter Tryz.func91,Tryz.ntmps91;have ka:New w (w.alloc (.cells #[.int .u8 so,.string T,I nu,I at_] 98)):=(New.refl w).alloc _;go_wp2_with (at_builtin;refine aR rfl _ _ 88 rfl w0.heap.size 98 i0 _ 4 40 Tryz.underlying88 hi hz0 hz1 hz2 rfl (by decide) a ts.length c (ts.flatMap bm) rfl (ka.owns HO.out) _ 1 1 [.int .u8 so,.string T,I nu,I at_] rfl rfl (ar.lit _ _ _) (by intro u hu;simp only[List.mem_cons,List.not_mem_nil,or_false] at hu;rcases hu with rfl|rfl|rfl|rfl<;>rfl) (by unfold maxLen;omega) (by omega) (Nat.le_trans hsz ka.size) ?_);intro a' c' w' aK hk hm _;have az:w'.ownsRow w0.heap.size 98 4 (.slice a' (ts.length+1) c') (ts.length+1) (ts.flatMap bm++bm ⟨so,tx,nu,at_⟩):=by
  unfold bm;rw[HT.out];exact aK
 obtain⟨⟨hfz,El,hc3⟩,hR⟩:=Rd.add (k:=k) ⟨so,tx,nu,at_⟩ (nw.trans ka) hP (Keeps.heap ka HB.out (fun h=>h)) (ka.owns HO.out) az hk;have HR:=Lib.hid hR;clear hR aK az hk hm c2 hPl ka;go_wp2_with fail;go_ret
 exact⟨rfl,HR.out⟩
theorem cF (s:ByteArray) (k:Nat) (h:k<s.size):s.data.toList.drop k=af s k::s.data.toList.drop (k+1):=by rw[bQ s k h];exact xP s k h
theorem rB (s:ByteArray):s.data.toList.drop s.size=[]:=List.drop_eq_nil_of_le (by simp)
theorem pw (w0 w:World) (P:Nat) (s:ByteArray) (k0:Nat) (ts:List LTok) (h:Rd w0 w P s k0 ts) (hk0:k0<=s.size) (hs:s.size<=9223372036854775806):
  Calls Tryz.prog 88 #[.pointer (some ⟨P,0,none⟩)] w fun e w'=>e= .returned (.tuple #[])∧∃k,k0<=k∧k<=s.size∧Hid (bU k0 (s.data.toList.drop k0)=bU k (s.data.toList.drop k))∧
   Hid (k<s.size->de (af s k)=false∧(af s k).toNat≠35)∧Rd w0 w' P s k ts:=by
 obtain⟨_,_,_,_,hB⟩:=h.cells;go_enter Tryz.func88,Tryz.ntmps88;go_wp2_with fail;go_loopw [] (fun wr=>∃k:Nat,k0<=k∧k<=s.size∧Hid (bU k0 (s.data.toList.drop k0)=bU k (s.data.toList.drop k))∧Rd w0 wr P s k ts) (fun wr=>s.size-fB wr P)
 case atStart=>exact⟨k0,Nat.le_refl _,hk0,Lib.hid rfl,h⟩
 case round=>
  clear h;obtain⟨k,hk1,hk,HL,hR⟩:=hrel;obtain⟨_,c1,_,_,hBr⟩:=hR.cells;have HY:Hid (fB wr P=k):=Lib.hid (by unfold fB;rw[c1];simp);have hm:=mL w0 wr P s k ts hR (by omega);clear c1;by_cases hk2:k<s.size
  ·rw[decide_eq_true hk2] at hm;have hp:=fun W (n:New wr W)=>bG w0 W P s k ts (hR.new n) hk hs
   have hdr:=cF s k hk2;obtain⟨b,hbb⟩:∃b,af s k=b:=⟨_,rfl⟩
   rw[hbb] at hp hdr;have hbl:=fun W=>sT W b
   have fC:b.toNat<256:=b.toNat_lt;have HD:=Lib.hid hdr;have HBB:=Lib.hid hbb;clear hdr hbb;cases e1:de b with
   |true=>
    rw[e1] at hbl;have HL2:Hid (bU k0 (s.data.toList.drop k0)=bU (k+1) (s.data.toList.drop (k+1))):=Lib.hid (by rw[HL.out,HD.out,cC _ _ _ e1]);clear e1;go_wp2_with fail;refine hm.mono ?_;rintro e w2 ⟨rfl,n2⟩;go_wp2_with fail;refine(hp _ n2).mono ?_;rintro e w3 ⟨rfl,n3⟩;go_wp2_with fail;refine(hbl _).mono ?_;rintro e w4 ⟨rfl,rfl⟩;have hR3:=hR.new (n2.trans n3);obtain⟨_,y0,y1,_,hB3⟩:=hR3.cells;have HR4:=Lib.hid (hR3.go (k+1));clear hR hR3 hm hp n2 n3;go_wp2_with fail;go_roundw
    case rel=>exact⟨k+1,by omega,by omega,HL2,HR4.out⟩
    case measure=>
     have hx:fB (w4.setCell ⟨P,1,none⟩ (I ((k+1:Nat):Int))) P=k+1:=by
      obtain⟨_,d1,_⟩:=HR4.out.cells;unfold fB;rw[d1];simp
     first
     |(rw[hx,HY.out];omega)
     |(rw[Int.natCast_add] at hx;simp at hx ⊢;rw[hx,HY.out];omega)
   |false=>
    rw[e1] at hbl;by_cases h35:b.toNat=35
    ·obtain⟨n,hn⟩:∃n,((s.data.toList.drop k).takeWhile bV).length=n:=⟨_,rfl⟩
     have hne:bV b=true:=by unfold bV;rw[decide_eq_true_iff];omega
     have hm1:n=((s.data.toList.drop (k+1)).takeWhile bV).length+1:=by rw[<-hn,HD.out,List.takeWhile_cons,if_pos hne];rfl
     have hle:k+n<=s.size:=by
      have:=bX bV (s.data.toList.drop k);rw[hn,List.length_drop] at this;have e:s.data.toList.length=s.size:=by simp
      omega
     have HL2:Hid (bU k0 (s.data.toList.drop k0)=bU (k+n) (s.data.toList.drop (k+n))):=Lib.hid (by
      rw[HL.out,HD.out,gj _ _ _ h35,List.drop_drop,show k+1+((s.data.toList.drop (k+1)).takeWhile bV).length=k+n by omega])
     have hw:=fun W (n:New wr W)=>ug w0 W P s k ts (hR.new n) hk hs
     rw[hn] at hw;have gd:1<=n:=by omega
     have e35:((b.toNat:Int)==35)=true:=by rw[h35];rfl
     obtain⟨x,hx⟩:∃x:Int,(b.toNat:Int)=x:=⟨_,rfl⟩
     rw[hx] at e35 hbl hp;clear e1 hm1 hn hne h35 fC hx;go_wp2_with fail;refine hm.mono ?_;rintro e w2 ⟨rfl,n2⟩;go_wp2_with fail;refine(hp _ n2).mono ?_;rintro e w3 ⟨rfl,n3⟩;go_wp2_with fail;refine(hbl _).mono ?_;rintro e w4 ⟨rfl,rfl⟩;go_wp2_with fail;refine(hw _ (n2.trans n3)).mono ?_;rintro e w5 ⟨rfl,hR5⟩;clear hR hm hp n2 n3 hw;go_wp2_with fail;go_roundw
     case rel=>exact⟨k+n,by omega,hle,HL2,hR5⟩
     case measure=>
      obtain⟨_,d1,_⟩:=hR5.cells;have hx:fB w5 P=k+n:=by unfold fB;rw[d1];exact Int.toNat_natCast _
      rw[hx,HY.out];omega
    ·have e35:((b.toNat:Int)==35)=false:=by simpa using fun h:(b.toNat:Int)=35=>h35 (by omega)
     have HF:Hid (k<s.size->de (af s k)=false∧(af s k).toNat≠35):=Lib.hid (fun _=>by rw[HBB.out];exact⟨e1,h35⟩);obtain⟨x,hx⟩:∃x:Int,(b.toNat:Int)=x:=⟨_,rfl⟩
     rw[hx] at e35 hbl hp;clear e1 h35 fC hx;go_wp2_with fail;refine hm.mono ?_;rintro e w2 ⟨rfl,n2⟩;go_wp2_with fail;refine(hp _ n2).mono ?_;rintro e w3 ⟨rfl,n3⟩;go_wp2_with fail;refine(hbl _).mono ?_;rintro e w4 ⟨rfl,rfl⟩;have HR3:=Lib.hid (hR.new (n2.trans n3));clear hR hm hp n2 n3;go_wp2_with fail;refine bodyPost_ret (results_none (by kernel_rfl) _ _ _) rfl ?_;exact⟨rfl,k,hk1,hk,HL,HF,HR3.out⟩
  ·rw[decide_eq_false hk2] at hm;go_wp2_with fail;refine hm.mono ?_;rintro e w2 ⟨rfl,n2⟩;have HR3:=Lib.hid (hR.new n2);clear hR hm n2;go_wp2_with fail;go_end0
   exact⟨rfl,k,hk1,hk,HL,Lib.hid (fun h=>absurd h hk2),HR3.out⟩
end Go.Proofs.YtnedmonlofbahaaGreatDoor
namespace Go.Proofs
open Go.Shelf
def Tryz.laysM171_ren:Go.Shelf.Ren:=⟨fun|171=>117|243=>141|246=>154|283=>164|284=>165|285=>166|286=>167|129=>174|317=>173|318=>175|319=>176|320=>177|337=>182|338=>183|n=>n,fun|3=>3|9=>9|2=>2|4=>4|171=>233|0=>0|53=>234|37=>138|5=>5|173=>237|212=>248|51=>249|20=>20|213=>250|46=>242|232=>262|233=>263|n=>n,fun|17=>1|18=>4|19=>5|n=>n⟩
theorem Tryz.laysM171:Go.Proofs.LaysM.n171 Tryz.prog Tryz.laysM171_ren:= {
 mixed:=by kernel_rfl
 f129:=Tryz.func174.trans (congrArg some (by kernel_rfl))
 f171:=Tryz.func117.trans (congrArg some (by kernel_rfl))
 f243:=Tryz.func141.trans (congrArg some (by kernel_rfl))
 f246:=Tryz.func154.trans (congrArg some (by kernel_rfl))
 f283:=Tryz.func164.trans (congrArg some (by kernel_rfl))
 f284:=Tryz.func165.trans (congrArg some (by kernel_rfl))
 f285:=Tryz.func166.trans (congrArg some (by kernel_rfl))
 f286:=Tryz.func167.trans (congrArg some (by kernel_rfl))
 f317:=Tryz.func173.trans (congrArg some (by kernel_rfl))
 f318:=Tryz.func175.trans (congrArg some (by kernel_rfl))
 f319:=Tryz.func176.trans (congrArg some (by kernel_rfl))
 f320:=Tryz.func177.trans (congrArg some (by kernel_rfl))
 f337:=Tryz.func182.trans (congrArg some (by kernel_rfl))
 f338:=Tryz.func183.trans (congrArg some (by kernel_rfl))
 t0:=Tryz.underlying0
 a0:=Tryz.isAgg0
 z0:=Tryz.sizeOf0
 v0:=Tryz.zeroValue0
 t2:=Tryz.underlying2
 a2:=Tryz.isAgg2
 z2:=Tryz.sizeOf2
 v2:=Tryz.zeroValue2
 t3:=Tryz.underlying3
 a3:=Tryz.isAgg3
 z3:=Tryz.sizeOf3
 v3:=Tryz.zeroValue3
 t4:=Tryz.underlying4
 a4:=Tryz.isAgg4
 z4:=Tryz.sizeOf4
 v4:=Tryz.zeroValue4
 t5:=Tryz.underlying5
 a5:=Tryz.isAgg5
 z5:=Tryz.sizeOf5
 v5:=Tryz.zeroValue5
 t9:=Tryz.underlying9
 a9:=Tryz.isAgg9
 z9:=Tryz.sizeOf9
 v9:=Tryz.zeroValue9
 t20:=Tryz.underlying20
 a20:=Tryz.isAgg20
 z20:=Tryz.sizeOf20
 v20:=Tryz.zeroValue20
 t37:=Tryz.underlying138
 a37:=Tryz.isAgg138
 z37:=Tryz.sizeOf138
 v37:=Tryz.zeroValue138
 t46:=Tryz.underlying242
 a46:=Tryz.isAgg242
 z46:=Tryz.sizeOf242
 v46:=Tryz.zeroValue242
 t51:=Tryz.underlying249
 a51:=Tryz.isAgg249
 z51:=Tryz.sizeOf249
 v51:=Tryz.zeroValue249
 t53:=Tryz.underlying234
 a53:=Tryz.isAgg234
 z53:=Tryz.sizeOf234
 v53:=Tryz.zeroValue234
 t171:=Tryz.underlying233
 a171:=Tryz.isAgg233
 z171:=Tryz.sizeOf233
 v171:=Tryz.zeroValue233
 t173:=Tryz.underlying237
 a173:=Tryz.isAgg237
 z173:=Tryz.sizeOf237
 v173:=Tryz.zeroValue237
 t212:=Tryz.underlying248
 a212:=Tryz.isAgg248
 z212:=Tryz.sizeOf248
 v212:=Tryz.zeroValue248
 t213:=Tryz.underlying250
 a213:=Tryz.isAgg250
 z213:=Tryz.sizeOf250
 t232:=Tryz.underlying262
 a232:=Tryz.isAgg262
 z232:=Tryz.sizeOf262
 v232:=Tryz.zeroValue262
 t233:=Tryz.underlying263
 a233:=Tryz.isAgg263
 z233:=Tryz.sizeOf263
 v233:=Tryz.zeroValue263
 g17:=by kernel_rfl
 g18:=by kernel_rfl
 g19:=by kernel_rfl
 i0:=by kernel_rfl
 i2:=by kernel_rfl
 i3:=by kernel_rfl
 i4:=by kernel_rfl
 i5:=by kernel_rfl
 i9:=by kernel_rfl
 i20:=by kernel_rfl
 i37:=by kernel_rfl
 i46:=by kernel_rfl
 i51:=by kernel_rfl
 i53:=by kernel_rfl
 i171:=by kernel_rfl
 i173:=by kernel_rfl
 i212:=by kernel_rfl
 i232:=by kernel_rfl
 i233:=by kernel_rfl
 m17:=by kernel_rfl
 m18:=by kernel_rfl
 m19:=by kernel_rfl }
open Go.RowKit Go.Sort Go.Lib in
theorem Tryz.strconv_Itoa (n:Int) (h0: -9223372036854775808<=n) (h1:n<=9223372036854775807) (w:World) (By:Lib.TabIs Tryz.prog w "internal/strconv.uint64pow10" .u64 Lib.pow10Tab):
  Calls Tryz.prog 117 #[.int .i64 n] w fun e w'=>e= .returned (.string ⟨(Lib.itoa n).toArray⟩)∧∃k os,w'=grow (w.drewN k) os:=Any.strconv_Itoa Tryz.laysM171 n h0 h1 w By
def Tryz.laysM173_ren:Go.Shelf.Ren:=⟨fun|173=>146|246=>154|283=>164|284=>165|285=>166|286=>167|129=>174|317=>173|318=>175|319=>176|320=>177|337=>182|338=>183|n=>n,fun|2=>2|3=>3|9=>9|4=>4|171=>233|0=>0|53=>234|37=>138|5=>5|173=>237|212=>248|51=>249|20=>20|213=>250|46=>242|232=>262|233=>263|n=>n,fun|17=>1|18=>4|19=>5|n=>n⟩
theorem Tryz.laysM173:Go.Proofs.LaysM.n173 Tryz.prog Tryz.laysM173_ren:= {
 mixed:=by kernel_rfl
 f129:=Tryz.func174.trans (congrArg some (by kernel_rfl))
 f173:=Tryz.func146.trans (congrArg some (by kernel_rfl))
 f246:=Tryz.func154.trans (congrArg some (by kernel_rfl))
 f283:=Tryz.func164.trans (congrArg some (by kernel_rfl))
 f284:=Tryz.func165.trans (congrArg some (by kernel_rfl))
 f285:=Tryz.func166.trans (congrArg some (by kernel_rfl))
 f286:=Tryz.func167.trans (congrArg some (by kernel_rfl))
 f317:=Tryz.func173.trans (congrArg some (by kernel_rfl))
 f318:=Tryz.func175.trans (congrArg some (by kernel_rfl))
 f319:=Tryz.func176.trans (congrArg some (by kernel_rfl))
 f320:=Tryz.func177.trans (congrArg some (by kernel_rfl))
 f337:=Tryz.func182.trans (congrArg some (by kernel_rfl))
 f338:=Tryz.func183.trans (congrArg some (by kernel_rfl))
 t0:=Tryz.underlying0
 a0:=Tryz.isAgg0
 z0:=Tryz.sizeOf0
 v0:=Tryz.zeroValue0
 t2:=Tryz.underlying2
 a2:=Tryz.isAgg2
 z2:=Tryz.sizeOf2
 v2:=Tryz.zeroValue2
 t3:=Tryz.underlying3
 a3:=Tryz.isAgg3
 z3:=Tryz.sizeOf3
 v3:=Tryz.zeroValue3
 t4:=Tryz.underlying4
 a4:=Tryz.isAgg4
 z4:=Tryz.sizeOf4
 v4:=Tryz.zeroValue4
 t5:=Tryz.underlying5
 a5:=Tryz.isAgg5
 z5:=Tryz.sizeOf5
 v5:=Tryz.zeroValue5
 t9:=Tryz.underlying9
 a9:=Tryz.isAgg9
 z9:=Tryz.sizeOf9
 v9:=Tryz.zeroValue9
 t20:=Tryz.underlying20
 a20:=Tryz.isAgg20
 z20:=Tryz.sizeOf20
 v20:=Tryz.zeroValue20
 t37:=Tryz.underlying138
 a37:=Tryz.isAgg138
 z37:=Tryz.sizeOf138
 v37:=Tryz.zeroValue138
 t46:=Tryz.underlying242
 a46:=Tryz.isAgg242
 z46:=Tryz.sizeOf242
 v46:=Tryz.zeroValue242
 t51:=Tryz.underlying249
 a51:=Tryz.isAgg249
 z51:=Tryz.sizeOf249
 v51:=Tryz.zeroValue249
 t53:=Tryz.underlying234
 a53:=Tryz.isAgg234
 z53:=Tryz.sizeOf234
 v53:=Tryz.zeroValue234
 t171:=Tryz.underlying233
 a171:=Tryz.isAgg233
 z171:=Tryz.sizeOf233
 v171:=Tryz.zeroValue233
 t173:=Tryz.underlying237
 a173:=Tryz.isAgg237
 z173:=Tryz.sizeOf237
 v173:=Tryz.zeroValue237
 t212:=Tryz.underlying248
 a212:=Tryz.isAgg248
 z212:=Tryz.sizeOf248
 v212:=Tryz.zeroValue248
 t213:=Tryz.underlying250
 a213:=Tryz.isAgg250
 z213:=Tryz.sizeOf250
 t232:=Tryz.underlying262
 a232:=Tryz.isAgg262
 z232:=Tryz.sizeOf262
 v232:=Tryz.zeroValue262
 t233:=Tryz.underlying263
 a233:=Tryz.isAgg263
 z233:=Tryz.sizeOf263
 v233:=Tryz.zeroValue263
 g17:=by kernel_rfl
 g18:=by kernel_rfl
 g19:=by kernel_rfl
 i0:=by kernel_rfl
 i2:=by kernel_rfl
 i3:=by kernel_rfl
 i4:=by kernel_rfl
 i5:=by kernel_rfl
 i9:=by kernel_rfl
 i20:=by kernel_rfl
 i37:=by kernel_rfl
 i46:=by kernel_rfl
 i51:=by kernel_rfl
 i53:=by kernel_rfl
 i171:=by kernel_rfl
 i173:=by kernel_rfl
 i212:=by kernel_rfl
 i232:=by kernel_rfl
 i233:=by kernel_rfl
 m17:=by kernel_rfl
 m18:=by kernel_rfl
 m19:=by kernel_rfl }
open Go.RowKit Go.Sort Go.Lib in
theorem Tryz.strconv_FormatInt_10 (n:Int) (h0: -9223372036854775808<=n) (h1:n<=9223372036854775807) (w:World) (By:Lib.TabIs Tryz.prog w "internal/strconv.uint64pow10" .u64 Lib.pow10Tab):
  Calls Tryz.prog 146 #[.int .i64 n,.int .i64 10] w fun e w'=>e= .returned (.string ⟨(Lib.itoa n).toArray⟩)∧∃k os,w'=grow (w.drewN k) os:=Any.strconv_FormatInt_10 Tryz.laysM173 n h0 h1 w By
def Tryz.laysC174_ren:Go.Shelf.Ren:=⟨fun|174=>145|247=>155|245=>156|287=>168|279=>169|280=>170|281=>171|282=>172|321=>178|322=>179|316=>180|171=>117|205=>181|243=>141|246=>154|283=>164|284=>165|285=>166|286=>167|129=>174|317=>173|318=>175|319=>176|320=>177|337=>182|338=>183|n=>n,fun|9=>9|3=>3|2=>2|75=>28|85=>217|4=>4|167=>239|5=>5|53=>234|175=>240|46=>242|168=>243|37=>138|0=>0|210=>256|21=>21|127=>195|145=>261|143=>259|171=>233|173=>237|212=>248|51=>249|20=>20|213=>250|232=>262|233=>263|80=>118|n=>n,fun|15=>2|16=>3|17=>1|18=>4|19=>5|n=>n⟩
theorem Tryz.laysC174:Go.Proofs.LaysC.n174 Tryz.prog Tryz.laysC174_ren:= {
 mixed:=by kernel_rfl
 f129:=Tryz.func174.trans (congrArg some (by kernel_rfl))
 f171:=Tryz.func117.trans (congrArg some (by kernel_rfl))
 f174:=Tryz.func145.trans (congrArg some (by kernel_rfl))
 f205:=Tryz.func181.trans (congrArg some (by kernel_rfl))
 f243:=Tryz.func141.trans (congrArg some (by kernel_rfl))
 f245:=Tryz.func156.trans (congrArg some (by kernel_rfl))
 f246:=Tryz.func154.trans (congrArg some (by kernel_rfl))
 f247:=Tryz.func155.trans (congrArg some (by kernel_rfl))
 f279:=Tryz.func169.trans (congrArg some (by kernel_rfl))
 f280:=Tryz.func170.trans (congrArg some (by kernel_rfl))
 f281:=Tryz.func171.trans (congrArg some (by kernel_rfl))
 f282:=Tryz.func172.trans (congrArg some (by kernel_rfl))
 f283:=Tryz.func164.trans (congrArg some (by kernel_rfl))
 f284:=Tryz.func165.trans (congrArg some (by kernel_rfl))
 f285:=Tryz.func166.trans (congrArg some (by kernel_rfl))
 f286:=Tryz.func167.trans (congrArg some (by kernel_rfl))
 f287:=Tryz.func168.trans (congrArg some (by kernel_rfl))
 f316:=Tryz.func180.trans (congrArg some (by kernel_rfl))
 f317:=Tryz.func173.trans (congrArg some (by kernel_rfl))
 f318:=Tryz.func175.trans (congrArg some (by kernel_rfl))
 f319:=Tryz.func176.trans (congrArg some (by kernel_rfl))
 f320:=Tryz.func177.trans (congrArg some (by kernel_rfl))
 f321:=Tryz.func178.trans (congrArg some (by kernel_rfl))
 f322:=Tryz.func179.trans (congrArg some (by kernel_rfl))
 f337:=Tryz.func182.trans (congrArg some (by kernel_rfl))
 f338:=Tryz.func183.trans (congrArg some (by kernel_rfl))
 t0:=Tryz.underlying0
 a0:=Tryz.isAgg0
 z0:=Tryz.sizeOf0
 v0:=Tryz.zeroValue0
 t2:=Tryz.underlying2
 a2:=Tryz.isAgg2
 z2:=Tryz.sizeOf2
 v2:=Tryz.zeroValue2
 t3:=Tryz.underlying3
 a3:=Tryz.isAgg3
 z3:=Tryz.sizeOf3
 v3:=Tryz.zeroValue3
 t4:=Tryz.underlying4
 a4:=Tryz.isAgg4
 z4:=Tryz.sizeOf4
 v4:=Tryz.zeroValue4
 t5:=Tryz.underlying5
 a5:=Tryz.isAgg5
 z5:=Tryz.sizeOf5
 v5:=Tryz.zeroValue5
 t9:=Tryz.underlying9
 a9:=Tryz.isAgg9
 z9:=Tryz.sizeOf9
 v9:=Tryz.zeroValue9
 t20:=Tryz.underlying20
 a20:=Tryz.isAgg20
 z20:=Tryz.sizeOf20
 v20:=Tryz.zeroValue20
 t21:=Tryz.underlying21
 a21:=Tryz.isAgg21
 z21:=Tryz.sizeOf21
 v21:=Tryz.zeroValue21
 t37:=Tryz.underlying138
 a37:=Tryz.isAgg138
 z37:=Tryz.sizeOf138
 v37:=Tryz.zeroValue138
 t46:=Tryz.underlying242
 a46:=Tryz.isAgg242
 z46:=Tryz.sizeOf242
 v46:=Tryz.zeroValue242
 t51:=Tryz.underlying249
 a51:=Tryz.isAgg249
 z51:=Tryz.sizeOf249
 v51:=Tryz.zeroValue249
 t53:=Tryz.underlying234
 a53:=Tryz.isAgg234
 z53:=Tryz.sizeOf234
 v53:=Tryz.zeroValue234
 t75:=Tryz.underlying28
 a75:=Tryz.isAgg28
 z75:=Tryz.sizeOf28
 v75:=Tryz.zeroValue28
 t85:=Tryz.underlying217
 a85:=Tryz.isAgg217
 z85:=Tryz.sizeOf217
 v85:=Tryz.zeroValue217
 t127:=Tryz.underlying195
 a127:=Tryz.isAgg195
 z127:=Tryz.sizeOf195
 v127:=Tryz.zeroValue195
 t143:=Tryz.underlying259
 a143:=Tryz.isAgg259
 z143:=Tryz.sizeOf259
 v143:=Tryz.zeroValue259
 t145:=Tryz.underlying261
 a145:=Tryz.isAgg261
 z145:=Tryz.sizeOf261
 v145:=Tryz.zeroValue261
 t167:=Tryz.underlying239
 a167:=Tryz.isAgg239
 z167:=Tryz.sizeOf239
 v167:=Tryz.zeroValue239
 t168:=Tryz.underlying243
 a168:=Tryz.isAgg243
 z168:=Tryz.sizeOf243
 v168:=Tryz.zeroValue243
 t171:=Tryz.underlying233
 a171:=Tryz.isAgg233
 z171:=Tryz.sizeOf233
 v171:=Tryz.zeroValue233
 t173:=Tryz.underlying237
 a173:=Tryz.isAgg237
 z173:=Tryz.sizeOf237
 v173:=Tryz.zeroValue237
 t175:=Tryz.underlying240
 a175:=Tryz.isAgg240
 z175:=Tryz.sizeOf240
 v175:=Tryz.zeroValue240
 t210:=Tryz.underlying256
 a210:=Tryz.isAgg256
 z210:=Tryz.sizeOf256
 v210:=Tryz.zeroValue256
 t212:=Tryz.underlying248
 a212:=Tryz.isAgg248
 z212:=Tryz.sizeOf248
 v212:=Tryz.zeroValue248
 t213:=Tryz.underlying250
 a213:=Tryz.isAgg250
 z213:=Tryz.sizeOf250
 t232:=Tryz.underlying262
 a232:=Tryz.isAgg262
 z232:=Tryz.sizeOf262
 v232:=Tryz.zeroValue262
 t233:=Tryz.underlying263
 a233:=Tryz.isAgg263
 z233:=Tryz.sizeOf263
 v233:=Tryz.zeroValue263
 g15:=by kernel_rfl
 g16:=by kernel_rfl
 g17:=by kernel_rfl
 g18:=by kernel_rfl
 g19:=by kernel_rfl
 t80:=Tryz.underlying118
 a80:=Tryz.isAgg118
 z80:=Tryz.sizeOf118
 v80:=Tryz.zeroValue118
 i0:=by kernel_rfl
 i2:=by kernel_rfl
 i3:=by kernel_rfl
 i4:=by kernel_rfl
 i5:=by kernel_rfl
 i9:=by kernel_rfl
 i20:=by kernel_rfl
 i21:=by kernel_rfl
 i37:=by kernel_rfl
 i46:=by kernel_rfl
 i51:=by kernel_rfl
 i53:=by kernel_rfl
 i75:=by kernel_rfl
 i80:=by kernel_rfl
 i85:=by kernel_rfl
 i127:=by kernel_rfl
 i143:=by kernel_rfl
 i145:=by kernel_rfl
 i167:=by kernel_rfl
 i168:=by kernel_rfl
 i171:=by kernel_rfl
 i173:=by kernel_rfl
 i175:=by kernel_rfl
 i210:=by kernel_rfl
 i212:=by kernel_rfl
 i232:=by kernel_rfl
 i233:=by kernel_rfl
 m15:=by kernel_rfl
 m16:=by kernel_rfl
 m17:=by kernel_rfl
 m18:=by kernel_rfl
 m19:=by kernel_rfl
 c0:=by kernel_rfl
 c2:=by kernel_rfl
 c3:=by kernel_rfl
 c4:=by kernel_rfl
 c5:=by kernel_rfl
 c9:=by kernel_rfl
 c20:=by kernel_rfl
 c21:=by kernel_rfl
 c37:=by kernel_rfl
 c46:=by kernel_rfl
 c51:=by kernel_rfl
 c53:=by kernel_rfl
 c75:=by kernel_rfl
 c80:=by kernel_rfl
 c85:=by kernel_rfl
 c127:=by kernel_rfl
 c143:=by kernel_rfl
 c145:=by kernel_rfl
 c167:=by kernel_rfl
 c168:=by kernel_rfl
 c171:=by kernel_rfl
 c173:=by kernel_rfl
 c175:=by kernel_rfl
 c210:=by kernel_rfl
 c212:=by kernel_rfl
 c213:=by kernel_rfl
 c232:=by kernel_rfl
 c233:=by kernel_rfl }
open Go.RowKit in
theorem Tryz.strconv_ParseInt_10_at64_ok (s:ByteArray) (DF:s.size<=9223372036854775806) (v:Int) (h:Lib.parseIntB 64 s.data.toList= .ok v) (w:World):
  Calls Tryz.prog 145 #[.string s,.int .i64 10,.int .i64 64] w fun e w'=>e= .returned (.tuple #[.int .i64 v,.nilIface])∧(w'=w∨∃t,w'=Lib.bytesWorld w 5 t):=Any.strconv_ParseInt_10_at64_ok Tryz.laysC174 s DF v h w
open Go.RowKit in
theorem Tryz.strconv_ParseInt_10_at64_range_var (s:ByteArray) (DE:s.size<=281474976710656) (h:Lib.parseIntB 64 s.data.toList= .range) (tp:TypeId) (p:Value) (w:World) (DZ:w.var? Tryz.prog "strconv.ErrRange" =some #[.iface tp p]):
  Calls Tryz.prog 145 #[.string s,.int .i64 10,.int .i64 64] w fun e w'=>∃N,e= .returned (.tuple #[.int .i64 (Lib.intSat 64 s.data.toList),.iface 243 (.pointer (some ⟨N,0,none⟩))])∧w.heap.size<=N∧w'.heap[N]? =some (.cells #[.string ⟨#[80,97,114,115,101,73,110,116]⟩,.string s,.iface tp p] 256 (0,0))∧Below w.heap.size w w':=Any.strconv_ParseInt_10_at64_range_var Tryz.laysC174 s DE h tp p w DZ
end Go.Proofs
namespace Go.Proofs.YtnedmonlofbahaaGreatDoor
open Go Go.RowKit Go.Joins
set_option linter.all false
theorem uR (w:World) (os:Array Obj):New w (Sort.grow w os):=⟨rfl,rfl,rfl,by simp[Sort.grow],fun k hk _=>by simp[Sort.grow,Array.getElem?_append,hk]⟩
theorem rY {w w':World} (h:Below w.heap.size w w'):New w w':=⟨h.os,h.tape,h.output,h.size,fun k hk _=>h.block k hk⟩
theorem yP {w w':World} {n:String} {cs:Array Value} (h:w.var? Tryz.prog n=some cs) (hk:New w w'):w'.var? Tryz.prog n=some cs:=by
 unfold World.var? at h ⊢;obtain⟨g,hg,h2⟩:=Option.bind_eq_some_iff.1 h;rw[hg];simp only[Option.bind_some];cases hb:w.heap[g]? with
 |none=>rw[hb] at h2;cases h2
 |some o=>rw[Keeps.heap hk hb (fun h=>h)];rw[hb] at h2;exact h2
structure Env (w:World):Prop where
 tab:Lib.TabIs Tryz.prog w "internal/strconv.uint64pow10" .u64 Lib.pow10Tab
 rng:∃tp p,w.var? Tryz.prog "strconv.ErrRange" =some #[.iface tp p]
theorem Env.new {w w':World} (h:Env w) (k:New w w'):Env w':=by
 obtain⟨ht,tp,p,hr⟩:=h;exact⟨yP ht k,tp,p,yP hr k⟩
theorem ma (w:World) (X:ByteArray) (hX:X.size<=9223372036854775806) (n:Int) (h:Lib.parseIntB 64 X.data.toList= .ok n):
  Calls Tryz.prog 145 #[.string X,I 10,I 64] w fun e w'=>e= .returned (.tuple #[I n,.nilIface])∧New w w':=by
 refine(Tryz.strconv_ParseInt_10_at64_ok X hX n h w).mono ?_;rintro e w' ⟨rfl,hw⟩;refine⟨rfl,?_⟩;rcases hw with rfl|⟨t,rfl⟩
 ·exact New.refl _
 ·exact rY (Lib.bytesWorld_below _ _ _)
theorem ng (w:World) (X:ByteArray) (hX:X.size<=281474976710656) (h:Lib.parseIntB 64 X.data.toList= .range) (he:Env w):
  Calls Tryz.prog 145 #[.string X,I 10,I 64] w fun e w'=>∃sat T a,e= .returned (.tuple #[I sat,.iface T (.pointer (some a))])∧New w w':=by
 obtain⟨_,tp,p,hr⟩:=he;refine(Tryz.strconv_ParseInt_10_at64_range_var X hX h tp p w hr).mono ?_;rintro e w' ⟨N,rfl,_,_,hb⟩;exact⟨_,_,_,rfl,rY hb⟩
def jL (n:Int):ByteArray:=⟨(Lib.itoa n).toArray⟩
theorem nE (w:World) (n:Int) (h0: -9223372036854775808<=n) (h1:n<=9223372036854775807) (he:Env w):
  Calls Tryz.prog 146 #[I n,I 10] w fun e w'=>e= .returned (.string (jL n))∧New w w':=by
 refine(Tryz.strconv_FormatInt_10 n h0 h1 w he.tab).mono ?_;rintro e w' ⟨rfl,k,os,rfl⟩;exact⟨rfl,((New.refl w).drewN k).trans (uR _ os)⟩
theorem tJ (s:ByteArray):(s.toList==s.toList)=true:=by simp
theorem yN {s t:ByteArray} (h:s.data.toList≠t.data.toList):(s.toList==t.toList)=false:=by
 rw[beq_eq_false_iff_ne];rw[ByteArray.toList_eq,ByteArray.toList_eq];exact h
def cy (s:ByteArray) (k:Nat):List UInt8:=af s k::(s.data.toList.drop (k+1)).takeWhile aq
theorem dq (s:ByteArray) (i j:Nat):(s.extract i j).data.toList=(s.data.toList.drop i).take (j-i):=by
 rw[ByteArray.data_extract,Array.toList_extract,List.extract_eq_drop_take]
theorem bT (s:ByteArray) (i n:Nat):(s.extract i (i+n)).data.toList=(s.data.toList.drop i).take n:=by
 rw[dq,show i+n-i=n by omega]
theorem am (s:ByteArray):s.data.toList.length=s.size:=by simp
theorem rs (w0 w:World) (P:Nat) (s:ByteArray) (k:Nat) (ts:List LTok) (h:Rd w0 w P s k ts) (he:Env w0) (hk:k<s.size) (hs:s.size<=1048576) (hn:ts.length<=1048576)
  (hb:(af s k).toNat=45) (v:Int) (h0: -9223372036854775808<=v) (h1:v<=9223372036854775807) (hp:Lib.parseIntB 64 (cy s k)= .ok v) (hi:Lib.itoa v=cy s k):
  Calls Tryz.prog 130 #[.pointer (some ⟨P,0,none⟩),I k] w fun e w'=>e= .returned (I 0)∧Rd w0 w' P s (k+(cy s k).length) (ts++[⟨2,[],v,k⟩]):=by
 have hpk:=bG w0 w P s k ts h (by omega) (by omega);have hdr:=cF s k hk;have aU:=am s;obtain⟨n,hn0⟩:∃n,((s.data.toList.drop (k+1)).takeWhile aq).length=n:=⟨_,rfl⟩
 have hle:k+1+n<=s.size:=by
  have:=bX aq (s.data.toList.drop (k+1));rw[hn0,List.length_drop] at this;omega
 have hw:=fun W R=>gn w0 W P s (k+1) ts R (by omega) (by omega)
 rw[hn0] at hw;obtain⟨Dg,hDg⟩:∃Dg,s.extract (k+1) (k+1+n)=Dg:=⟨_,rfl⟩
 have hDl:Dg.data.toList=(s.data.toList.drop (k+1)).takeWhile aq:=by rw[<-hDg,bT,<-hn0,bH]
 have hsz:Dg.size<=1048576:=by rw[<-am,hDl,hn0];omega
 obtain⟨X,hX⟩:∃X,(⟨#[45]⟩:ByteArray)++Dg=X:=⟨_,rfl⟩
 have h45:af s k=45:=UInt8.toNat_inj.1 hb;have hXl:X.data.toList=cy s k:=by
  rw[<-hX,ByteArray.data_append,Array.toList_append,hDl];unfold cy;rw[h45];rfl
 have hXs:X.size<=1048577:=by rw[<-am,hXl];unfold cy;rw[List.length_cons,hn0];omega
 have qD:∀w:World,(Op.stringOp .add (⟨#[45]⟩:ByteArray) Dg).run Tryz.prog w= .ok (.string X) w:=fun w=>by
  rw[<-hX];exact run_string_add_sum w _ _ (by show 1+Dg.size<=_;omega)
 have HKL:Hid (k+1+n=k+(cy s k).length):=Lib.hid (by unfold cy;rw[List.length_cons,hn0];omega);have e45:(((af s k).toNat:Int)==45)=true:=by rw[hb];rfl
 have lW:=fun W=>ma W X (by omega) v (by rw[hXl];exact hp)
 have ot:=fun W (E:New w0 W)=>nE W v h0 h1 (he.new E)
 obtain⟨F,hF⟩:∃F,jL v=F:=⟨_,rfl⟩
 rw[hF] at ot;obtain rfl:F=X:=by
  rw[<-hF];apply ByteArray.ext;apply Array.toList_inj.1;rw[hXl,<-hi];unfold jL;rfl
 have Bl:=tJ F;have dJ:=fun W (k1:Nat) R=>fq w0 W P s k1 ts R 2 [] v k (by omega)
 clear hF;obtain⟨b,hbb⟩:∃b:Int,((af s k).toNat:Int)=b:=⟨_,rfl⟩
 rw[hbb] at hpk e45;rw[hDg] at hw;clear hbb hDg hDl hXl hX hdr hn0 aU h45 hb hp hi;go_enter Tryz.func130,Tryz.ntmps130;go_wp2_with fail;refine hpk.mono ?_;rintro e w2 ⟨rfl,n2⟩;have hR2:=h.new n2;obtain⟨_,y0,y1,_,hB2⟩:=hR2.cells;have HR3:=Lib.hid (hR2.go (k+1));clear hR2 hpk h;go_wp2_with fail;refine(hw _ HR3.out).mono ?_;rintro e w4 ⟨rfl,hR4⟩;go_wp2_with fail;refine(lW _).mono ?_;rintro e w5 ⟨rfl,n5⟩;have hR5:=hR4.new n5;clear hR4;go_wp2_with fail;refine(ot _ hR5.nw).mono ?_;rintro e w6 ⟨rfl,n6⟩;have hR6:=hR5.new n6;clear hR5;go_wp2_with fail;refine(dJ _ _ hR6).mono ?_;rintro e w7 ⟨rfl,hR7⟩;have HR7:=Lib.hid hR7;clear hR7 hR6;go_wp2_with fail;go_ret
 exact⟨rfl,by rw[<-HKL.out];exact HR7.out⟩
theorem ph (w0 w:World) (P:Nat) (s:ByteArray) (k:Nat) (ts:List LTok) (h:Rd w0 w P s k ts) (he:Env w0) (hk:k<s.size) (hs:s.size<=1048576) (hn:ts.length<=1048576)
  (hb:(af s k).toNat=45) (v:Int) (h0: -9223372036854775808<=v) (h1:v<=9223372036854775807) (hp:Lib.parseIntB 64 (cy s k)= .ok v) (hi:Lib.itoa v≠cy s k):
  Calls Tryz.prog 130 #[.pointer (some ⟨P,0,none⟩),I k] w fun e w'=>e= .returned (I 41)∧∃k',Rd w0 w' P s k' ts:=by
 have hpk:=bG w0 w P s k ts h (by omega) (by omega);have hdr:=cF s k hk;have aU:=am s;obtain⟨n,hn0⟩:∃n,((s.data.toList.drop (k+1)).takeWhile aq).length=n:=⟨_,rfl⟩
 have hle:k+1+n<=s.size:=by
  have:=bX aq (s.data.toList.drop (k+1));rw[hn0,List.length_drop] at this;omega
 have hw:=fun W R=>gn w0 W P s (k+1) ts R (by omega) (by omega)
 rw[hn0] at hw;obtain⟨Dg,hDg⟩:∃Dg,s.extract (k+1) (k+1+n)=Dg:=⟨_,rfl⟩
 have hDl:Dg.data.toList=(s.data.toList.drop (k+1)).takeWhile aq:=by rw[<-hDg,bT,<-hn0,bH]
 have hsz:Dg.size<=1048576:=by rw[<-am,hDl,hn0];omega
 obtain⟨X,hX⟩:∃X,(⟨#[45]⟩:ByteArray)++Dg=X:=⟨_,rfl⟩
 have h45:af s k=45:=UInt8.toNat_inj.1 hb;have hXl:X.data.toList=cy s k:=by
  rw[<-hX,ByteArray.data_append,Array.toList_append,hDl];unfold cy;rw[h45];rfl
 have hXs:X.size<=1048577:=by rw[<-am,hXl];unfold cy;rw[List.length_cons,hn0];omega
 have qD:∀w:World,(Op.stringOp .add (⟨#[45]⟩:ByteArray) Dg).run Tryz.prog w= .ok (.string X) w:=fun w=>by
  rw[<-hX];exact run_string_add_sum w _ _ (by show 1+Dg.size<=_;omega)
 have HKL:Hid (k+1+n=k+(cy s k).length):=Lib.hid (by unfold cy;rw[List.length_cons,hn0];omega);have e45:(((af s k).toNat:Int)==45)=true:=by rw[hb];rfl
 have lW:=fun W=>ma W X (by omega) v (by rw[hXl];exact hp)
 have ot:=fun W (E:New w0 W)=>nE W v h0 h1 (he.new E)
 obtain⟨F,hF⟩:∃F,jL v=F:=⟨_,rfl⟩
 rw[hF] at ot;have Bl:(F.toList==X.toList)=false:=yN (by rw[hXl,<-hF];exact hi);clear hF;obtain⟨b,hbb⟩:∃b:Int,((af s k).toNat:Int)=b:=⟨_,rfl⟩
 rw[hbb] at hpk e45;rw[hDg] at hw;clear hbb hDg hDl hXl hX hdr hn0 aU h45 hb hp hi;go_enter Tryz.func130,Tryz.ntmps130;go_wp2_with fail;refine hpk.mono ?_;rintro e w2 ⟨rfl,n2⟩;have hR2:=h.new n2;obtain⟨_,y0,y1,_,hB2⟩:=hR2.cells;have HR3:=Lib.hid (hR2.go (k+1));clear hR2 hpk h;go_wp2_with fail;refine(hw _ HR3.out).mono ?_;rintro e w4 ⟨rfl,hR4⟩;go_wp2_with fail;refine(lW _).mono ?_;rintro e w5 ⟨rfl,n5⟩;have hR5:=hR4.new n5;clear hR4;go_wp2_with fail;refine(ot _ hR5.nw).mono ?_;rintro e w6 ⟨rfl,n6⟩;have hR6:=hR5.new n6;clear hR5;have HR6:=Lib.hid hR6;clear hR6;go_wp2_with fail;go_ret
 exact⟨rfl,_,HR6.out⟩
theorem qA (w0 w:World) (P:Nat) (s:ByteArray) (k:Nat) (ts:List LTok) (h:Rd w0 w P s k ts) (he:Env w0) (hk:k<s.size) (hs:s.size<=1048576) (hn:ts.length<=1048576)
  (hb:(af s k).toNat=45) (hp:Lib.parseIntB 64 (cy s k)= .range):
  Calls Tryz.prog 130 #[.pointer (some ⟨P,0,none⟩),I k] w fun e w'=>e= .returned (I 41)∧∃k',Rd w0 w' P s k' ts:=by
 have hpk:=bG w0 w P s k ts h (by omega) (by omega);have hdr:=cF s k hk;have aU:=am s;obtain⟨n,hn0⟩:∃n,((s.data.toList.drop (k+1)).takeWhile aq).length=n:=⟨_,rfl⟩
 have hle:k+1+n<=s.size:=by
  have:=bX aq (s.data.toList.drop (k+1));rw[hn0,List.length_drop] at this;omega
 have hw:=fun W R=>gn w0 W P s (k+1) ts R (by omega) (by omega)
 rw[hn0] at hw;obtain⟨Dg,hDg⟩:∃Dg,s.extract (k+1) (k+1+n)=Dg:=⟨_,rfl⟩
 have hDl:Dg.data.toList=(s.data.toList.drop (k+1)).takeWhile aq:=by rw[<-hDg,bT,<-hn0,bH]
 have hsz:Dg.size<=1048576:=by rw[<-am,hDl,hn0];omega
 obtain⟨X,hX⟩:∃X,(⟨#[45]⟩:ByteArray)++Dg=X:=⟨_,rfl⟩
 have h45:af s k=45:=UInt8.toNat_inj.1 hb;have hXl:X.data.toList=cy s k:=by
  rw[<-hX,ByteArray.data_append,Array.toList_append,hDl];unfold cy;rw[h45];rfl
 have hXs:X.size<=1048577:=by rw[<-am,hXl];unfold cy;rw[List.length_cons,hn0];omega
 have qD:∀w:World,(Op.stringOp .add (⟨#[45]⟩:ByteArray) Dg).run Tryz.prog w= .ok (.string X) w:=fun w=>by
  rw[<-hX];exact run_string_add_sum w _ _ (by show 1+Dg.size<=_;omega)
 have HKL:Hid (k+1+n=k+(cy s k).length):=Lib.hid (by unfold cy;rw[List.length_cons,hn0];omega);have e45:(((af s k).toNat:Int)==45)=true:=by rw[hb];rfl
 have lW:=fun W (E:New w0 W)=>ng W X (by omega) (by rw[hXl];exact hp) (he.new E)
 obtain⟨b,hbb⟩:∃b:Int,((af s k).toNat:Int)=b:=⟨_,rfl⟩
 rw[hbb] at hpk e45;rw[hDg] at hw;clear hbb hDg hDl hXl hX hdr hn0 aU h45 hb hp;go_enter Tryz.func130,Tryz.ntmps130;go_wp2_with fail;refine hpk.mono ?_;rintro e w2 ⟨rfl,n2⟩;have hR2:=h.new n2;obtain⟨_,y0,y1,_,hB2⟩:=hR2.cells;have HR3:=Lib.hid (hR2.go (k+1));clear hR2 hpk h;go_wp2_with fail;refine(hw _ HR3.out).mono ?_;rintro e w4 ⟨rfl,hR4⟩;go_wp2_with fail;refine(lW _ hR4.nw).mono ?_;rintro e w5 ⟨sat,T,a,rfl,n5⟩;have HR5:=Lib.hid (hR4.new n5);clear hR4;go_wp2_with fail;go_ret
 exact⟨rfl,_,HR5.out⟩
theorem ru (w0 w:World) (P:Nat) (s:ByteArray) (k:Nat) (ts:List LTok) (h:Rd w0 w P s k ts) (he:Env w0) (hk:k<s.size) (hs:s.size<=1048576) (hn:ts.length<=1048576)
  (hb:aq (af s k)=true) (v:Int) (h0: -9223372036854775808<=v) (h1:v<=9223372036854775807) (hp:Lib.parseIntB 64 (cy s k)= .ok v) (hi:Lib.itoa v=cy s k):
  Calls Tryz.prog 130 #[.pointer (some ⟨P,0,none⟩),I k] w fun e w'=>e= .returned (I 0)∧Rd w0 w' P s (k+(cy s k).length) (ts++[⟨2,[],v,k⟩]):=by
 have hpk:=bG w0 w P s k ts h (by omega) (by omega);have hdr:=cF s k hk;have aU:=am s;obtain⟨n,hn0⟩:∃n,((s.data.toList.drop k).takeWhile aq).length=n:=⟨_,rfl⟩
 have hle:k+n<=s.size:=by
  have:=bX aq (s.data.toList.drop k);rw[hn0,List.length_drop] at this;omega
 have hw:=fun W R=>gn w0 W P s k ts R (by omega) (by omega)
 rw[hn0] at hw;obtain⟨Dg,hDg⟩:∃Dg,s.extract k (k+n)=Dg:=⟨_,rfl⟩
 have hD0:(s.data.toList.drop k).takeWhile aq=cy s k:=by unfold cy;rw[hdr,List.takeWhile_cons,if_pos hb]
 have hDl:Dg.data.toList=cy s k:=by rw[<-hDg,bT,<-hn0,bH,hD0]
 have hsz:Dg.size<=1048576:=by rw[<-am,hDl,<-hD0,hn0];omega
 obtain⟨X,hX⟩:∃X,(⟨#[]⟩:ByteArray)++Dg=X:=⟨_,rfl⟩
 have hXl:X.data.toList=cy s k:=by
  rw[<-hX,ByteArray.data_append,Array.toList_append,hDl];rfl
 have hXs:X.size<=1048577:=by rw[<-am,hXl,<-hDl,am];omega
 have qD:∀w:World,(Op.stringOp .add (⟨#[]⟩:ByteArray) Dg).run Tryz.prog w= .ok (.string X) w:=fun w=>by
  rw[<-hX];exact run_string_add_sum w _ _ (by show 0+Dg.size<=_;omega)
 have HKL:Hid (k+n=k+(cy s k).length):=Lib.hid (by rw[<-hn0,hD0]);have e45:(((af s k).toNat:Int)==45)=false:=by
  have:=(bq _).1 hb;simpa using fun h:((af s k).toNat:Int)=45=>by omega
 have lW:=fun W=>ma W X (by omega) v (by rw[hXl];exact hp)
 have ot:=fun W (E:New w0 W)=>nE W v h0 h1 (he.new E)
 obtain⟨F,hF⟩:∃F,jL v=F:=⟨_,rfl⟩
 rw[hF] at ot;obtain rfl:F=X:=by
  rw[<-hF];apply ByteArray.ext;apply Array.toList_inj.1;rw[hXl,<-hi];unfold jL;rfl
 have Bl:=tJ F;have dJ:=fun W (k1:Nat) R=>fq w0 W P s k1 ts R 2 [] v k (by omega)
 clear hF;obtain⟨b,hbb⟩:∃b:Int,((af s k).toNat:Int)=b:=⟨_,rfl⟩
 rw[hbb] at hpk e45;rw[hDg] at hw;clear hbb hDg hDl hXl hX hdr hn0 aU hD0 hb hp hi;go_enter Tryz.func130,Tryz.ntmps130;go_wp2_with fail;refine hpk.mono ?_;rintro e w2 ⟨rfl,n2⟩;have hR2:=h.new n2;clear hpk h;go_wp2_with fail;refine(hw _ hR2).mono ?_;rintro e w4 ⟨rfl,hR4⟩;go_wp2_with fail;refine(lW _).mono ?_;rintro e w5 ⟨rfl,n5⟩;have hR5:=hR4.new n5;clear hR4;go_wp2_with fail;refine(ot _ hR5.nw).mono ?_;rintro e w6 ⟨rfl,n6⟩;have hR6:=hR5.new n6;clear hR5;go_wp2_with fail;refine(dJ _ _ hR6).mono ?_;rintro e w7 ⟨rfl,hR7⟩;have HR7:=Lib.hid hR7;clear hR7 hR6;go_wp2_with fail;go_ret
 exact⟨rfl,by rw[<-HKL.out];exact HR7.out⟩
theorem pi (w0 w:World) (P:Nat) (s:ByteArray) (k:Nat) (ts:List LTok) (h:Rd w0 w P s k ts) (he:Env w0) (hk:k<s.size) (hs:s.size<=1048576) (hn:ts.length<=1048576)
  (hb:aq (af s k)=true) (v:Int) (h0: -9223372036854775808<=v) (h1:v<=9223372036854775807) (hp:Lib.parseIntB 64 (cy s k)= .ok v) (hi:Lib.itoa v≠cy s k):
  Calls Tryz.prog 130 #[.pointer (some ⟨P,0,none⟩),I k] w fun e w'=>e= .returned (I 41)∧∃k',Rd w0 w' P s k' ts:=by
 have hpk:=bG w0 w P s k ts h (by omega) (by omega);have hdr:=cF s k hk;have aU:=am s;obtain⟨n,hn0⟩:∃n,((s.data.toList.drop k).takeWhile aq).length=n:=⟨_,rfl⟩
 have hle:k+n<=s.size:=by
  have:=bX aq (s.data.toList.drop k);rw[hn0,List.length_drop] at this;omega
 have hw:=fun W R=>gn w0 W P s k ts R (by omega) (by omega)
 rw[hn0] at hw;obtain⟨Dg,hDg⟩:∃Dg,s.extract k (k+n)=Dg:=⟨_,rfl⟩
 have hD0:(s.data.toList.drop k).takeWhile aq=cy s k:=by unfold cy;rw[hdr,List.takeWhile_cons,if_pos hb]
 have hDl:Dg.data.toList=cy s k:=by rw[<-hDg,bT,<-hn0,bH,hD0]
 have hsz:Dg.size<=1048576:=by rw[<-am,hDl,<-hD0,hn0];omega
 obtain⟨X,hX⟩:∃X,(⟨#[]⟩:ByteArray)++Dg=X:=⟨_,rfl⟩
 have hXl:X.data.toList=cy s k:=by
  rw[<-hX,ByteArray.data_append,Array.toList_append,hDl];rfl
 have hXs:X.size<=1048577:=by rw[<-am,hXl,<-hDl,am];omega
 have qD:∀w:World,(Op.stringOp .add (⟨#[]⟩:ByteArray) Dg).run Tryz.prog w= .ok (.string X) w:=fun w=>by
  rw[<-hX];exact run_string_add_sum w _ _ (by show 0+Dg.size<=_;omega)
 have HKL:Hid (k+n=k+(cy s k).length):=Lib.hid (by rw[<-hn0,hD0]);have e45:(((af s k).toNat:Int)==45)=false:=by
  have:=(bq _).1 hb;simpa using fun h:((af s k).toNat:Int)=45=>by omega
 have lW:=fun W=>ma W X (by omega) v (by rw[hXl];exact hp)
 have ot:=fun W (E:New w0 W)=>nE W v h0 h1 (he.new E)
 obtain⟨F,hF⟩:∃F,jL v=F:=⟨_,rfl⟩
 rw[hF] at ot;have Bl:(F.toList==X.toList)=false:=yN (by rw[hXl,<-hF];exact hi);clear hF;obtain⟨b,hbb⟩:∃b:Int,((af s k).toNat:Int)=b:=⟨_,rfl⟩
 rw[hbb] at hpk e45;rw[hDg] at hw;clear hbb hDg hDl hXl hX hdr hn0 aU hD0 hb hp hi;go_enter Tryz.func130,Tryz.ntmps130;go_wp2_with fail;refine hpk.mono ?_;rintro e w2 ⟨rfl,n2⟩;have hR2:=h.new n2;clear hpk h;go_wp2_with fail;refine(hw _ hR2).mono ?_;rintro e w4 ⟨rfl,hR4⟩;go_wp2_with fail;refine(lW _).mono ?_;rintro e w5 ⟨rfl,n5⟩;have hR5:=hR4.new n5;clear hR4;go_wp2_with fail;refine(ot _ hR5.nw).mono ?_;rintro e w6 ⟨rfl,n6⟩;have hR6:=hR5.new n6;clear hR5;have HR6:=Lib.hid hR6;clear hR6;go_wp2_with fail;go_ret
 exact⟨rfl,_,HR6.out⟩
theorem qB (w0 w:World) (P:Nat) (s:ByteArray) (k:Nat) (ts:List LTok) (h:Rd w0 w P s k ts) (he:Env w0) (hk:k<s.size) (hs:s.size<=1048576) (hn:ts.length<=1048576)
  (hb:aq (af s k)=true) (hp:Lib.parseIntB 64 (cy s k)= .range):
  Calls Tryz.prog 130 #[.pointer (some ⟨P,0,none⟩),I k] w fun e w'=>e= .returned (I 41)∧∃k',Rd w0 w' P s k' ts:=by
 have hpk:=bG w0 w P s k ts h (by omega) (by omega);have hdr:=cF s k hk;have aU:=am s;obtain⟨n,hn0⟩:∃n,((s.data.toList.drop k).takeWhile aq).length=n:=⟨_,rfl⟩
 have hle:k+n<=s.size:=by
  have:=bX aq (s.data.toList.drop k);rw[hn0,List.length_drop] at this;omega
 have hw:=fun W R=>gn w0 W P s k ts R (by omega) (by omega)
 rw[hn0] at hw;obtain⟨Dg,hDg⟩:∃Dg,s.extract k (k+n)=Dg:=⟨_,rfl⟩
 have hD0:(s.data.toList.drop k).takeWhile aq=cy s k:=by unfold cy;rw[hdr,List.takeWhile_cons,if_pos hb]
 have hDl:Dg.data.toList=cy s k:=by rw[<-hDg,bT,<-hn0,bH,hD0]
 have hsz:Dg.size<=1048576:=by rw[<-am,hDl,<-hD0,hn0];omega
 obtain⟨X,hX⟩:∃X,(⟨#[]⟩:ByteArray)++Dg=X:=⟨_,rfl⟩
 have hXl:X.data.toList=cy s k:=by
  rw[<-hX,ByteArray.data_append,Array.toList_append,hDl];rfl
 have hXs:X.size<=1048577:=by rw[<-am,hXl,<-hDl,am];omega
 have qD:∀w:World,(Op.stringOp .add (⟨#[]⟩:ByteArray) Dg).run Tryz.prog w= .ok (.string X) w:=fun w=>by
  rw[<-hX];exact run_string_add_sum w _ _ (by show 0+Dg.size<=_;omega)
 have HKL:Hid (k+n=k+(cy s k).length):=Lib.hid (by rw[<-hn0,hD0]);have e45:(((af s k).toNat:Int)==45)=false:=by
  have:=(bq _).1 hb;simpa using fun h:((af s k).toNat:Int)=45=>by omega
 have lW:=fun W (E:New w0 W)=>ng W X (by omega) (by rw[hXl];exact hp) (he.new E)
 obtain⟨b,hbb⟩:∃b:Int,((af s k).toNat:Int)=b:=⟨_,rfl⟩
 rw[hbb] at hpk e45;rw[hDg] at hw;clear hbb hDg hDl hXl hX hdr hn0 aU hD0 hb hp;go_enter Tryz.func130,Tryz.ntmps130;go_wp2_with fail;refine hpk.mono ?_;rintro e w2 ⟨rfl,n2⟩;have hR2:=h.new n2;clear hpk h;go_wp2_with fail;refine(hw _ hR2).mono ?_;rintro e w4 ⟨rfl,hR4⟩;go_wp2_with fail;refine(lW _ hR4.nw).mono ?_;rintro e w5 ⟨sat,T,a,rfl,n5⟩;have HR5:=Lib.hid (hR4.new n5);clear hR4;go_wp2_with fail;go_ret
 exact⟨rfl,_,HR5.out⟩
theorem rr (w0 w:World) (P:Nat) (s:ByteArray) (k:Nat) (ts:List LTok) (h:Rd w0 w P s k ts) (he:Env w0) (hk:k<s.size) (hs:s.size<=1048576) (hn:ts.length<=1048576)
  (hb:aq (af s k)=true∨((af s k).toNat=45∧aq (af s (k+1))=true)):
  Calls Tryz.prog 130 #[.pointer (some ⟨P,0,none⟩),I k] w fun e w'=>
   (∃v,fU (cy s k)=some v∧e= .returned (I 0)∧Rd w0 w' P s (k+(cy s k).length) (ts++[⟨2,[],v,k⟩]))∨(fU (cy s k)=none∧e= .returned (I 41)∧∃k',Rd w0 w' P s k' ts):=by
 have ha:=gw aq (s.data.toList.drop (k+1));rcases hb with hb|⟨hb,hd⟩
 ·rcases oK (af s k) ((s.data.toList.drop (k+1)).takeWhile aq) (by simp only[List.all_cons,hb,ha,Bool.and_self]) with⟨v,h1,h2,h3⟩|⟨h1,h2|⟨v,h2,h3⟩⟩
  ·have hr:=oL _ _ h1;exact(ru w0 w P s k ts h he hk hs hn hb v hr.1 hr.2 h2 h3).mono fun e w' hp=>Or.inl ⟨v,h1,hp⟩
  ·exact(qB w0 w P s k ts h he hk hs hn hb h2).mono fun e w' hp=>Or.inr ⟨h1,hp⟩
  ·have hr:=Lib.parseIntB_bounds h2;exact(pi w0 w P s k ts h he hk hs hn hb v (by have:=hr.1;simp at this;omega) (by have:=hr.2;simp at this;omega) h2 h3).mono fun e w' hp=>Or.inr ⟨h1,hp⟩
 ·have h45:af s k=45:=UInt8.toNat_inj.1 hb;have hne:(s.data.toList.drop (k+1)).takeWhile aq≠[]:=by
   have hd2:aq ((s.data.toList.drop (k+1)).headD 0)=true:=hd;obtain⟨r',e⟩:=ii _ (fun e=>by rw[e] at hd2;exact absurd hd2 (by decide));rw[e,List.takeWhile_cons,if_pos hd2];simp
  have hD:cy s k=45::(s.data.toList.drop (k+1)).takeWhile aq:=by unfold cy;rw[h45]
  rcases oJ _ hne ha with⟨v,h1,h2,h3⟩|⟨h1,h2|⟨v,h2,h3⟩⟩
  ·rw[<-hD] at h1 h2 h3;have hr:=oL _ _ h1;exact(rs w0 w P s k ts h he hk hs hn hb v hr.1 hr.2 h2 h3).mono fun e w' hp=>Or.inl ⟨v,h1,hp⟩
  ·rw[<-hD] at h1 h2;exact(qA w0 w P s k ts h he hk hs hn hb h2).mono fun e w' hp=>Or.inr ⟨h1,hp⟩
  ·rw[<-hD] at h1 h2 h3;have hr:=Lib.parseIntB_bounds h2;exact(ph w0 w P s k ts h he hk hs hn hb v (by have:=hr.1;simp at this;omega) (by have:=hr.2;simp at this;omega) h2 h3).mono fun e w' hp=>Or.inr ⟨h1,hp⟩
end Go.Proofs.YtnedmonlofbahaaGreatDoor
