/-
  LexN, LexP, LexA, LexB, XX, LexC: what is wanted of them.
-/
import Derived.Test.YtnedmonlofbahaaGreatDoorBsB
import Derived.Test.YtnedmonlofbahaaGreatDoorDbl
import Derived.Lib.ItoaMem
import Derived.Lib.ItoaLen
import Derived.Lib.ParseIntBTie
import Derived.OwnWalk
import Derived.Shelf.Strings.Builder1
import Derived.Shelf.Strings.BuilderF
import Derived.Shelf.Strings.BuilderK
import Derived.Shelf.Strconv.Itoa0
import Derived.Shelf.Strconv.Itoa1
import Derived.Shelf.LaysM
import Derived.Shelf.Strconv.Itoa2
import Derived.Shelf.Strconv.Itoa3
import Derived.Shelf.Strconv.Itoa4
import Derived.Shelf.Strconv.ParseIntEmpty
import Derived.Shelf.Strconv.Clone
import Derived.Shelf.Strconv.SyntaxError
import Derived.Shelf.LaysC
import Derived.Shelf.Strconv.ToError
import Derived.Shelf.Strconv.Lower
import Derived.Shelf.Strconv.ParseUint10
import Derived.Shelf.Strconv.ParseUint10Empty
import Derived.Shelf.Strconv.ParseUint10Any
import Derived.Shelf.Strconv.ParseInt10
import Derived.Shelf.Strconv.RangeError
import Derived.Shelf.Strconv.ToErrorRange
import Derived.Shelf.Strconv.ParseUintEmpty
import Derived.Shelf.Strconv.ParseUint10b64
import Derived.Shelf.Strconv.ParseUint10b32
import Derived.Shelf.Strconv.ParseUint10b16
import Derived.Shelf.Strconv.ParseUint10b8
import Derived.Shelf.Strconv.ParseUint10At
import Derived.Shelf.Strconv.ParseInt10At64
import Derived.Shelf.Strconv.ParseInt10At32
import Derived.Shelf.Strconv.ParseInt10At16
import Derived.Shelf.Strconv.ParseInt10At8
import Derived.Shelf.Strconv.ParseInt10All
import Derived.Shelf.Strconv.ParseIntPublic10
import Derived.Shelf.Strconv.ErrVarParseInt
import Derived.Test.YtnedmonlofbahaaGreatDoorProg
import Derived.Laws.Concat
namespace Go.Proofs.YtnedmonlofbahaaGreatDoor
open Go
set_option linter.all false
def cG (b:UInt8):Bool:=bc (b.toNat:Int)
def az (b:UInt8):Bool:=bI (b.toNat:Int)
def cd (b:UInt8):Bool:=aW (b.toNat:Int)
theorem bE (b:UInt8):az b=true ↔ 48<=b.toNat∧b.toNat<=57:=by
 unfold az bI;rw[decide_eq_true_iff];omega
def dO (a:Nat) (l:List UInt8):Nat:=l.foldl (fun a b=>a*10+(b.toNat-48)) a
theorem fH (a:Nat) (c:UInt8) (r:List UInt8):dO a (c::r)=dO (a*10+(c.toNat-48)) r:=by unfold dO;rw[List.foldl_cons]
theorem iw (a:Nat):dO a []=a:=rfl
theorem uS:∀(l:List UInt8) (a:Nat),a<=dO a l:=by
 intro l;induction l with
 |nil=>intro a;exact Nat.le_refl _
 |cons c r ih=>intro a;rw[fH];exact Nat.le_trans (by omega) (ih _)
theorem rH (a:Nat) (l:List UInt8) (c:UInt8):dO a (l++[c])=dO a l*10+(c.toNat-48):=by
 unfold dO;rw[List.foldl_append];rfl
theorem uT:∀(l:List UInt8) (a:Nat),l.all az=true->dO a l<(a+1)*10^l.length:=by
 intro l;induction l with
 |nil=>intro a _;simp[iw]
 |cons c r ih=>
  intro a h;simp only[List.all_cons,Bool.and_eq_true] at h;have hc:=(bE c).1 h.1;have:=ih (a*10+(c.toNat-48)) h.2;rw[fH,List.length_cons,Nat.pow_succ];refine Nat.lt_of_lt_of_le this ?_;have h10:a*10+(c.toNat-48)+1<=(a+1)*10:=by omega
  have:=Nat.mul_le_mul_right (10^r.length) h10;rw[Nat.mul_assoc,Nat.mul_comm 10] at this;exact this
theorem kj (c:UInt8) (h:az c=true):UInt8.ofNat (48+(c.toNat-48))=c:=by
 have:=(bE c).1 h;rw[show 48+(c.toNat-48)=c.toNat by omega];exact UInt8.ofNat_toNat
theorem kh:∀(l:List UInt8) (a:Nat),1<=a->l.all az=true->Lib.decDigits (dO a l)=Lib.decDigits a++l:=by
 intro l;induction l with
 |nil=>intro a _ _;simp[iw]
 |cons c r ih=>
  intro a ha h;simp only[List.all_cons,Bool.and_eq_true] at h;have hc:=(bE c).1 h.1;rw[fH,ih _ (by omega) h.2];have e:Lib.decDigits (a*10+(c.toNat-48))=Lib.decDigits a++[c]:=by
   rw[Lib.decDigits,dif_neg (by omega)];rw[show(a*10+(c.toNat-48))/10=a by omega,show(a*10+(c.toNat-48))%10=c.toNat-48 by omega,kj c h.1]
  rw[e];simp
theorem lp (c:UInt8) (r:List UInt8) (h:(c::r).all az=true) (h0:r=[]∨c.toNat≠48):Lib.decDigits (dO 0 (c::r))=c::r:=by
 simp only[List.all_cons,Bool.and_eq_true] at h;have hc:=(bE c).1 h.1;have e1:Lib.decDigits (c.toNat-48)=[c]:=by rw[Lib.decDigits_one (by omega),kj c h.1]
 rw[fH,Nat.zero_mul,Nat.zero_add];rcases h0 with rfl|h0
 ·rw[iw,e1]
 ·rw[kh r _ (by omega) h.2,e1];rfl
theorem fN:∀(d n:Nat),n<=d->1<=n->∃c r,Lib.decDigits n=c::r∧c.toNat≠48:=by
 intro d;induction d with
 |zero=>intro n h1 h2;omega
 |succ d ih=>
  intro n h1 h2;by_cases h:n<10
  ·refine⟨_,[],Lib.decDigits_one h,?_⟩;rw[UInt8.toNat_ofNat'];omega
  ·obtain⟨c,r,e,hc⟩:=ih (n/10) (by omega) (by omega);refine⟨c,r++[UInt8.ofNat (48+n%10)],?_,hc⟩;rw[Lib.decDigits,dif_neg h,e];rfl
theorem gl:∀(d n:Nat),n<=d->(Lib.decDigits n).all az=true:=by
 intro d;induction d with
 |zero=>
  intro n h;rw[Lib.decDigits_one (by omega)];have:n=0:=by omega
  subst this;decide
 |succ d ih=>
  intro n h1;have key:∀k<10,az (UInt8.ofNat (48+k))=true:=by decide
  by_cases h:n<10
  ·rw[Lib.decDigits_one h,List.all_cons,List.all_nil,key n h];rfl
  ·rw[Lib.decDigits,dif_neg h,List.all_append,ih (n/10) (by omega)];rw[List.all_cons,List.all_nil,key (n%10) (by omega)];rfl
theorem eS:∀(k n:Nat),1<=k->n<10^k->(Lib.decDigits n).length<=k:=by
 intro k;induction k with
 |zero=>intro n h;omega
 |succ k ih=>
  intro n _ hn;by_cases h:n<10
  ·rw[Lib.decDigits_one h];simp
  ·rw[Lib.decDigits,dif_neg h,List.length_append];have h1:1<=k:=by
    rcases Nat.eq_zero_or_pos k with rfl|hk
    ·simp at hn;omega
    ·exact hk
   have h2:n/10<10^k:=by rw[Nat.pow_succ] at hn;omega
   have:=ih (n/10) h1 h2;simp;omega
theorem cz:Lib.decDigits 0=[48]:=Lib.decDigits_one (by omega)
theorem gQ (n:Nat):Lib.decDigits n≠[]:=by
 rcases Nat.eq_zero_or_pos n with rfl|h
 ·rw[cz];simp
 ·obtain⟨c,r,e,_⟩:=fN n n (Nat.le_refl _) h;rw[e];simp
theorem iv (n:Nat):dO 0 (Lib.decDigits n)=n:=by
 induction n using Nat.strongRecOn with
 |ind n ih=>
  by_cases h:n<10
  ·rw[Lib.decDigits_one h,fH,iw,UInt8.toNat_ofNat'];omega
  ·rw[Lib.decDigits,dif_neg h,rH,ih (n/10) (by omega),UInt8.toNat_ofNat'];omega
def jF (l:List UInt8):Option Nat:=if(2<=l.length∧l.head? =some 48)∨19<l.length then none else some (dO 0 l)
def gz (d:List UInt8):Option Int:=match d with
 |[]=>none
 |c::r=>
  if c.toNat=45 then
   (if r=[48] then none else match jF r with
    |some v=>if v<=9223372036854775808 then some (-(v:Int)) else none
    |none=>none)
  else match jF (c::r) with
   |some v=>if v<9223372036854775808 then some (v:Int) else none
   |none=>none
theorem kH (r:List UInt8):gz (45::r)=(if r=[48] then none else match jF r with
    |some v=>if v<=9223372036854775808 then some (-(v:Int)) else none
    |none=>none):=by
 have h:(45:UInt8).toNat=45:=rfl;unfold gz;exact if_pos h
theorem qV:∀(l:List UInt8) (a:Nat),l.all az=true->a<18446744073709551616->Lib.parseUint10 a l=if dO a l<18446744073709551616 then .ok (dO a l) else .range:=by
 intro l;induction l with
 |nil=>intro a _ ha;rw[iw,if_pos ha];rfl
 |cons c r ih=>
  intro a h ha;simp only[List.all_cons,Bool.and_eq_true] at h;have hc:=(bE c).1 h.1;have hle:=uS r (a*10+(c.toNat-48));rw[fH];unfold Lib.parseUint10;rw[if_pos hc];by_cases h1:1844674407370955162<=a
  ·rw[if_pos h1,if_neg (by omega)]
  ·rw[if_neg h1];by_cases h2:18446744073709551616<=a*10+(c.toNat-48)
   ·rw[if_pos h2,if_neg (by omega)]
   ·rw[if_neg h2,ih _ h.2 (by omega)]
theorem pK (l:List UInt8) (hn:l≠[]) (h:l.all az=true):Lib.parseMag l=if dO 0 l<18446744073709551616 then .ok (dO 0 l) else .range:=by
 unfold Lib.parseMag;rw[if_neg hn,qV l 0 h (by omega)]
theorem lG (l:List UInt8) (hn:l≠[]) (hd:l.all az=true) (h:jF l=none) (hv:dO 0 l<10000000000000000000):Lib.decDigits (dO 0 l)≠l:=by
 unfold jF at h;split at h
 ·rename_i hc;intro e;rcases hc with⟨h2,h0⟩|h19
  ·rcases Nat.eq_zero_or_pos (dO 0 l) with z|z
   ·rw[z,cz] at e;rw[<-e] at h2;simp at h2
   ·obtain⟨c,r,e2,hc⟩:=fN _ _ (Nat.le_refl _) z;rw[e2] at e;rw[<-e] at h0;simp only[List.head?_cons,Option.some.injEq] at h0;rw[h0] at hc;exact hc rfl
  ·have:=eS 19 (dO 0 l) (by omega) (by omega);rw[e] at this;omega
 ·cases h
theorem lH (l:List UInt8) (hn:l≠[]) (hd:l.all az=true) {v:Nat} (h:jF l=some v):v=dO 0 l∧Lib.decDigits v=l∧v<10000000000000000000:=by
 unfold jF at h;split at h
 ·cases h
 ·rename_i hc;cases h
  refine⟨rfl,?_,?_⟩
  ·cases l with
   |nil=>exact absurd rfl hn
   |cons c r=>
    refine lp c r hd ?_;by_cases hr:r=[]
    ·exact Or.inl hr
    ·refine Or.inr fun h48=>hc (Or.inl ⟨?_,?_⟩)
     ·cases r with
      |nil=>exact absurd rfl hr
      |cons=>simp
     ·simp only[List.head?_cons,Option.some.injEq];exact UInt8.toNat_inj.1 h48
  ·have h1:=uT l 0 hd;have h2:(10:Nat)^l.length<=10^19:=Nat.pow_le_pow_right (by omega) (by omega);have h3:(10:Nat)^19=10000000000000000000:=by decide
   omega
theorem kI (c:UInt8) (r:List UInt8) (hd:(c::r).all az=true):
  (∃n,gz (c::r)=some n∧Lib.parseIntB 64 (c::r)= .ok n∧Lib.itoa n=c::r)∨
  (gz (c::r)=none∧(Lib.parseIntB 64 (c::r)= .range∨∃n,Lib.parseIntB 64 (c::r)= .ok n∧Lib.itoa n≠c::r)):=by
 have hc:az c=true:=by simp only[List.all_cons,Bool.and_eq_true] at hd;exact hd.1
 have hcd:=(bE c).1 hc;have e:Lib.parseIntB 64 (c::r)=Lib.signless (Lib.parseMag (c::r)):=by rw[Lib.parseIntB_64,Lib.atoiAll_plain c r (by omega) (by omega)]
 have en:gz (c::r)=match jF (c::r) with
   |some v=>if v<9223372036854775808 then some (v:Int) else none
   |none=>none:=by
  show(if c.toNat=45 then _ else _)=_
  rw[if_neg (by omega)]
 rw[e,en,pK _ (by simp) hd];cases hm:jF (c::r) with
 |some v=>
  obtain⟨hv,hdd,_⟩:=lH _ (by simp) hd hm;rw[<-hv];by_cases h1:v<9223372036854775808
  ·left
   refine⟨v,by simp only[if_pos h1],?_,?_⟩
   ·rw[if_pos (by omega)];unfold Lib.signless;simp only;rw[if_neg (by omega)]
   ·rw[Lib.itoa_nonneg];exact hdd
  ·right
   refine⟨by simp only[if_neg h1],Or.inl ?_⟩;by_cases h2:v<18446744073709551616
   ·rw[if_pos h2];unfold Lib.signless;simp only;rw[if_pos (by omega)]
   ·rw[if_neg h2];rfl
 |none=>
  right
  refine⟨rfl,?_⟩;by_cases h1:dO 0 (c::r)<9223372036854775808
  ·refine Or.inr ⟨((dO 0 (c::r):Nat):Int),?_,?_⟩
   ·rw[if_pos (by omega)];unfold Lib.signless;simp only;rw[if_neg (by omega)]
   ·rw[Lib.itoa_nonneg];exact lG _ (by simp) hd hm (by omega)
  ·left
   by_cases h2:dO 0 (c::r)<18446744073709551616
   ·rw[if_pos h2];unfold Lib.signless;simp only;rw[if_pos (by omega)]
   ·rw[if_neg h2];rfl
theorem kF (r:List UInt8) (hn:r≠[]) (hd:r.all az=true):
  (∃n,gz (45::r)=some n∧Lib.parseIntB 64 (45::r)= .ok n∧Lib.itoa n=45::r)∨
  (gz (45::r)=none∧(Lib.parseIntB 64 (45::r)= .range∨∃n,Lib.parseIntB 64 (45::r)= .ok n∧Lib.itoa n≠45::r)):=by
 have e:Lib.parseIntB 64 (45::r)=Lib.signed (Lib.parseMag r):=by rw[Lib.parseIntB_64,Lib.atoiAll_minus]
 have en:gz (45::r)=(if r=[48] then none else match jF r with
    |some v=>if v<=9223372036854775808 then some (-(v:Int)) else none
    |none=>none):=by
  exact kH r
 rw[e,en,pK _ hn hd];by_cases hz:r=[48]
 ·subst hz;right
  refine⟨by rw[if_pos rfl],Or.inr ⟨0,?_,?_⟩⟩
  ·have:dO 0 [48]=0:=rfl;rw[this,if_pos (by omega)];rfl
  ·show Lib.itoa ((0:Nat):Int)≠_
   rw[Lib.itoa_nonneg,cz];simp
 ·rw[if_neg hz];have hpos:Lib.decDigits (dO 0 r)=r->1<=dO 0 r:=by
   intro h;rcases Nat.eq_zero_or_pos (dO 0 r) with z|z
   ·rw[z,cz] at h;exact absurd h.symm hz
   ·exact z
  cases hm:jF r with
  |some v=>
   obtain⟨hv,hdd,_⟩:=lH _ hn hd hm;have hp:=hpos (by rw[<-hv];exact hdd);rw[<-hv] at hp ⊢;by_cases h1:v<=9223372036854775808
   ·left
    refine⟨-(v:Int),by simp only[if_pos h1],?_,?_⟩
    ·rw[if_pos (by omega)];unfold Lib.signed;simp only;rw[if_neg (by omega)]
    ·rw[Lib.itoa_neg v hp,hdd]
   ·right
    refine⟨by simp only[if_neg h1],Or.inl ?_⟩;by_cases h2:v<18446744073709551616
    ·rw[if_pos h2];unfold Lib.signed;simp only;rw[if_pos (by omega)]
    ·rw[if_neg h2];rfl
  |none=>
   right
   refine⟨rfl,?_⟩;by_cases h1:dO 0 r<=9223372036854775808
   ·refine Or.inr ⟨-((dO 0 r:Nat):Int),?_,?_⟩
    ·rw[if_pos (by omega)];unfold Lib.signed;simp only;rw[if_neg (by omega)]
    ·rcases Nat.eq_zero_or_pos (dO 0 r) with z|z
     ·rw[z];show Lib.itoa ((0:Nat):Int)≠_
      rw[Lib.itoa_nonneg,cz];simp
     ·rw[Lib.itoa_neg _ z];intro h;exact lG _ hn hd hm (by omega) (List.cons_inj_right 45|>.1 h)
   ·left
    by_cases h2:dO 0 r<18446744073709551616
    ·rw[if_pos h2];unfold Lib.signed;simp only;rw[if_pos (by omega)]
    ·rw[if_neg h2];rfl
theorem qK (n:Int) (h0: -9223372036854775808<=n) (h1:n<=9223372036854775807):gz (Lib.itoa n)=some n:=by
 have hmag:∀v:Nat,v<10000000000000000000->jF (Lib.decDigits v)=some v:=by
  intro v hv;unfold jF;rw[if_neg,iv];rintro(⟨h2,h48⟩|h19)
  ·rcases Nat.eq_zero_or_pos v with z|z
   ·rw[z,cz] at h2;simp at h2
   ·obtain⟨c,r,e,hc⟩:=fN v v (Nat.le_refl _) z;rw[e] at h48;simp only[List.head?_cons,Option.some.injEq] at h48;rw[h48] at hc;exact hc rfl
  ·have:=eS 19 v (by omega) (by omega);omega
 by_cases hn:0<=n
 ·obtain⟨k,rfl⟩:=Int.eq_ofNat_of_zero_le hn;rw[Lib.itoa_nonneg];have hall:=gl k k (Nat.le_refl _);have hm:=hmag k (by omega);cases hd:Lib.decDigits k with
  |nil=>exact absurd hd (gQ k)
  |cons c r=>
   rw[hd] at hall hm;have hc:az c=true:=by simp only[List.all_cons,Bool.and_eq_true] at hall;exact hall.1
   have hcd:=(bE c).1 hc;show(if c.toNat=45 then _ else _)=_
   rw[if_neg (by omega),hm];simp only;rw[if_pos (by omega)]
 ·obtain⟨k,rfl⟩:∃k:Nat,n= -(k:Int):=⟨n.natAbs,by omega⟩
  rw[Lib.itoa_neg k (by omega)];rw[kH,if_neg,hmag k (by omega)]
  ·simp only;rw[if_pos (by omega)]
  ·intro e;have:=iv k;rw[e] at this;have z:dO 0 [48]=0:=rfl;omega
theorem kJ (d:List UInt8) (n:Int) (h:gz d=some n): -9223372036854775808<=n∧n<=9223372036854775807:=by
 cases d with
 |nil=>cases h
 |cons c r=>
  unfold gz at h;simp only at h;split at h
  ·split at h
   ·cases h
   ·split at h
    ·split at h
     ·cases h;omega
     ·cases h
    ·cases h
  ·split at h
   ·split at h
    ·cases h;omega
    ·cases h
   ·cases h
end Go.Proofs.YtnedmonlofbahaaGreatDoor
namespace Go.Proofs.YtnedmonlofbahaaGreatDoor
open Go
set_option linter.all false
inductive TokR where
 |bad (code:Int)
 |good (sort:Int) (text:List UInt8) (num:Int) (len:Nat)
structure LTok where
 sort:Int
 text:List UInt8
 num:Int
 at_:Nat
def cU (b:UInt8):Bool:=decide (b.toNat=32∨b.toNat=9∨b.toNat=13∨b.toNat=10)
def bR (b:UInt8):Bool:=decide (b.toNat≠10)
def gv (b:UInt8):Bool:=decide (b.toNat=123∨b.toNat=125∨b.toNat=61∨b.toNat=59∨b.toNat=46)
def dz:List UInt8->TokR
 |[]=> .bad 40
 |c::r=>
  if cG c=true then
   (if 16<((c::r).takeWhile cd).length then .bad 42 else .good 1 ((c::r).takeWhile cd) 0 ((c::r).takeWhile cd).length)
  else if az c=true∨(c.toNat=45∧az (r.headD 0)=true) then
   (match gz (c::r.takeWhile az) with
   |some n=> .good 2 [] n ((r.takeWhile az).length+1)
   |none=> .bad 41)
  else if c.toNat=45∧(r.headD 0).toNat=62 then .good 3 [45,62] 0 2
  else if gv c=true then .good 3 [c] 0 1
  else .bad 40
theorem bi (c:UInt8) (r:List UInt8):dz (c::r)=
  (if cG c=true then
   (if 16<((c::r).takeWhile cd).length then .bad 42 else .good 1 ((c::r).takeWhile cd) 0 ((c::r).takeWhile cd).length)
  else if az c=true∨(c.toNat=45∧az (r.headD 0)=true) then
   (match gz (c::r.takeWhile az) with
   |some n=> .good 2 [] n ((r.takeWhile az).length+1)
   |none=> .bad 41)
  else if c.toNat=45∧(r.headD 0).toNat=62 then .good 3 [45,62] 0 2
  else if gv c=true then .good 3 [c] 0 1
  else .bad 40):=rfl
def j5:Nat->Nat->List UInt8->List LTok×Option (Int×Nat)
 |0,_,_=>([],none)
 |_+1,_,[]=>([],none)
 |f+1,p,c::r=>
  if cU c=true then j5 f (p+1) r
  else if c.toNat=35 then j5 f (p+1+(r.takeWhile bR).length) (r.drop (r.takeWhile bR).length)
  else match dz (c::r) with
   | .bad e=>([],some (e,p))
   | .good s t n k=>(⟨s,t,n,p⟩::(j5 f (p+k) ((c::r).drop k)).1,(j5 f (p+k) ((c::r).drop k)).2)
def bZ (p:Nat) (l:List UInt8):List LTok×Option (Int×Nat):=j5 l.length p l
def dU (l:List UInt8):List LTok×Int×Nat:=
 if 1048576<l.length then([],2,1048576)
 else match bZ 0 l with
  |(ts,none)=>(ts++[⟨0,[],0,l.length⟩],0,0)
  |(_,some (c,a))=>([],c,a)
theorem dp (b:UInt8):cG b=true ↔ 97<=b.toNat∧b.toNat<=122:=by
 unfold cG bc;rw[decide_eq_true_iff];omega
theorem jD (b:UInt8):cd b=true ↔ (cG b=true∨az b=true∨b.toNat=95):=by
 have e:((b.toNat:Int)=95)=(b.toNat=95):=by rw[eq_iff_iff];omega
 unfold cd aW cG az;simp only[Bool.or_eq_true,decide_eq_true_iff,e,or_assoc]
theorem bM {α:Type} (p:α->Bool) (l:List α):l.take (l.takeWhile p).length=l.takeWhile p:=by
 exact(List.prefix_iff_eq_take.1 (List.takeWhile_prefix p)).symm
theorem bF {α:Type} (p:α->Bool) (l:List α):(l.takeWhile p).length<=l.length:=(List.takeWhile_prefix p).length_le
theorem gT (r:List UInt8) (h:r.headD 0≠0):∃r',r=r.headD 0::r':=by
 cases r with
 |nil=>exact absurd rfl h
 |cons c r'=>exact⟨r',rfl⟩
theorem fY {l:List UInt8} {s n:Int} {t:List UInt8} {k:Nat} (h:dz l= .good s t n k):1<=k∧k<=l.length:=by
 cases l with
 |nil=>cases h
 |cons c r=>
  rw[bi] at h;split at h
  ·rename_i hl;split at h
   ·cases h
   ·cases h
    have hi:cd c=true:=(jD c).2 (Or.inl hl);refine⟨?_,bF _ _⟩;rw[List.takeWhile_cons,if_pos hi];simp
  ·split at h
   ·split at h
    ·cases h
     have:=bF az r;simp only[List.length_cons];omega
    ·cases h
   ·split at h
    ·rename_i hc;cases h
     obtain⟨r',e⟩:=gT r (fun e=>by rw[e] at hc;exact absurd hc.2 (by decide));rw[e];simp
    ·split at h
     ·cases h;simp
     ·cases h
theorem lE:∀(f g p:Nat) (l:List UInt8),l.length<=f->l.length<=g->j5 f p l=j5 g p l:=by
 intro f;induction f with
 |zero=>
  intro g p l h1 h2;obtain rfl:l=[]:=List.eq_nil_of_length_eq_zero (by omega);cases g<;>rfl
 |succ f ih=>
  intro g p l h1 h2;cases l with
  |nil=>cases g<;>rfl
  |cons c r=>
   cases g with
   |zero=>simp at h2
   |succ g=>
    simp only[List.length_cons] at h1 h2;unfold j5;split
    ·exact ih _ _ _ (by omega) (by omega)
    ·split
     ·exact ih _ _ _ (by rw[List.length_drop];omega) (by rw[List.length_drop];omega)
     ·split
      ·rfl
      ·rename_i s t n k ht;have:=fY ht;simp only[List.length_cons] at this;rw[ih g (p+k) _ (by rw[List.length_drop,List.length_cons];omega) (by rw[List.length_drop,List.length_cons];omega)]
theorem dV (p:Nat):bZ p []=([],none):=rfl
theorem cm (p:Nat) (c:UInt8) (r:List UInt8) (h:cU c=true):bZ p (c::r)=bZ (p+1) r:=by
 unfold bZ;simp only[List.length_cons];rw[j5,if_pos h]
theorem fB (p:Nat) (c:UInt8) (r:List UInt8) (h:c.toNat=35):bZ p (c::r)=bZ (p+1+(r.takeWhile bR).length) (r.drop (r.takeWhile bR).length):=by
 unfold bZ;simp only[List.length_cons];rw[j5,if_neg (by unfold cU;simp[h]),if_pos h];exact lE _ _ _ _ (by rw[List.length_drop];omega) (Nat.le_refl _)
theorem iq (p:Nat) (c:UInt8) (r:List UInt8) (h1:cU c=false) (h2:c.toNat≠35) {e:Int} (h:dz (c::r)= .bad e):bZ p (c::r)=([],some (e,p)):=by
 unfold bZ;simp only[List.length_cons];rw[j5,if_neg (by simp[h1]),if_neg h2,h]
theorem ej (p:Nat) (c:UInt8) (r:List UInt8) (h1:cU c=false) (h2:c.toNat≠35) {s n:Int} {t:List UInt8} {k:Nat} (h:dz (c::r)= .good s t n k):
  bZ p (c::r)=(⟨s,t,n,p⟩::(bZ (p+k) ((c::r).drop k)).1,(bZ (p+k) ((c::r).drop k)).2):=by
 have hk:=fY h;simp only[List.length_cons] at hk;unfold bZ;simp only[List.length_cons];rw[j5,if_neg (by simp[h1]),if_neg h2,h];simp only;rw[lE r.length ((c::r).drop k).length (p+k) _ (by rw[List.length_drop,List.length_cons];omega) (Nat.le_refl _)]
def LTok.spelt (t:LTok):List UInt8:=if t.sort=2 then Lib.itoa t.num else t.text
theorem gp {α:Type} (p:α->Bool):∀l:List α,(l.takeWhile p).all p=true:=by
 intro l;induction l with
 |nil=>rfl
 |cons c r ih=>
  rw[List.takeWhile_cons];split
  ·rename_i h;simp only[List.all_cons,h,ih,Bool.and_self]
  ·rfl
theorem qO {c:UInt8} {r:List UInt8} {n:Int} (hc:az c=true∨(c.toNat=45∧az (r.headD 0)=true)) (h:gz (c::r.takeWhile az)=some n):Lib.itoa n=c::r.takeWhile az:=by
 have ha:=gp az r;rcases hc with hc|⟨hc,hd⟩
 ·rcases kI c (r.takeWhile az) (by simp only[List.all_cons,hc,ha,Bool.and_self]) with⟨m,h1,_,h2⟩|⟨h1,_⟩
  ·rw[h1] at h;cases h;exact h2
  ·rw[h1] at h;cases h
 ·obtain rfl:c=45:=UInt8.toNat_inj.1 hc;have hn:r.takeWhile az≠[]:=by
   obtain⟨r',e⟩:=gT r (fun e=>by rw[e] at hd;exact absurd hd (by decide));rw[e,List.takeWhile_cons];rw[if_pos hd];simp
  rcases kF (r.takeWhile az) hn ha with⟨m,h1,_,h2⟩|⟨h1,_⟩
  ·rw[h1] at h;cases h;exact h2
  ·rw[h1] at h;cases h
theorem pu {l:List UInt8} {s n:Int} {t:List UInt8} {k:Nat} (h:dz l= .good s t n k):(LTok.mk s t n 0).spelt=l.take k:=by
 cases l with
 |nil=>cases h
 |cons c r=>
  rw[bi] at h;split at h
  ·split at h
   ·cases h
   ·cases h
    exact(bM cd (c::r)).symm
  ·split at h
   ·rename_i hc;split at h
    ·rename_i m hm;cases h
     show Lib.itoa n=_
     rw[qO hc hm,List.take_succ_cons,bM]
    ·cases h
   ·split at h
    ·rename_i hc;cases h
     obtain⟨r',e⟩:=gT r (fun e=>by rw[e] at hc;exact absurd hc.2 (by decide));have h45:c=45:=UInt8.toNat_inj.1 hc.1;have h62:r.headD 0=62:=UInt8.toNat_inj.1 hc.2;rw[e,h45,h62];rfl
    ·split at h
     ·cases h;rfl
     ·cases h
end Go.Proofs.YtnedmonlofbahaaGreatDoor
namespace Go.Proofs.YtnedmonlofbahaaGreatDoor
open Go Go.RowKit Go.Joins
set_option linter.all false
theorem sL {w:World} {B e size n:Nat} {v:Value} {xs:List Value} (h:w.ownsRow B e size v n xs) {k:Nat} (hk:v.ownBlock=some k):∃cur,w.heap[k]? =some (.cells cur e (0,0)):=by
 rcases h.2 with⟨h0,h1⟩|⟨g,cap,cur,rfl,hb,hg,rest⟩
 ·rw[h0] at hk;simp[Value.ownBlock] at hk
 ·simp[Value.ownBlock] at hk;subst hk;exact⟨cur,hg⟩
theorem vu {a:Option Addr} {n c k:Nat} (h:blk a k):(Value.slice a n c).ownBlock=some k:=by
 obtain⟨x,rfl,rfl⟩:=h;rfl
theorem oG {S:Nat->Prop} {w w':World} {B e size n:Nat} {v:Value} {xs:List Value} (h:w.ownsRow B e size v n xs) (k:Keeps S w w') (hS:∀g,S g->∃cur t fr,w.heap[g]? =some (.cells cur t fr)∧t≠e):w'.ownsRow B e size v n xs:=
 k.owns h (fun g hg hs=>by
  obtain⟨c1,h1⟩:=sL h hg;obtain⟨c2,t,fr,h2,hne⟩:=hS g hs;rw[h1] at h2;cases h2;exact hne rfl)
def ct (t:LTok):List Value:=[.int .u8 t.sort,.string ⟨t.text.toArray⟩,I t.num,I t.at_]
theorem jw (t:LTok):(ct t).length=4:=rfl
theorem ur:(Tryz.prog.info? 98).map (fun i=>(i.zero,i.size,i.bytes))=some (some (.agg #[.int .u8 0,.string ⟨#[]⟩,.int .i64 0,.int .i64 0]),4,40):=by kernel_rfl
structure Rd (w0 w:World) (P:Nat) (s:ByteArray) (k:Nat) (ts:List LTok):Prop where
 nw:New w0 w
 hP:w0.heap.size<=P
 own:∃a c,w.heap[P]? =some (.cells #[.string s,I k,.slice a ts.length c] 156 (0,0))∧w.ownsRow w0.heap.size 98 4 (.slice a ts.length c) ts.length (ts.flatMap ct)
theorem Rd.new {w0 w w':World} {P:Nat} {s:ByteArray} {k:Nat} {ts:List LTok} (h:Rd w0 w P s k ts) (n:New w w'):Rd w0 w' P s k ts:=by
 obtain⟨nw,hP,a,c,hb,ho⟩:=h;exact⟨nw.trans n,hP,a,c,Keeps.heap n hb (fun h=>h),n.owns ho⟩
theorem Rd.cells {w0 w:World} {P:Nat} {s:ByteArray} {k:Nat} {ts:List LTok} (h:Rd w0 w P s k ts):
  w.cell? ⟨P,0,none⟩=some (.string s)∧w.cell? ⟨P,1,none⟩=some (I k)∧w.frozen? ⟨P,1,none⟩=false∧w.frozen? ⟨P,2,none⟩=false∧P<w.heap.size:=by
 obtain⟨nw,hP,a,c,hb,ho⟩:=h;refine⟨?_,?_,unfrozen_of_block hb 1,unfrozen_of_block hb 2,(Array.getElem?_eq_some_iff.1 hb).1⟩
 ·rw[cell_of_block hb 0];simp
 ·rw[cell_of_block hb 1];simp
theorem Rd.go {w0 w:World} {P:Nat} {s:ByteArray} {k:Nat} {ts:List LTok} (h:Rd w0 w P s k ts) (j:Nat):Rd w0 (w.setCell ⟨P,1,none⟩ (I j)) P s j ts:=by
 obtain⟨nw,hP,a,c,hb,ho⟩:=h;have ks:Keeps (fun k=>k=P) w (w.setCell ⟨P,1,none⟩ (I j)):=Keeps.setCell w _ _ rfl;refine⟨New.keeps nw ks (fun i hi hx=>by omega),hP,a,c,?_,oG ho ks (fun g hg=>⟨_,_,_,hg▸hb,by decide⟩)⟩;rw[block_setCell hb];simp
theorem Rd.add {w0 w w3:World} {P:Nat} {s:ByteArray} {k:Nat} {ts:List LTok} (t:LTok) (nw:New w0 w) (hP:w0.heap.size<=P) {a a':Option Addr} {c c':Nat}
  (hb:w.heap[P]? =some (.cells #[.string s,I k,.slice a ts.length c] 156 (0,0))) (ho0:w.ownsRow w0.heap.size 98 4 (.slice a ts.length c) ts.length (ts.flatMap ct))
  (ho:w3.ownsRow w0.heap.size 98 4 (.slice a' (ts.length+1) c') (ts.length+1) (ts.flatMap ct++ct t)) (hk:Keeps (blk a) w w3):
  (w3.frozen? ⟨P,2,none⟩=false∧P<w3.heap.size∧w3.cell? ⟨P,2,none⟩=some (.slice a ts.length c))∧Rd w0 (w3.setCell ⟨P,2,none⟩ (.slice a' (ts.length+1) c')) P s k (ts++[t]):=by
 have htag:∀g,blk a g->∃cur,w.heap[g]? =some (.cells cur 98 (0,0)):=fun g hg=>sL ho0 (vu hg)
 have hP3:=hk.heap hb (fun hx=>by obtain⟨cur,hc⟩:=htag _ hx;rw[hb] at hc;simp at hc);have ks:Keeps (fun k=>k=P) w3 (w3.setCell ⟨P,2,none⟩ (.slice a' (ts.length+1) c')):=Keeps.setCell w3 _ _ rfl;have hnw:New w0 w3:=New.keeps nw hk (fun i hi hx=>by have:=(an ho0 hx).1;omega);refine⟨⟨unfrozen_of_block hP3 2,(Array.getElem?_eq_some_iff.1 hP3).1,?_⟩,New.keeps hnw ks (fun i hi hx=>by omega),hP,a',c',?_,?_⟩
 ·rw[cell_of_block hP3 2];rfl
 ·rw[block_setCell hP3];simp
 ·have:=oG ho ks (fun g hg=>⟨_,_,_,hg▸hP3,by decide⟩);simpa using this
def af (s:ByteArray) (k:Nat):UInt8:=(s.data.toList.drop k).headD 0
theorem jz (s:ByteArray) (k:Nat) (h:k<s.size):af s k=s[k]:=by
 have hk:k<s.data.toList.length:=by simpa using h
 unfold af;rw[List.drop_eq_getElem_cons hk];simp;rfl
theorem iV (s:ByteArray) (k:Nat) (h:¬k<s.size):af s k=0:=by
 have hk:s.data.toList.length<=k:=by have:s.data.toList.length=s.size:=by simp
                                     omega
 unfold af;rw[List.drop_eq_nil_of_le hk];rfl
theorem vq (s:ByteArray) (k:Nat) (h:k<s.size):s.data.toList.drop k=s[k]::s.data.toList.drop (k+1):=by
 have hk:k<s.data.toList.length:=by simpa using h
 rw[List.drop_eq_getElem_cons hk];simp;rfl
theorem dt (p:UInt8->Bool):∀(l:List UInt8) (j:Nat),(l.take j).all p=true->(∀b,l[j]? =some b->p b=false)->j<=l.length->(l.takeWhile p).length=j:=by
 intro l;induction l with
 |nil=>intro j _ _ hk;simp at hk;subst hk;rfl
 |cons b r ih=>
  intro j ha hb hk;rw[List.takeWhile_cons];cases j with
  |zero=>rw[if_neg (by rw[hb b rfl];simp)];rfl
  |succ j=>
   simp only[List.take_succ_cons,List.all_cons,Bool.and_eq_true] at ha;rw[if_pos ha.1,List.length_cons,ih j ha.2 (fun c hc=>hb c (by simpa using hc)) (by simpa using hk)]
theorem rX (w:World) (b:UInt8):Calls Tryz.prog 128 #[.int .u8 (b.toNat:Int)] w fun e w'=>e= .returned (.bool (bR b))∧w'=w:=by
 have e:bR b= !((b.toNat:Int)==10):=by
  unfold bR;by_cases h:b.toNat=10
  ·rw[h];rfl
  ·rw[decide_eq_true h];have:((b.toNat:Int)==10)=false:=by simpa using fun h2:(b.toNat:Int)=10=>h (by omega)
   rw[this];rfl
 rw[e];obtain⟨x,hx⟩:∃x:Int,(b.toNat:Int)=x:=⟨_,rfl⟩
 rw[hx];clear e hx;go_enter Tryz.func128,Tryz.ntmps128;go_wp2_with fail;go_ret
 exact⟨rfl,rfl⟩
theorem oe (w:World) (b:UInt8):Calls Tryz.prog 127 #[.int .u8 (b.toNat:Int)] w fun e w'=>e= .returned (.bool (cU b))∧w'=w:=by
 have hx:∀k:Nat,((b.toNat:Int)==(k:Int))=decide (b.toNat=k):=by
  intro k;by_cases h:b.toNat=k
  ·rw[h];simp
  ·rw[decide_eq_false h];simpa using fun h2:(b.toNat:Int)=(k:Int)=>h (by omega)
 have e1:((b.toNat:Int)==32)=decide (b.toNat=32):=hx 32;have e2:((b.toNat:Int)==9)=decide (b.toNat=9):=hx 9;have e3:((b.toNat:Int)==13)=decide (b.toNat=13):=hx 13;have e4:((b.toNat:Int)==10)=decide (b.toNat=10):=hx 10;by_cases h1:b.toNat=32
 ·have e:cU b=true:=by unfold cU;simp[h1]
  rw[decide_eq_true h1] at e1;rw[e];clear e h1 hx e2 e3 e4;obtain⟨x,hx⟩:∃x:Int,(b.toNat:Int)=x:=⟨_,rfl⟩
  rw[hx] at e1 ⊢;clear hx;go_enter Tryz.func127,Tryz.ntmps127;go_wp2_with fail;go_ret
  exact⟨rfl,rfl⟩
 ·rw[decide_eq_false h1] at e1;by_cases h2:b.toNat=9
  ·have e:cU b=true:=by unfold cU;simp[h2]
   rw[decide_eq_true h2] at e2;rw[e];clear e h1 h2 hx e3 e4;obtain⟨x,hx⟩:∃x:Int,(b.toNat:Int)=x:=⟨_,rfl⟩
   rw[hx] at e1 e2 ⊢;clear hx;go_enter Tryz.func127,Tryz.ntmps127;go_wp2_with fail;go_ret
   exact⟨rfl,rfl⟩
  ·rw[decide_eq_false h2] at e2;by_cases h3:b.toNat=13
   ·have e:cU b=true:=by unfold cU;simp[h3]
    rw[decide_eq_true h3] at e3;rw[e];clear e h1 h2 h3 hx e4;obtain⟨x,hx⟩:∃x:Int,(b.toNat:Int)=x:=⟨_,rfl⟩
    rw[hx] at e1 e2 e3 ⊢;clear hx;go_enter Tryz.func127,Tryz.ntmps127;go_wp2_with fail;go_ret
    exact⟨rfl,rfl⟩
   ·rw[decide_eq_false h3] at e3;have e:cU b=decide (b.toNat=10):=by unfold cU;simp[h1,h2,h3]
    rw[e,<-e4];clear e h1 h2 h3 hx e4;obtain⟨x,hx⟩:∃x:Int,(b.toNat:Int)=x:=⟨_,rfl⟩
    rw[hx] at e1 e2 e3 ⊢;clear hx;go_enter Tryz.func127,Tryz.ntmps127;go_wp2_with fail;go_ret
    exact⟨rfl,rfl⟩
theorem gB (w0 w:World) (P:Nat) (s:ByteArray) (k:Nat) (ts:List LTok) (h:Rd w0 w P s k ts) (hs:s.size<=9223372036854775807):
  Calls Tryz.prog 89 #[.pointer (some ⟨P,0,none⟩)] w fun e w'=>e= .returned (.bool (decide (k<s.size)))∧New w w':=by
 obtain⟨c0,c1,_,_,hB⟩:=h.cells;clear h;go_enter Tryz.func89,Tryz.ntmps89;go_wp2_with fail;go_quiet (fail)
 go_wp2_with fail;go_ret
 exact⟨rfl,by first|exact(New.refl w).drewN _|exact New.refl w⟩
theorem bv (w0 w:World) (P:Nat) (s:ByteArray) (k:Nat) (ts:List LTok) (h:Rd w0 w P s k ts) (hk:k<=s.size) (hs:s.size<=9223372036854775806):
  Calls Tryz.prog 111 #[.pointer (some ⟨P,0,none⟩),I 0] w fun e w'=>e= .returned (.int .u8 ((af s k).toNat:Int))∧New w w':=by
 obtain⟨c0,c1,_,_,hB⟩:=h.cells;clear h;by_cases h0:k<s.size
 ·rw[jz s _ h0];have hjI:(k:Int)<(s.size:Int):=by omega
  have d1:decide ((s.size:Int)<=(k:Int))=false:=decide_eq_false (by omega);go_enter Tryz.func111,Tryz.ntmps111;go_wp2_with fail;go_quiet (fail)
  go_wp2_with fail;go_quiet (fail)
  go_wp2_with fail;go_ret
  exact⟨rfl,by first|exact((New.refl w).drewN _).drewN _|exact(New.refl w).drewN _⟩
 ·rw[iV s _ h0];have d1:decide ((s.size:Int)<=(k:Int))=true:=decide_eq_true (by omega);go_enter Tryz.func111,Tryz.ntmps111;go_wp2_with fail;go_quiet (fail)
  go_wp2_with fail;go_ret
  exact⟨rfl,by first|exact(New.refl w).drewN _|exact New.refl w⟩
theorem ja (w0 w:World) (P:Nat) (s:ByteArray) (k:Nat) (ts:List LTok) (h:Rd w0 w P s k ts) (hk:k<=s.size) (hs:s.size<=9223372036854775806):
  Calls Tryz.prog 111 #[.pointer (some ⟨P,0,none⟩),I 1] w fun e w'=>e= .returned (.int .u8 ((af s (k+1)).toNat:Int))∧New w w':=by
 obtain⟨c0,c1,_,_,hB⟩:=h.cells;clear h;by_cases h0:k+1<s.size
 ·obtain⟨j,hj⟩:∃j:Nat,k+1=j:=⟨_,rfl⟩
  have hwr:IntKind.i64.wrap ((k:Int)+1)=(j:Int):=by rw[IntWalk.i64_in _ (by omega)];omega
  have hj2:j<=9223372036854775807:=by omega
  rw[hj] at h0 ⊢;rw[jz s j h0];have hjI:(j:Int)<(s.size:Int):=by omega
  have d1:decide ((s.size:Int)<=(j:Int))=false:=decide_eq_false (by omega);clear hk hj;go_enter Tryz.func111,Tryz.ntmps111;go_wp2_with fail;go_quiet (fail)
  go_wp2_with fail;go_quiet (fail)
  go_wp2_with fail;go_ret
  exact⟨rfl,by first|exact((New.refl w).drewN _).drewN _|exact(New.refl w).drewN _⟩
 ·rw[iV s _ h0];have d1:decide ((s.size:Int)<=(k:Int)+1)=true:=decide_eq_true (by omega);go_enter Tryz.func111,Tryz.ntmps111;go_wp2_with fail;go_quiet (fail)
  go_wp2_with fail;go_ret
  exact⟨rfl,by first|exact(New.refl w).drewN _|exact New.refl w⟩
set_option maxRecDepth 100000 in
set_option maxHeartbeats 8000000 in
theorem kY (w0 w:World) (P:Nat) (s:ByteArray) (k0:Nat) (ts:List LTok) (h:Rd w0 w P s k0 ts) (hk0:k0<=s.size) (hs:s.size<=9223372036854775806):
  Calls Tryz.prog 112 #[.pointer (some ⟨P,0,none⟩),.func (Fn.func 113) #[] #[]] w fun e w'=>e= .returned (.string (s.extract k0 (k0+((s.data.toList.drop k0).takeWhile cd).length)))∧Rd w0 w' P s (k0+((s.data.toList.drop k0).takeWhile cd).length) ts:=by
 obtain⟨L,hL⟩:∃L,s.data.toList.drop k0=L:=⟨_,rfl⟩
 have hlen:L.length=s.size-k0:=by rw[<-hL,List.length_drop];simp
 have hat:∀k (hk:k<s.size),k0<=k->L[k-k0]? =some s[k]:=fun k hk h0=>by
  rw[<-hL,List.getElem?_drop,show k0+(k-k0)=k by omega,Array.getElem?_toList];exact Array.getElem?_eq_getElem hk
 rw[hL];have HL:=Lib.hid hlen;have HAT:=Lib.hid hat;clear hL hlen hat;obtain⟨c0,c1,z1,_,hB⟩:=h.cells;go_enter Tryz.func112,Tryz.ntmps112;go_wp2_with fail;clear c0 c1 z1;go_loopw [] (fun wr=>∃k:Nat,k0<=k∧k<=s.size∧Hid ((L.take (k-k0)).all cd=true)∧Rd w0 wr P s k ts) (fun wr=>s.size-du wr P)
 case atStart=>exact⟨k0,Nat.le_refl _,hk0,Lib.hid (by rw[Nat.sub_self];rfl),h⟩
 case round=>
  clear h;obtain⟨k,hk1,hk,HA,hR⟩:=hrel;obtain⟨c0,c1,z1,_,hBr⟩:=hR.cells;have HY:Hid (du wr P=k):=Lib.hid (by unfold du;rw[c1];simp);have hm:=fun W (n:New wr W)=>gB w0 W P s k ts (hR.new n) (by omega)
  by_cases hk2:k<s.size
  ·rw[decide_eq_true hk2] at hm;have hi:=fun W=>mP W (s[k].toNat:Int)
   have h255:s[k].toNat<256:=s[k].toNat_lt;have hat:=HAT.out k hk2 hk1;have hkI:(k:Int)<(s.size:Int):=by omega
   have hfold:aW (s[k].toNat:Int)=cd s[k]:=rfl;rw[hfold] at hi;clear hfold;cases e2:cd s[k] with
   |true=>
    rw[e2] at hi;have HA2:Hid ((L.take (k+1-k0)).all cd=true):=Lib.hid (by
     rw[show k+1-k0=(k-k0)+1 by omega,List.take_succ,hat,List.all_append,HA.out];simp[e2])
    clear e2 hat;go_wp2_with fail;go_region_held3 (fun w'=>w'.cell? ⟨P,0,none⟩=some (.string s)∧w'.cell? ⟨P,1,none⟩=some (I (k:Int))∧New wr w')
     ((refine⟨New.cell (w:=wr) ?_ c0,New.cell (w:=wr) ?_ c1,?_⟩<;>(repeat(first|exact New.refl wr|refine New.drew ?_|exact hN2|refine New.trans ?_ hN2))))
     ((first|(go_at_call 89;refine(hm _ ((New.refl wr).drew)).mono ?_;rintro e w2 ⟨rfl,hN2⟩)|(go_at_call 113;refine(hi _).mono ?_;rintro e w3 ⟨rfl,rfl⟩)))
    rename_i hSX;obtain⟨e0,e1,hNX⟩:=hSX;have hR3:=hR.new hNX;obtain⟨_,_,y1,_,hB3⟩:=hR3.cells;have HR4:=Lib.hid (hR3.go (k+1));have hwr:IntKind.i64.wrap ((k:Int)+1)=((k+1:Nat):Int):=by rw[IntWalk.i64_in _ (by omega)];omega
    clear hR hR3 c0 c1 z1;simp only[Exit.then];go_wp2_with fail;go_roundw
    case rel=>exact⟨k+1,by omega,by omega,HA2,HR4.out⟩
    case measure=>
     have hx:du (w3.setCell ⟨P,1,none⟩ (I ((k+1:Nat):Int))) P=k+1:=by
      obtain⟨_,d1,_⟩:=HR4.out.cells;unfold du;rw[d1];simp
     first
     |(rw[hx,HY.out];omega)
     |(rw[Int.natCast_add] at hx;simp at hx ⊢;rw[hx,HY.out];omega)
   |false=>
    rw[e2] at hi;have HSP:Hid ((L.takeWhile cd).length=k-k0):=Lib.hid (dt _ _ _ HA.out (fun b hb=>by rw[hat] at hb;cases hb;exact e2) (by rw[HL.out];omega));clear e2 hat;go_wp2_with fail;go_region_held3 (fun w'=>w'.cell? ⟨P,0,none⟩=some (.string s)∧w'.cell? ⟨P,1,none⟩=some (I (k:Int))∧New wr w')
     ((refine⟨New.cell (w:=wr) ?_ c0,New.cell (w:=wr) ?_ c1,?_⟩<;>(repeat(first|exact New.refl wr|refine New.drew ?_|exact hN2|refine New.trans ?_ hN2))))
     ((first|(go_at_call 89;refine(hm _ ((New.refl wr).drew)).mono ?_;rintro e w2 ⟨rfl,hN2⟩)|(go_at_call 113;refine(hi _).mono ?_;rintro e w3 ⟨rfl,rfl⟩)))
    rename_i hSX;obtain⟨e0,e1,hNX⟩:=hSX;have HRX:=Lib.hid (hR.new hNX);clear c0 c1 hR;have hkI2:(k0:Int)<=(k:Int):=by omega
    simp only[Exit.then];go_wp2_with fail;go_quiet (fail)
    go_wp2_with fail;go_ret
    rw[HSP.out,show k0+(k-k0)=k by omega];exact⟨by rfl,by first|exact HRX.out.new (Keeps.drewN _ _)|exact HRX.out⟩
  ·rw[decide_eq_false hk2] at hm;have HSP:Hid ((L.takeWhile cd).length=k-k0):=Lib.hid (dt _ _ _ HA.out (fun b hb=>by rw[List.getElem?_eq_none (by rw[HL.out];omega)] at hb;cases hb) (by rw[HL.out];omega));have hkI2:(k0:Int)<=(k:Int):=by omega
   go_wp2_with fail;have hS0:(fun w':World=>w'.cell? ⟨P,0,none⟩=some (.string s)∧w'.cell? ⟨P,1,none⟩=some (I (k:Int))) wr.drew:=⟨New.cell ((New.refl wr).drew) c0,New.cell ((New.refl wr).drew) c1⟩
   refine ar (fun w':World=>w'.cell? ⟨P,0,none⟩=some (.string s)∧w'.cell? ⟨P,1,none⟩=some (I (k:Int))) [] (by kernel_rfl) hS0 ?_;refine ae 0 hS0 ?_;refine ie 1 (by kernel_rfl) ?_;intro oi ho;cases ho;intro K hK
   (try simp only[Act.put,List.getElem_toArray,List.getElem_cons_succ,List.getElem_cons_zero,sLs])
   go_simp;refine(hm _ ((New.refl wr).drew)).mono ?_;rintro e w2 ⟨rfl,k2⟩;have hS1:(fun w':World=>w'.cell? ⟨P,0,none⟩=some (.string s)∧w'.cell? ⟨P,1,none⟩=some (I (k:Int))) w2:=⟨New.cell k2 hS0.1,New.cell k2 hS0.2⟩
   refine hK _ _ (fun _=>hS1) ?_;clear hK K;refine ae 2 hS1 ?_;refine aR 3 hS1 ?_;refine aR 4 hS1 ?_;refine aR 5 hS1 ?_;refine aR 6 hS1 ?_;refine aR 7 hS1 ?_;refine aR 8 hS1 ?_;refine aR 9 hS1 ?_;refine aR 10 hS1 ?_;refine aR 11 hS1 ?_;refine aR 12 hS1 ?_;refine aR 13 hS1 ?_;refine ae 14 hS1 ?_;refine aB (by kernel_rfl) ?_;(try simp only[Act.put,List.getElem_toArray,List.getElem_cons_succ,List.getElem_cons_zero,sLs])
   have e0:=hS1.1;have e1:=hS1.2;have HRX:=Lib.hid (hR.new (((New.refl wr).drew).trans k2));clear hS0 hS1 c0 c1 hR k2 hm;simp only[Exit.then];go_wp2_with fail;go_quiet (fail)
   go_wp2_with fail;go_ret
   rw[HSP.out,show k0+(k-k0)=k by omega];exact⟨by rfl,by first|exact HRX.out.new (Keeps.drewN _ _)|exact HRX.out⟩
set_option maxRecDepth 100000 in
set_option maxHeartbeats 8000000 in
theorem e9 (w0 w:World) (P:Nat) (s:ByteArray) (k0:Nat) (ts:List LTok) (h:Rd w0 w P s k0 ts) (hk0:k0<=s.size) (hs:s.size<=9223372036854775806):
  Calls Tryz.prog 112 #[.pointer (some ⟨P,0,none⟩),.func (Fn.func 129) #[] #[]] w fun e w'=>e= .returned (.string (s.extract k0 (k0+((s.data.toList.drop k0).takeWhile az).length)))∧Rd w0 w' P s (k0+((s.data.toList.drop k0).takeWhile az).length) ts:=by
 obtain⟨L,hL⟩:∃L,s.data.toList.drop k0=L:=⟨_,rfl⟩
 have hlen:L.length=s.size-k0:=by rw[<-hL,List.length_drop];simp
 have hat:∀k (hk:k<s.size),k0<=k->L[k-k0]? =some s[k]:=fun k hk h0=>by
  rw[<-hL,List.getElem?_drop,show k0+(k-k0)=k by omega,Array.getElem?_toList];exact Array.getElem?_eq_getElem hk
 rw[hL];have HL:=Lib.hid hlen;have HAT:=Lib.hid hat;clear hL hlen hat;obtain⟨c0,c1,z1,_,hB⟩:=h.cells;go_enter Tryz.func112,Tryz.ntmps112;go_wp2_with fail;clear c0 c1 z1;go_loopw [] (fun wr=>∃k:Nat,k0<=k∧k<=s.size∧Hid ((L.take (k-k0)).all az=true)∧Rd w0 wr P s k ts) (fun wr=>s.size-du wr P)
 case atStart=>exact⟨k0,Nat.le_refl _,hk0,Lib.hid (by rw[Nat.sub_self];rfl),h⟩
 case round=>
  clear h;obtain⟨k,hk1,hk,HA,hR⟩:=hrel;obtain⟨c0,c1,z1,_,hBr⟩:=hR.cells;have HY:Hid (du wr P=k):=Lib.hid (by unfold du;rw[c1];simp);have hm:=fun W (n:New wr W)=>gB w0 W P s k ts (hR.new n) (by omega)
  by_cases hk2:k<s.size
  ·rw[decide_eq_true hk2] at hm;have hi:=fun W=>cx W (s[k].toNat:Int)
   have h255:s[k].toNat<256:=s[k].toNat_lt;have hat:=HAT.out k hk2 hk1;have hkI:(k:Int)<(s.size:Int):=by omega
   have hfold:bI (s[k].toNat:Int)=az s[k]:=rfl;rw[hfold] at hi;clear hfold;cases e2:az s[k] with
   |true=>
    rw[e2] at hi;have HA2:Hid ((L.take (k+1-k0)).all az=true):=Lib.hid (by
     rw[show k+1-k0=(k-k0)+1 by omega,List.take_succ,hat,List.all_append,HA.out];simp[e2])
    clear e2 hat;go_wp2_with fail;go_region_held3 (fun w'=>w'.cell? ⟨P,0,none⟩=some (.string s)∧w'.cell? ⟨P,1,none⟩=some (I (k:Int))∧New wr w')
     ((refine⟨New.cell (w:=wr) ?_ c0,New.cell (w:=wr) ?_ c1,?_⟩<;>(repeat(first|exact New.refl wr|refine New.drew ?_|exact hN2|refine New.trans ?_ hN2))))
     ((first|(go_at_call 89;refine(hm _ ((New.refl wr).drew)).mono ?_;rintro e w2 ⟨rfl,hN2⟩)|(go_at_call 129;refine(hi _).mono ?_;rintro e w3 ⟨rfl,rfl⟩)))
    rename_i hSX;obtain⟨e0,e1,hNX⟩:=hSX;have hR3:=hR.new hNX;obtain⟨_,_,y1,_,hB3⟩:=hR3.cells;have HR4:=Lib.hid (hR3.go (k+1));have hwr:IntKind.i64.wrap ((k:Int)+1)=((k+1:Nat):Int):=by rw[IntWalk.i64_in _ (by omega)];omega
    clear hR hR3 c0 c1 z1;simp only[Exit.then];go_wp2_with fail;go_roundw
    case rel=>exact⟨k+1,by omega,by omega,HA2,HR4.out⟩
    case measure=>
     have hx:du (w3.setCell ⟨P,1,none⟩ (I ((k+1:Nat):Int))) P=k+1:=by
      obtain⟨_,d1,_⟩:=HR4.out.cells;unfold du;rw[d1];simp
     first
     |(rw[hx,HY.out];omega)
     |(rw[Int.natCast_add] at hx;simp at hx ⊢;rw[hx,HY.out];omega)
   |false=>
    rw[e2] at hi;have HSP:Hid ((L.takeWhile az).length=k-k0):=Lib.hid (dt _ _ _ HA.out (fun b hb=>by rw[hat] at hb;cases hb;exact e2) (by rw[HL.out];omega));clear e2 hat;go_wp2_with fail;go_region_held3 (fun w'=>w'.cell? ⟨P,0,none⟩=some (.string s)∧w'.cell? ⟨P,1,none⟩=some (I (k:Int))∧New wr w')
     ((refine⟨New.cell (w:=wr) ?_ c0,New.cell (w:=wr) ?_ c1,?_⟩<;>(repeat(first|exact New.refl wr|refine New.drew ?_|exact hN2|refine New.trans ?_ hN2))))
     ((first|(go_at_call 89;refine(hm _ ((New.refl wr).drew)).mono ?_;rintro e w2 ⟨rfl,hN2⟩)|(go_at_call 129;refine(hi _).mono ?_;rintro e w3 ⟨rfl,rfl⟩)))
    rename_i hSX;obtain⟨e0,e1,hNX⟩:=hSX;have HRX:=Lib.hid (hR.new hNX);clear c0 c1 hR;have hkI2:(k0:Int)<=(k:Int):=by omega
    simp only[Exit.then];go_wp2_with fail;go_quiet (fail)
    go_wp2_with fail;go_ret
    rw[HSP.out,show k0+(k-k0)=k by omega];exact⟨by rfl,by first|exact HRX.out.new (Keeps.drewN _ _)|exact HRX.out⟩
  ·rw[decide_eq_false hk2] at hm;have HSP:Hid ((L.takeWhile az).length=k-k0):=Lib.hid (dt _ _ _ HA.out (fun b hb=>by rw[List.getElem?_eq_none (by rw[HL.out];omega)] at hb;cases hb) (by rw[HL.out];omega));have hkI2:(k0:Int)<=(k:Int):=by omega
   go_wp2_with fail;have hS0:(fun w':World=>w'.cell? ⟨P,0,none⟩=some (.string s)∧w'.cell? ⟨P,1,none⟩=some (I (k:Int))) wr.drew:=⟨New.cell ((New.refl wr).drew) c0,New.cell ((New.refl wr).drew) c1⟩
   refine ar (fun w':World=>w'.cell? ⟨P,0,none⟩=some (.string s)∧w'.cell? ⟨P,1,none⟩=some (I (k:Int))) [] (by kernel_rfl) hS0 ?_;refine ae 0 hS0 ?_;refine ie 1 (by kernel_rfl) ?_;intro oi ho;cases ho;intro K hK
   (try simp only[Act.put,List.getElem_toArray,List.getElem_cons_succ,List.getElem_cons_zero,sLs])
   go_simp;refine(hm _ ((New.refl wr).drew)).mono ?_;rintro e w2 ⟨rfl,k2⟩;have hS1:(fun w':World=>w'.cell? ⟨P,0,none⟩=some (.string s)∧w'.cell? ⟨P,1,none⟩=some (I (k:Int))) w2:=⟨New.cell k2 hS0.1,New.cell k2 hS0.2⟩
   refine hK _ _ (fun _=>hS1) ?_;clear hK K;refine ae 2 hS1 ?_;refine aR 3 hS1 ?_;refine aR 4 hS1 ?_;refine aR 5 hS1 ?_;refine aR 6 hS1 ?_;refine aR 7 hS1 ?_;refine aR 8 hS1 ?_;refine aR 9 hS1 ?_;refine aR 10 hS1 ?_;refine aR 11 hS1 ?_;refine aR 12 hS1 ?_;refine aR 13 hS1 ?_;refine ae 14 hS1 ?_;refine aB (by kernel_rfl) ?_;(try simp only[Act.put,List.getElem_toArray,List.getElem_cons_succ,List.getElem_cons_zero,sLs])
   have e0:=hS1.1;have e1:=hS1.2;have HRX:=Lib.hid (hR.new (((New.refl wr).drew).trans k2));clear hS0 hS1 c0 c1 hR k2 hm;simp only[Exit.then];go_wp2_with fail;go_quiet (fail)
   go_wp2_with fail;go_ret
   rw[HSP.out,show k0+(k-k0)=k by omega];exact⟨by rfl,by first|exact HRX.out.new (Keeps.drewN _ _)|exact HRX.out⟩
set_option maxRecDepth 100000 in
set_option maxHeartbeats 8000000 in
theorem o9 (w0 w:World) (P:Nat) (s:ByteArray) (k0:Nat) (ts:List LTok) (h:Rd w0 w P s k0 ts) (hk0:k0<=s.size) (hs:s.size<=9223372036854775806):
  Calls Tryz.prog 112 #[.pointer (some ⟨P,0,none⟩),.func (Fn.func 128) #[] #[]] w fun e w'=>e= .returned (.string (s.extract k0 (k0+((s.data.toList.drop k0).takeWhile bR).length)))∧Rd w0 w' P s (k0+((s.data.toList.drop k0).takeWhile bR).length) ts:=by
 obtain⟨L,hL⟩:∃L,s.data.toList.drop k0=L:=⟨_,rfl⟩
 have hlen:L.length=s.size-k0:=by rw[<-hL,List.length_drop];simp
 have hat:∀k (hk:k<s.size),k0<=k->L[k-k0]? =some s[k]:=fun k hk h0=>by
  rw[<-hL,List.getElem?_drop,show k0+(k-k0)=k by omega,Array.getElem?_toList];exact Array.getElem?_eq_getElem hk
 rw[hL];have HL:=Lib.hid hlen;have HAT:=Lib.hid hat;clear hL hlen hat;obtain⟨c0,c1,z1,_,hB⟩:=h.cells;go_enter Tryz.func112,Tryz.ntmps112;go_wp2_with fail;clear c0 c1 z1;go_loopw [] (fun wr=>∃k:Nat,k0<=k∧k<=s.size∧Hid ((L.take (k-k0)).all bR=true)∧Rd w0 wr P s k ts) (fun wr=>s.size-du wr P)
 case atStart=>exact⟨k0,Nat.le_refl _,hk0,Lib.hid (by rw[Nat.sub_self];rfl),h⟩
 case round=>
  clear h;obtain⟨k,hk1,hk,HA,hR⟩:=hrel;obtain⟨c0,c1,z1,_,hBr⟩:=hR.cells;have HY:Hid (du wr P=k):=Lib.hid (by unfold du;rw[c1];simp);have hm:=fun W (n:New wr W)=>gB w0 W P s k ts (hR.new n) (by omega)
  by_cases hk2:k<s.size
  ·rw[decide_eq_true hk2] at hm;have hi:=fun W=>rX W s[k]
   have h255:s[k].toNat<256:=s[k].toNat_lt;have hat:=HAT.out k hk2 hk1;have hkI:(k:Int)<(s.size:Int):=by omega
   have hfold:bR s[k]=bR s[k]:=rfl;rw[hfold] at hi;clear hfold;cases e2:bR s[k] with
   |true=>
    rw[e2] at hi;have HA2:Hid ((L.take (k+1-k0)).all bR=true):=Lib.hid (by
     rw[show k+1-k0=(k-k0)+1 by omega,List.take_succ,hat,List.all_append,HA.out];simp[e2])
    clear e2 hat;go_wp2_with fail;go_region_held3 (fun w'=>w'.cell? ⟨P,0,none⟩=some (.string s)∧w'.cell? ⟨P,1,none⟩=some (I (k:Int))∧New wr w')
     ((refine⟨New.cell (w:=wr) ?_ c0,New.cell (w:=wr) ?_ c1,?_⟩<;>(repeat(first|exact New.refl wr|refine New.drew ?_|exact hN2|refine New.trans ?_ hN2))))
     ((first|(go_at_call 89;refine(hm _ ((New.refl wr).drew)).mono ?_;rintro e w2 ⟨rfl,hN2⟩)|(go_at_call 128;refine(hi _).mono ?_;rintro e w3 ⟨rfl,rfl⟩)))
    rename_i hSX;obtain⟨e0,e1,hNX⟩:=hSX;have hR3:=hR.new hNX;obtain⟨_,_,y1,_,hB3⟩:=hR3.cells;have HR4:=Lib.hid (hR3.go (k+1));have hwr:IntKind.i64.wrap ((k:Int)+1)=((k+1:Nat):Int):=by rw[IntWalk.i64_in _ (by omega)];omega
    clear hR hR3 c0 c1 z1;simp only[Exit.then];go_wp2_with fail;go_roundw
    case rel=>exact⟨k+1,by omega,by omega,HA2,HR4.out⟩
    case measure=>
     have hx:du (w3.setCell ⟨P,1,none⟩ (I ((k+1:Nat):Int))) P=k+1:=by
      obtain⟨_,d1,_⟩:=HR4.out.cells;unfold du;rw[d1];simp
     first
     |(rw[hx,HY.out];omega)
     |(rw[Int.natCast_add] at hx;simp at hx ⊢;rw[hx,HY.out];omega)
   |false=>
    rw[e2] at hi;have HSP:Hid ((L.takeWhile bR).length=k-k0):=Lib.hid (dt _ _ _ HA.out (fun b hb=>by rw[hat] at hb;cases hb;exact e2) (by rw[HL.out];omega));clear e2 hat;go_wp2_with fail;go_region_held3 (fun w'=>w'.cell? ⟨P,0,none⟩=some (.string s)∧w'.cell? ⟨P,1,none⟩=some (I (k:Int))∧New wr w')
     ((refine⟨New.cell (w:=wr) ?_ c0,New.cell (w:=wr) ?_ c1,?_⟩<;>(repeat(first|exact New.refl wr|refine New.drew ?_|exact hN2|refine New.trans ?_ hN2))))
     ((first|(go_at_call 89;refine(hm _ ((New.refl wr).drew)).mono ?_;rintro e w2 ⟨rfl,hN2⟩)|(go_at_call 128;refine(hi _).mono ?_;rintro e w3 ⟨rfl,rfl⟩)))
    rename_i hSX;obtain⟨e0,e1,hNX⟩:=hSX;have HRX:=Lib.hid (hR.new hNX);clear c0 c1 hR;have hkI2:(k0:Int)<=(k:Int):=by omega
    simp only[Exit.then];go_wp2_with fail;go_quiet (fail)
    go_wp2_with fail;go_ret
    rw[HSP.out,show k0+(k-k0)=k by omega];exact⟨by rfl,by first|exact HRX.out.new (Keeps.drewN _ _)|exact HRX.out⟩
  ·rw[decide_eq_false hk2] at hm;have HSP:Hid ((L.takeWhile bR).length=k-k0):=Lib.hid (dt _ _ _ HA.out (fun b hb=>by rw[List.getElem?_eq_none (by rw[HL.out];omega)] at hb;cases hb) (by rw[HL.out];omega));have hkI2:(k0:Int)<=(k:Int):=by omega
   go_wp2_with fail;have hS0:(fun w':World=>w'.cell? ⟨P,0,none⟩=some (.string s)∧w'.cell? ⟨P,1,none⟩=some (I (k:Int))) wr.drew:=⟨New.cell ((New.refl wr).drew) c0,New.cell ((New.refl wr).drew) c1⟩
   refine ar (fun w':World=>w'.cell? ⟨P,0,none⟩=some (.string s)∧w'.cell? ⟨P,1,none⟩=some (I (k:Int))) [] (by kernel_rfl) hS0 ?_;refine ae 0 hS0 ?_;refine ie 1 (by kernel_rfl) ?_;intro oi ho;cases ho;intro K hK
   (try simp only[Act.put,List.getElem_toArray,List.getElem_cons_succ,List.getElem_cons_zero,sLs])
   go_simp;refine(hm _ ((New.refl wr).drew)).mono ?_;rintro e w2 ⟨rfl,k2⟩;have hS1:(fun w':World=>w'.cell? ⟨P,0,none⟩=some (.string s)∧w'.cell? ⟨P,1,none⟩=some (I (k:Int))) w2:=⟨New.cell k2 hS0.1,New.cell k2 hS0.2⟩
   refine hK _ _ (fun _=>hS1) ?_;clear hK K;refine ae 2 hS1 ?_;refine aR 3 hS1 ?_;refine aR 4 hS1 ?_;refine aR 5 hS1 ?_;refine aR 6 hS1 ?_;refine aR 7 hS1 ?_;refine aR 8 hS1 ?_;refine aR 9 hS1 ?_;refine aR 10 hS1 ?_;refine aR 11 hS1 ?_;refine aR 12 hS1 ?_;refine aR 13 hS1 ?_;refine ae 14 hS1 ?_;refine aB (by kernel_rfl) ?_;(try simp only[Act.put,List.getElem_toArray,List.getElem_cons_succ,List.getElem_cons_zero,sLs])
   have e0:=hS1.1;have e1:=hS1.2;have HRX:=Lib.hid (hR.new (((New.refl wr).drew).trans k2));clear hS0 hS1 c0 c1 hR k2 hm;simp only[Exit.then];go_wp2_with fail;go_quiet (fail)
   go_wp2_with fail;go_ret
   rw[HSP.out,show k0+(k-k0)=k by omega];exact⟨by rfl,by first|exact HRX.out.new (Keeps.drewN _ _)|exact HRX.out⟩
set_option maxRecDepth 100000 in
set_option maxHeartbeats 4000000 in
theorem dT (w0 w:World) (P:Nat) (s:ByteArray) (k:Nat) (ts:List LTok) (h:Rd w0 w P s k ts) (so:Int) (tx:List UInt8) (nu:Int) (at_:Nat) (hn:ts.length<=2000000):
  Calls Tryz.prog 91 #[.pointer (some ⟨P,0,none⟩),.int .u8 so,.string ⟨tx.toArray⟩,I nu,I at_] w fun e w'=>e= .returned (I 0)∧Rd w0 w' P s k (ts++[⟨so,tx,nu,at_⟩]):=by
 obtain⟨i0,hi,hz0,hz1,hz2⟩:=info_parts ur;obtain⟨nw,hP,a,c,hb,ho⟩:=h;obtain⟨T,hT⟩:∃T:ByteArray,(⟨tx.toArray⟩:ByteArray)=T:=⟨_,rfl⟩
 have c2:w.cell? ⟨P,2,none⟩=some (.slice a ts.length c):=by rw[cell_of_block hb 2];rfl
 have hPl:P<w.heap.size:=(Array.getElem?_eq_some_iff.1 hb).1;rw[hT];have HB:=Lib.hid hb;have HO:=Lib.hid ho;have HT:=Lib.hid hT;have hsz:w0.heap.size<=w.heap.size:=nw.size;clear hb ho hT;go_enter Tryz.func91,Tryz.ntmps91;have ka:New w (w.alloc (.cells #[.int .u8 so,.string T,I nu,I at_] 98)):=(New.refl w).alloc _;go_wp2_with (at_builtin;refine bB rfl _ _ 88 rfl w0.heap.size 98 i0 _ 4 40 Tryz.underlying88 hi hz0 hz1 hz2 rfl (by decide) a ts.length c (ts.flatMap ct) rfl (ka.owns HO.out) _ 1 1 [.int .u8 so,.string T,I nu,I at_] rfl rfl (am.lit _ _ _) (by intro u hu;simp only[List.mem_cons,List.not_mem_nil,or_false] at hu;rcases hu with rfl|rfl|rfl|rfl<;>rfl) (by unfold maxLen;omega) (by omega) (Nat.le_trans hsz ka.size) ?_);intro a' c' w' hown hk hm _;have hown':w'.ownsRow w0.heap.size 98 4 (.slice a' (ts.length+1) c') (ts.length+1) (ts.flatMap ct++ct ⟨so,tx,nu,at_⟩):=by
  unfold ct;rw[HT.out];exact hown
 obtain⟨⟨hfz,hPl3,hc3⟩,hR⟩:=Rd.add (k:=k) ⟨so,tx,nu,at_⟩ (nw.trans ka) hP (Keeps.heap ka HB.out (fun h=>h)) (ka.owns HO.out) hown' hk;have HR:=Lib.hid hR;clear hR hown hown' hk hm c2 hPl ka;go_wp2_with fail;go_ret
 exact⟨rfl,HR.out⟩
theorem ch (s:ByteArray) (k:Nat) (h:k<s.size):s.data.toList.drop k=af s k::s.data.toList.drop (k+1):=by rw[jz s k h];exact vq s k h
theorem sr (s:ByteArray):s.data.toList.drop s.size=[]:=List.drop_eq_nil_of_le (by simp)
set_option maxRecDepth 100000 in
set_option maxHeartbeats 4000000 in
theorem lA (w0 w:World) (P:Nat) (s:ByteArray) (k0:Nat) (ts:List LTok) (h:Rd w0 w P s k0 ts) (hk0:k0<=s.size) (hs:s.size<=9223372036854775806):
  Calls Tryz.prog 88 #[.pointer (some ⟨P,0,none⟩)] w fun e w'=>e= .returned (.tuple #[])∧∃k,k0<=k∧k<=s.size∧Hid (bZ k0 (s.data.toList.drop k0)=bZ k (s.data.toList.drop k))∧
   Hid (k<s.size->cU (af s k)=false∧(af s k).toNat≠35)∧Rd w0 w' P s k ts:=by
 obtain⟨_,_,_,_,hB⟩:=h.cells;go_enter Tryz.func88,Tryz.ntmps88;go_wp2_with fail;go_loopw [] (fun wr=>∃k:Nat,k0<=k∧k<=s.size∧Hid (bZ k0 (s.data.toList.drop k0)=bZ k (s.data.toList.drop k))∧Rd w0 wr P s k ts) (fun wr=>s.size-du wr P)
 case atStart=>exact⟨k0,Nat.le_refl _,hk0,Lib.hid rfl,h⟩
 case round=>
  clear h;obtain⟨k,hk1,hk,HL,hR⟩:=hrel;obtain⟨_,c1,_,_,hBr⟩:=hR.cells;have HY:Hid (du wr P=k):=Lib.hid (by unfold du;rw[c1];simp);have hm:=gB w0 wr P s k ts hR (by omega);clear c1;by_cases hk2:k<s.size
  ·rw[decide_eq_true hk2] at hm;have hp:=fun W (n:New wr W)=>bv w0 W P s k ts (hR.new n) hk hs
   have hdr:=ch s k hk2;obtain⟨b,hbb⟩:∃b,af s k=b:=⟨_,rfl⟩
   rw[hbb] at hp hdr;have hbl:=fun W=>oe W b
   have h255:b.toNat<256:=b.toNat_lt;have HD:=Lib.hid hdr;have HBB:=Lib.hid hbb;clear hdr hbb;cases e1:cU b with
   |true=>
    rw[e1] at hbl;have HL2:Hid (bZ k0 (s.data.toList.drop k0)=bZ (k+1) (s.data.toList.drop (k+1))):=Lib.hid (by rw[HL.out,HD.out,cm _ _ _ e1]);clear e1;go_wp2_with fail;refine hm.mono ?_;rintro e w2 ⟨rfl,n2⟩;go_wp2_with fail;refine(hp _ n2).mono ?_;rintro e w3 ⟨rfl,n3⟩;go_wp2_with fail;refine(hbl _).mono ?_;rintro e w4 ⟨rfl,rfl⟩;have hR3:=hR.new (n2.trans n3);obtain⟨_,y0,y1,_,hB3⟩:=hR3.cells;have HR4:=Lib.hid (hR3.go (k+1));clear hR hR3 hm hp n2 n3;go_wp2_with fail;go_roundw
    case rel=>exact⟨k+1,by omega,by omega,HL2,HR4.out⟩
    case measure=>
     have hx:du (w4.setCell ⟨P,1,none⟩ (I ((k+1:Nat):Int))) P=k+1:=by
      obtain⟨_,d1,_⟩:=HR4.out.cells;unfold du;rw[d1];simp
     first
     |(rw[hx,HY.out];omega)
     |(rw[Int.natCast_add] at hx;simp at hx ⊢;rw[hx,HY.out];omega)
   |false=>
    rw[e1] at hbl;by_cases h35:b.toNat=35
    ·obtain⟨n,hn⟩:∃n,((s.data.toList.drop k).takeWhile bR).length=n:=⟨_,rfl⟩
     have hne:bR b=true:=by unfold bR;rw[decide_eq_true_iff];omega
     have hm1:n=((s.data.toList.drop (k+1)).takeWhile bR).length+1:=by rw[<-hn,HD.out,List.takeWhile_cons,if_pos hne];rfl
     have hle:k+n<=s.size:=by
      have:=bF bR (s.data.toList.drop k);rw[hn,List.length_drop] at this;have e:s.data.toList.length=s.size:=by simp
      omega
     have HL2:Hid (bZ k0 (s.data.toList.drop k0)=bZ (k+n) (s.data.toList.drop (k+n))):=Lib.hid (by
      rw[HL.out,HD.out,fB _ _ _ h35,List.drop_drop,show k+1+((s.data.toList.drop (k+1)).takeWhile bR).length=k+n by omega])
     have hw:=fun W (n:New wr W)=>o9 w0 W P s k ts (hR.new n) hk hs
     rw[hn] at hw;have hpos:1<=n:=by omega
     have e35:((b.toNat:Int)==35)=true:=by rw[h35];rfl
     obtain⟨x,hx⟩:∃x:Int,(b.toNat:Int)=x:=⟨_,rfl⟩
     rw[hx] at e35 hbl hp;clear e1 hm1 hn hne h35 h255 hx;go_wp2_with fail;refine hm.mono ?_;rintro e w2 ⟨rfl,n2⟩;go_wp2_with fail;refine(hp _ n2).mono ?_;rintro e w3 ⟨rfl,n3⟩;go_wp2_with fail;refine(hbl _).mono ?_;rintro e w4 ⟨rfl,rfl⟩;go_wp2_with fail;refine(hw _ (n2.trans n3)).mono ?_;rintro e w5 ⟨rfl,hR5⟩;clear hR hm hp n2 n3 hw;go_wp2_with fail;go_roundw
     case rel=>exact⟨k+n,by omega,hle,HL2,hR5⟩
     case measure=>
      obtain⟨_,d1,_⟩:=hR5.cells;have hx:du w5 P=k+n:=by unfold du;rw[d1];exact Int.toNat_natCast _
      rw[hx,HY.out];omega
    ·have e35:((b.toNat:Int)==35)=false:=by simpa using fun h:(b.toNat:Int)=35=>h35 (by omega)
     have HF:Hid (k<s.size->cU (af s k)=false∧(af s k).toNat≠35):=Lib.hid (fun _=>by rw[HBB.out];exact⟨e1,h35⟩);obtain⟨x,hx⟩:∃x:Int,(b.toNat:Int)=x:=⟨_,rfl⟩
     rw[hx] at e35 hbl hp;clear e1 h35 h255 hx;go_wp2_with fail;refine hm.mono ?_;rintro e w2 ⟨rfl,n2⟩;go_wp2_with fail;refine(hp _ n2).mono ?_;rintro e w3 ⟨rfl,n3⟩;go_wp2_with fail;refine(hbl _).mono ?_;rintro e w4 ⟨rfl,rfl⟩;have HR3:=Lib.hid (hR.new (n2.trans n3));clear hR hm hp n2 n3;go_wp2_with fail;refine bodyPost_ret (results_none (by kernel_rfl) _ _ _) rfl ?_;exact⟨rfl,k,hk1,hk,HL,HF,HR3.out⟩
  ·rw[decide_eq_false hk2] at hm;go_wp2_with fail;refine hm.mono ?_;rintro e w2 ⟨rfl,n2⟩;have HR3:=Lib.hid (hR.new n2);clear hR hm n2;go_wp2_with fail;go_end0
   exact⟨rfl,k,hk1,hk,HL,Lib.hid (fun h=>absurd h hk2),HR3.out⟩
end Go.Proofs.YtnedmonlofbahaaGreatDoor
namespace Go.Proofs
open Go.Shelf
def Tryz.laysM171_ren:Go.Shelf.Ren:=⟨fun|171=>117|243=>141|246=>154|283=>164|284=>165|285=>166|286=>167|129=>174|317=>173|318=>175|319=>176|320=>177|337=>182|338=>183|n=>n,fun|3=>3|9=>9|2=>2|4=>4|171=>233|0=>0|53=>234|37=>138|5=>5|173=>237|212=>248|51=>249|20=>20|213=>250|46=>242|232=>262|233=>263|n=>n,fun|17=>1|18=>4|19=>5|n=>n⟩
theorem Tryz.laysM171:Go.Proofs.LaysM.n171 Tryz.prog Tryz.laysM171_ren:= {
 mixed:=by kernel_rfl
 f129:=Tryz.func174.trans (congrArg some (by kernel_rfl))
 f171:=Tryz.func117.trans (congrArg some (by kernel_rfl))
 f243:=Tryz.func141.trans (congrArg some (by kernel_rfl))
 f246:=Tryz.func154.trans (congrArg some (by kernel_rfl))
 f283:=Tryz.func164.trans (congrArg some (by kernel_rfl))
 f284:=Tryz.func165.trans (congrArg some (by kernel_rfl))
 f285:=Tryz.func166.trans (congrArg some (by kernel_rfl))
 f286:=Tryz.func167.trans (congrArg some (by kernel_rfl))
 f317:=Tryz.func173.trans (congrArg some (by kernel_rfl))
 f318:=Tryz.func175.trans (congrArg some (by kernel_rfl))
 f319:=Tryz.func176.trans (congrArg some (by kernel_rfl))
 f320:=Tryz.func177.trans (congrArg some (by kernel_rfl))
 f337:=Tryz.func182.trans (congrArg some (by kernel_rfl))
 f338:=Tryz.func183.trans (congrArg some (by kernel_rfl))
 t0:=Tryz.underlying0
 a0:=Tryz.isAgg0
 z0:=Tryz.sizeOf0
 v0:=Tryz.zeroValue0
 t2:=Tryz.underlying2
 a2:=Tryz.isAgg2
 z2:=Tryz.sizeOf2
 v2:=Tryz.zeroValue2
 t3:=Tryz.underlying3
 a3:=Tryz.isAgg3
 z3:=Tryz.sizeOf3
 v3:=Tryz.zeroValue3
 t4:=Tryz.underlying4
 a4:=Tryz.isAgg4
 z4:=Tryz.sizeOf4
 v4:=Tryz.zeroValue4
 t5:=Tryz.underlying5
 a5:=Tryz.isAgg5
 z5:=Tryz.sizeOf5
 v5:=Tryz.zeroValue5
 t9:=Tryz.underlying9
 a9:=Tryz.isAgg9
 z9:=Tryz.sizeOf9
 v9:=Tryz.zeroValue9
 t20:=Tryz.underlying20
 a20:=Tryz.isAgg20
 z20:=Tryz.sizeOf20
 v20:=Tryz.zeroValue20
 t37:=Tryz.underlying138
 a37:=Tryz.isAgg138
 z37:=Tryz.sizeOf138
 v37:=Tryz.zeroValue138
 t46:=Tryz.underlying242
 a46:=Tryz.isAgg242
 z46:=Tryz.sizeOf242
 v46:=Tryz.zeroValue242
 t51:=Tryz.underlying249
 a51:=Tryz.isAgg249
 z51:=Tryz.sizeOf249
 v51:=Tryz.zeroValue249
 t53:=Tryz.underlying234
 a53:=Tryz.isAgg234
 z53:=Tryz.sizeOf234
 v53:=Tryz.zeroValue234
 t171:=Tryz.underlying233
 a171:=Tryz.isAgg233
 z171:=Tryz.sizeOf233
 v171:=Tryz.zeroValue233
 t173:=Tryz.underlying237
 a173:=Tryz.isAgg237
 z173:=Tryz.sizeOf237
 v173:=Tryz.zeroValue237
 t212:=Tryz.underlying248
 a212:=Tryz.isAgg248
 z212:=Tryz.sizeOf248
 v212:=Tryz.zeroValue248
 t213:=Tryz.underlying250
 a213:=Tryz.isAgg250
 z213:=Tryz.sizeOf250
 t232:=Tryz.underlying262
 a232:=Tryz.isAgg262
 z232:=Tryz.sizeOf262
 v232:=Tryz.zeroValue262
 t233:=Tryz.underlying263
 a233:=Tryz.isAgg263
 z233:=Tryz.sizeOf263
 v233:=Tryz.zeroValue263
 g17:=by kernel_rfl
 g18:=by kernel_rfl
 g19:=by kernel_rfl
 i0:=by kernel_rfl
 i2:=by kernel_rfl
 i3:=by kernel_rfl
 i4:=by kernel_rfl
 i5:=by kernel_rfl
 i9:=by kernel_rfl
 i20:=by kernel_rfl
 i37:=by kernel_rfl
 i46:=by kernel_rfl
 i51:=by kernel_rfl
 i53:=by kernel_rfl
 i171:=by kernel_rfl
 i173:=by kernel_rfl
 i212:=by kernel_rfl
 i232:=by kernel_rfl
 i233:=by kernel_rfl
 m17:=by kernel_rfl
 m18:=by kernel_rfl
 m19:=by kernel_rfl }
open Go.RowKit Go.Sort Go.Lib in
theorem Tryz.strconv_Itoa (n:Int) (h0: -9223372036854775808<=n) (h1:n<=9223372036854775807) (w:World) (htab:Lib.TabIs Tryz.prog w "internal/strconv.uint64pow10" .u64 Lib.pow10Tab):
  Calls Tryz.prog 117 #[.int .i64 n] w fun e w'=>e= .returned (.string ⟨(Lib.itoa n).toArray⟩)∧∃k os,w'=grow (w.drewN k) os:=Any.strconv_Itoa Tryz.laysM171 n h0 h1 w htab
def Tryz.laysM173_ren:Go.Shelf.Ren:=⟨fun|173=>146|246=>154|283=>164|284=>165|285=>166|286=>167|129=>174|317=>173|318=>175|319=>176|320=>177|337=>182|338=>183|n=>n,fun|2=>2|3=>3|9=>9|4=>4|171=>233|0=>0|53=>234|37=>138|5=>5|173=>237|212=>248|51=>249|20=>20|213=>250|46=>242|232=>262|233=>263|n=>n,fun|17=>1|18=>4|19=>5|n=>n⟩
theorem Tryz.laysM173:Go.Proofs.LaysM.n173 Tryz.prog Tryz.laysM173_ren:= {
 mixed:=by kernel_rfl
 f129:=Tryz.func174.trans (congrArg some (by kernel_rfl))
 f173:=Tryz.func146.trans (congrArg some (by kernel_rfl))
 f246:=Tryz.func154.trans (congrArg some (by kernel_rfl))
 f283:=Tryz.func164.trans (congrArg some (by kernel_rfl))
 f284:=Tryz.func165.trans (congrArg some (by kernel_rfl))
 f285:=Tryz.func166.trans (congrArg some (by kernel_rfl))
 f286:=Tryz.func167.trans (congrArg some (by kernel_rfl))
 f317:=Tryz.func173.trans (congrArg some (by kernel_rfl))
 f318:=Tryz.func175.trans (congrArg some (by kernel_rfl))
 f319:=Tryz.func176.trans (congrArg some (by kernel_rfl))
 f320:=Tryz.func177.trans (congrArg some (by kernel_rfl))
 f337:=Tryz.func182.trans (congrArg some (by kernel_rfl))
 f338:=Tryz.func183.trans (congrArg some (by kernel_rfl))
 t0:=Tryz.underlying0
 a0:=Tryz.isAgg0
 z0:=Tryz.sizeOf0
 v0:=Tryz.zeroValue0
 t2:=Tryz.underlying2
 a2:=Tryz.isAgg2
 z2:=Tryz.sizeOf2
 v2:=Tryz.zeroValue2
 t3:=Tryz.underlying3
 a3:=Tryz.isAgg3
 z3:=Tryz.sizeOf3
 v3:=Tryz.zeroValue3
 t4:=Tryz.underlying4
 a4:=Tryz.isAgg4
 z4:=Tryz.sizeOf4
 v4:=Tryz.zeroValue4
 t5:=Tryz.underlying5
 a5:=Tryz.isAgg5
 z5:=Tryz.sizeOf5
 v5:=Tryz.zeroValue5
 t9:=Tryz.underlying9
 a9:=Tryz.isAgg9
 z9:=Tryz.sizeOf9
 v9:=Tryz.zeroValue9
 t20:=Tryz.underlying20
 a20:=Tryz.isAgg20
 z20:=Tryz.sizeOf20
 v20:=Tryz.zeroValue20
 t37:=Tryz.underlying138
 a37:=Tryz.isAgg138
 z37:=Tryz.sizeOf138
 v37:=Tryz.zeroValue138
 t46:=Tryz.underlying242
 a46:=Tryz.isAgg242
 z46:=Tryz.sizeOf242
 v46:=Tryz.zeroValue242
 t51:=Tryz.underlying249
 a51:=Tryz.isAgg249
 z51:=Tryz.sizeOf249
 v51:=Tryz.zeroValue249
 t53:=Tryz.underlying234
 a53:=Tryz.isAgg234
 z53:=Tryz.sizeOf234
 v53:=Tryz.zeroValue234
 t171:=Tryz.underlying233
 a171:=Tryz.isAgg233
 z171:=Tryz.sizeOf233
 v171:=Tryz.zeroValue233
 t173:=Tryz.underlying237
 a173:=Tryz.isAgg237
 z173:=Tryz.sizeOf237
 v173:=Tryz.zeroValue237
 t212:=Tryz.underlying248
 a212:=Tryz.isAgg248
 z212:=Tryz.sizeOf248
 v212:=Tryz.zeroValue248
 t213:=Tryz.underlying250
 a213:=Tryz.isAgg250
 z213:=Tryz.sizeOf250
 t232:=Tryz.underlying262
 a232:=Tryz.isAgg262
 z232:=Tryz.sizeOf262
 v232:=Tryz.zeroValue262
 t233:=Tryz.underlying263
 a233:=Tryz.isAgg263
 z233:=Tryz.sizeOf263
 v233:=Tryz.zeroValue263
 g17:=by kernel_rfl
 g18:=by kernel_rfl
 g19:=by kernel_rfl
 i0:=by kernel_rfl
 i2:=by kernel_rfl
 i3:=by kernel_rfl
 i4:=by kernel_rfl
 i5:=by kernel_rfl
 i9:=by kernel_rfl
 i20:=by kernel_rfl
 i37:=by kernel_rfl
 i46:=by kernel_rfl
 i51:=by kernel_rfl
 i53:=by kernel_rfl
 i171:=by kernel_rfl
 i173:=by kernel_rfl
 i212:=by kernel_rfl
 i232:=by kernel_rfl
 i233:=by kernel_rfl
 m17:=by kernel_rfl
 m18:=by kernel_rfl
 m19:=by kernel_rfl }
open Go.RowKit Go.Sort Go.Lib in
theorem Tryz.strconv_FormatInt_10 (n:Int) (h0: -9223372036854775808<=n) (h1:n<=9223372036854775807) (w:World) (htab:Lib.TabIs Tryz.prog w "internal/strconv.uint64pow10" .u64 Lib.pow10Tab):
  Calls Tryz.prog 146 #[.int .i64 n,.int .i64 10] w fun e w'=>e= .returned (.string ⟨(Lib.itoa n).toArray⟩)∧∃k os,w'=grow (w.drewN k) os:=Any.strconv_FormatInt_10 Tryz.laysM173 n h0 h1 w htab
def Tryz.laysC174_ren:Go.Shelf.Ren:=⟨fun|174=>145|247=>155|245=>156|287=>168|279=>169|280=>170|281=>171|282=>172|321=>178|322=>179|316=>180|171=>117|205=>181|243=>141|246=>154|283=>164|284=>165|285=>166|286=>167|129=>174|317=>173|318=>175|319=>176|320=>177|337=>182|338=>183|n=>n,fun|9=>9|3=>3|2=>2|75=>28|85=>217|4=>4|167=>239|5=>5|53=>234|175=>240|46=>242|168=>243|37=>138|0=>0|210=>256|21=>21|127=>195|145=>261|143=>259|171=>233|173=>237|212=>248|51=>249|20=>20|213=>250|232=>262|233=>263|80=>118|n=>n,fun|15=>2|16=>3|17=>1|18=>4|19=>5|n=>n⟩
theorem Tryz.laysC174:Go.Proofs.LaysC.n174 Tryz.prog Tryz.laysC174_ren:= {
 mixed:=by kernel_rfl
 f129:=Tryz.func174.trans (congrArg some (by kernel_rfl))
 f171:=Tryz.func117.trans (congrArg some (by kernel_rfl))
 f174:=Tryz.func145.trans (congrArg some (by kernel_rfl))
 f205:=Tryz.func181.trans (congrArg some (by kernel_rfl))
 f243:=Tryz.func141.trans (congrArg some (by kernel_rfl))
 f245:=Tryz.func156.trans (congrArg some (by kernel_rfl))
 f246:=Tryz.func154.trans (congrArg some (by kernel_rfl))
 f247:=Tryz.func155.trans (congrArg some (by kernel_rfl))
 f279:=Tryz.func169.trans (congrArg some (by kernel_rfl))
 f280:=Tryz.func170.trans (congrArg some (by kernel_rfl))
 f281:=Tryz.func171.trans (congrArg some (by kernel_rfl))
 f282:=Tryz.func172.trans (congrArg some (by kernel_rfl))
 f283:=Tryz.func164.trans (congrArg some (by kernel_rfl))
 f284:=Tryz.func165.trans (congrArg some (by kernel_rfl))
 f285:=Tryz.func166.trans (congrArg some (by kernel_rfl))
 f286:=Tryz.func167.trans (congrArg some (by kernel_rfl))
 f287:=Tryz.func168.trans (congrArg some (by kernel_rfl))
 f316:=Tryz.func180.trans (congrArg some (by kernel_rfl))
 f317:=Tryz.func173.trans (congrArg some (by kernel_rfl))
 f318:=Tryz.func175.trans (congrArg some (by kernel_rfl))
 f319:=Tryz.func176.trans (congrArg some (by kernel_rfl))
 f320:=Tryz.func177.trans (congrArg some (by kernel_rfl))
 f321:=Tryz.func178.trans (congrArg some (by kernel_rfl))
 f322:=Tryz.func179.trans (congrArg some (by kernel_rfl))
 f337:=Tryz.func182.trans (congrArg some (by kernel_rfl))
 f338:=Tryz.func183.trans (congrArg some (by kernel_rfl))
 t0:=Tryz.underlying0
 a0:=Tryz.isAgg0
 z0:=Tryz.sizeOf0
 v0:=Tryz.zeroValue0
 t2:=Tryz.underlying2
 a2:=Tryz.isAgg2
 z2:=Tryz.sizeOf2
 v2:=Tryz.zeroValue2
 t3:=Tryz.underlying3
 a3:=Tryz.isAgg3
 z3:=Tryz.sizeOf3
 v3:=Tryz.zeroValue3
 t4:=Tryz.underlying4
 a4:=Tryz.isAgg4
 z4:=Tryz.sizeOf4
 v4:=Tryz.zeroValue4
 t5:=Tryz.underlying5
 a5:=Tryz.isAgg5
 z5:=Tryz.sizeOf5
 v5:=Tryz.zeroValue5
 t9:=Tryz.underlying9
 a9:=Tryz.isAgg9
 z9:=Tryz.sizeOf9
 v9:=Tryz.zeroValue9
 t20:=Tryz.underlying20
 a20:=Tryz.isAgg20
 z20:=Tryz.sizeOf20
 v20:=Tryz.zeroValue20
 t21:=Tryz.underlying21
 a21:=Tryz.isAgg21
 z21:=Tryz.sizeOf21
 v21:=Tryz.zeroValue21
 t37:=Tryz.underlying138
 a37:=Tryz.isAgg138
 z37:=Tryz.sizeOf138
 v37:=Tryz.zeroValue138
 t46:=Tryz.underlying242
 a46:=Tryz.isAgg242
 z46:=Tryz.sizeOf242
 v46:=Tryz.zeroValue242
 t51:=Tryz.underlying249
 a51:=Tryz.isAgg249
 z51:=Tryz.sizeOf249
 v51:=Tryz.zeroValue249
 t53:=Tryz.underlying234
 a53:=Tryz.isAgg234
 z53:=Tryz.sizeOf234
 v53:=Tryz.zeroValue234
 t75:=Tryz.underlying28
 a75:=Tryz.isAgg28
 z75:=Tryz.sizeOf28
 v75:=Tryz.zeroValue28
 t85:=Tryz.underlying217
 a85:=Tryz.isAgg217
 z85:=Tryz.sizeOf217
 v85:=Tryz.zeroValue217
 t127:=Tryz.underlying195
 a127:=Tryz.isAgg195
 z127:=Tryz.sizeOf195
 v127:=Tryz.zeroValue195
 t143:=Tryz.underlying259
 a143:=Tryz.isAgg259
 z143:=Tryz.sizeOf259
 v143:=Tryz.zeroValue259
 t145:=Tryz.underlying261
 a145:=Tryz.isAgg261
 z145:=Tryz.sizeOf261
 v145:=Tryz.zeroValue261
 t167:=Tryz.underlying239
 a167:=Tryz.isAgg239
 z167:=Tryz.sizeOf239
 v167:=Tryz.zeroValue239
 t168:=Tryz.underlying243
 a168:=Tryz.isAgg243
 z168:=Tryz.sizeOf243
 v168:=Tryz.zeroValue243
 t171:=Tryz.underlying233
 a171:=Tryz.isAgg233
 z171:=Tryz.sizeOf233
 v171:=Tryz.zeroValue233
 t173:=Tryz.underlying237
 a173:=Tryz.isAgg237
 z173:=Tryz.sizeOf237
 v173:=Tryz.zeroValue237
 t175:=Tryz.underlying240
 a175:=Tryz.isAgg240
 z175:=Tryz.sizeOf240
 v175:=Tryz.zeroValue240
 t210:=Tryz.underlying256
 a210:=Tryz.isAgg256
 z210:=Tryz.sizeOf256
 v210:=Tryz.zeroValue256
 t212:=Tryz.underlying248
 a212:=Tryz.isAgg248
 z212:=Tryz.sizeOf248
 v212:=Tryz.zeroValue248
 t213:=Tryz.underlying250
 a213:=Tryz.isAgg250
 z213:=Tryz.sizeOf250
 t232:=Tryz.underlying262
 a232:=Tryz.isAgg262
 z232:=Tryz.sizeOf262
 v232:=Tryz.zeroValue262
 t233:=Tryz.underlying263
 a233:=Tryz.isAgg263
 z233:=Tryz.sizeOf263
 v233:=Tryz.zeroValue263
 g15:=by kernel_rfl
 g16:=by kernel_rfl
 g17:=by kernel_rfl
 g18:=by kernel_rfl
 g19:=by kernel_rfl
 t80:=Tryz.underlying118
 a80:=Tryz.isAgg118
 z80:=Tryz.sizeOf118
 v80:=Tryz.zeroValue118
 i0:=by kernel_rfl
 i2:=by kernel_rfl
 i3:=by kernel_rfl
 i4:=by kernel_rfl
 i5:=by kernel_rfl
 i9:=by kernel_rfl
 i20:=by kernel_rfl
 i21:=by kernel_rfl
 i37:=by kernel_rfl
 i46:=by kernel_rfl
 i51:=by kernel_rfl
 i53:=by kernel_rfl
 i75:=by kernel_rfl
 i80:=by kernel_rfl
 i85:=by kernel_rfl
 i127:=by kernel_rfl
 i143:=by kernel_rfl
 i145:=by kernel_rfl
 i167:=by kernel_rfl
 i168:=by kernel_rfl
 i171:=by kernel_rfl
 i173:=by kernel_rfl
 i175:=by kernel_rfl
 i210:=by kernel_rfl
 i212:=by kernel_rfl
 i232:=by kernel_rfl
 i233:=by kernel_rfl
 m15:=by kernel_rfl
 m16:=by kernel_rfl
 m17:=by kernel_rfl
 m18:=by kernel_rfl
 m19:=by kernel_rfl
 c0:=by kernel_rfl
 c2:=by kernel_rfl
 c3:=by kernel_rfl
 c4:=by kernel_rfl
 c5:=by kernel_rfl
 c9:=by kernel_rfl
 c20:=by kernel_rfl
 c21:=by kernel_rfl
 c37:=by kernel_rfl
 c46:=by kernel_rfl
 c51:=by kernel_rfl
 c53:=by kernel_rfl
 c75:=by kernel_rfl
 c80:=by kernel_rfl
 c85:=by kernel_rfl
 c127:=by kernel_rfl
 c143:=by kernel_rfl
 c145:=by kernel_rfl
 c167:=by kernel_rfl
 c168:=by kernel_rfl
 c171:=by kernel_rfl
 c173:=by kernel_rfl
 c175:=by kernel_rfl
 c210:=by kernel_rfl
 c212:=by kernel_rfl
 c213:=by kernel_rfl
 c232:=by kernel_rfl
 c233:=by kernel_rfl }
open Go.RowKit in
theorem Tryz.strconv_ParseInt_10_at64_ok (s:ByteArray) (hmax:s.size<=9223372036854775806) (v:Int) (h:Lib.parseIntB 64 s.data.toList= .ok v) (w:World):
  Calls Tryz.prog 145 #[.string s,.int .i64 10,.int .i64 64] w fun e w'=>e= .returned (.tuple #[.int .i64 v,.nilIface])∧(w'=w∨∃t,w'=Lib.bytesWorld w 5 t):=Any.strconv_ParseInt_10_at64_ok Tryz.laysC174 s hmax v h w
open Go.RowKit in
theorem Tryz.strconv_ParseInt_10_at64_range_var (s:ByteArray) (hlim:s.size<=281474976710656) (h:Lib.parseIntB 64 s.data.toList= .range) (tp:TypeId) (p:Value) (w:World) (hvar:w.var? Tryz.prog "strconv.ErrRange" =some #[.iface tp p]):
  Calls Tryz.prog 145 #[.string s,.int .i64 10,.int .i64 64] w fun e w'=>∃N,e= .returned (.tuple #[.int .i64 (Lib.intSat 64 s.data.toList),.iface 243 (.pointer (some ⟨N,0,none⟩))])∧w.heap.size<=N∧w'.heap[N]? =some (.cells #[.string ⟨#[80,97,114,115,101,73,110,116]⟩,.string s,.iface tp p] 256 (0,0))∧Below w.heap.size w w':=Any.strconv_ParseInt_10_at64_range_var Tryz.laysC174 s hlim h tp p w hvar
end Go.Proofs
namespace Go.Proofs.YtnedmonlofbahaaGreatDoor
open Go Go.RowKit Go.Joins
set_option linter.all false
theorem pJ (w:World) (os:Array Obj):New w (Sort.grow w os):=⟨rfl,rfl,rfl,by simp[Sort.grow],fun k hk _=>by simp[Sort.grow,Array.getElem?_append,hk]⟩
theorem nj {w w':World} (h:Below w.heap.size w w'):New w w':=⟨h.os,h.tape,h.output,h.size,fun k hk _=>h.block k hk⟩
theorem sM {w w':World} {n:String} {cs:Array Value} (h:w.var? Tryz.prog n=some cs) (hk:New w w'):w'.var? Tryz.prog n=some cs:=by
 unfold World.var? at h ⊢;obtain⟨g,hg,h2⟩:=Option.bind_eq_some_iff.1 h;rw[hg];simp only[Option.bind_some];cases hb:w.heap[g]? with
 |none=>rw[hb] at h2;cases h2
 |some o=>rw[Keeps.heap hk hb (fun h=>h)];rw[hb] at h2;exact h2
structure Env (w:World):Prop where
 tab:Lib.TabIs Tryz.prog w "internal/strconv.uint64pow10" .u64 Lib.pow10Tab
 rng:∃tp p,w.var? Tryz.prog "strconv.ErrRange" =some #[.iface tp p]
theorem Env.new {w w':World} (h:Env w) (k:New w w'):Env w':=by
 obtain⟨ht,tp,p,hr⟩:=h;exact⟨sM ht k,tp,p,sM hr k⟩
theorem jp (w:World) (X:ByteArray) (hX:X.size<=9223372036854775806) (n:Int) (h:Lib.parseIntB 64 X.data.toList= .ok n):
  Calls Tryz.prog 145 #[.string X,I 10,I 64] w fun e w'=>e= .returned (.tuple #[I n,.nilIface])∧New w w':=by
 refine(Tryz.strconv_ParseInt_10_at64_ok X hX n h w).mono ?_;rintro e w' ⟨rfl,hw⟩;refine⟨rfl,?_⟩;rcases hw with rfl|⟨t,rfl⟩
 ·exact New.refl _
 ·exact nj (Lib.bytesWorld_below _ _ _)
theorem jS (w:World) (X:ByteArray) (hX:X.size<=281474976710656) (h:Lib.parseIntB 64 X.data.toList= .range) (he:Env w):
  Calls Tryz.prog 145 #[.string X,I 10,I 64] w fun e w'=>∃sat T a,e= .returned (.tuple #[I sat,.iface T (.pointer (some a))])∧New w w':=by
 obtain⟨_,tp,p,hr⟩:=he;refine(Tryz.strconv_ParseInt_10_at64_range_var X hX h tp p w hr).mono ?_;rintro e w' ⟨N,rfl,_,_,hb⟩;exact⟨_,_,_,rfl,nj hb⟩
def cC (n:Int):ByteArray:=⟨(Lib.itoa n).toArray⟩
theorem j7 (w:World) (n:Int) (h0: -9223372036854775808<=n) (h1:n<=9223372036854775807) (he:Env w):
  Calls Tryz.prog 146 #[I n,I 10] w fun e w'=>e= .returned (.string (cC n))∧New w w':=by
 refine(Tryz.strconv_FormatInt_10 n h0 h1 w he.tab).mono ?_;rintro e w' ⟨rfl,k,os,rfl⟩;exact⟨rfl,((New.refl w).drewN k).trans (pJ _ os)⟩
theorem oH (s:ByteArray):(s.toList==s.toList)=true:=by simp
theorem sK {s t:ByteArray} (h:s.data.toList≠t.data.toList):(s.toList==t.toList)=false:=by
 rw[beq_eq_false_iff_ne];rw[ByteArray.toList_eq,ByteArray.toList_eq];exact h
def bX (s:ByteArray) (k:Nat):List UInt8:=af s k::(s.data.toList.drop (k+1)).takeWhile az
theorem mi (s:ByteArray) (i j:Nat):(s.extract i j).data.toList=(s.data.toList.drop i).take (j-i):=by
 rw[ByteArray.data_extract,Array.toList_extract,List.extract_eq_drop_take]
theorem bD (s:ByteArray) (i n:Nat):(s.extract i (i+n)).data.toList=(s.data.toList.drop i).take n:=by
 rw[mi,show i+n-i=n by omega]
theorem ai (s:ByteArray):s.data.toList.length=s.size:=by simp
set_option maxRecDepth 100000 in
set_option maxHeartbeats 4000000 in
theorem mR (w0 w:World) (P:Nat) (s:ByteArray) (k:Nat) (ts:List LTok) (h:Rd w0 w P s k ts) (he:Env w0) (hk:k<s.size) (hs:s.size<=1048576) (hn:ts.length<=1048576)
  (hb:(af s k).toNat=45) (v:Int) (h0: -9223372036854775808<=v) (h1:v<=9223372036854775807) (hp:Lib.parseIntB 64 (bX s k)= .ok v) (hi:Lib.itoa v=bX s k):
  Calls Tryz.prog 130 #[.pointer (some ⟨P,0,none⟩),I k] w fun e w'=>e= .returned (I 0)∧Rd w0 w' P s (k+(bX s k).length) (ts++[⟨2,[],v,k⟩]):=by
 have hpk:=bv w0 w P s k ts h (by omega) (by omega);have hdr:=ch s k hk;have hlen:=ai s;obtain⟨n,hn0⟩:∃n,((s.data.toList.drop (k+1)).takeWhile az).length=n:=⟨_,rfl⟩
 have hle:k+1+n<=s.size:=by
  have:=bF az (s.data.toList.drop (k+1));rw[hn0,List.length_drop] at this;omega
 have hw:=fun W R=>e9 w0 W P s (k+1) ts R (by omega) (by omega)
 rw[hn0] at hw;obtain⟨Dg,hDg⟩:∃Dg,s.extract (k+1) (k+1+n)=Dg:=⟨_,rfl⟩
 have hDl:Dg.data.toList=(s.data.toList.drop (k+1)).takeWhile az:=by rw[<-hDg,bD,<-hn0,bM]
 have hsz:Dg.size<=1048576:=by rw[<-ai,hDl,hn0];omega
 obtain⟨X,hX⟩:∃X,(⟨#[45]⟩:ByteArray)++Dg=X:=⟨_,rfl⟩
 have h45:af s k=45:=UInt8.toNat_inj.1 hb;have hXl:X.data.toList=bX s k:=by
  rw[<-hX,ByteArray.data_append,Array.toList_append,hDl];unfold bX;rw[h45];rfl
 have hXs:X.size<=1048577:=by rw[<-ai,hXl];unfold bX;rw[List.length_cons,hn0];omega
 have hadd:∀w:World,(Op.stringOp .add (⟨#[45]⟩:ByteArray) Dg).run Tryz.prog w= .ok (.string X) w:=fun w=>by
  rw[<-hX];exact run_string_add_sum w _ _ (by show 1+Dg.size<=_;omega)
 have HKL:Hid (k+1+n=k+(bX s k).length):=Lib.hid (by unfold bX;rw[List.length_cons,hn0];omega);have e45:(((af s k).toNat:Int)==45)=true:=by rw[hb];rfl
 have hpar:=fun W=>jp W X (by omega) v (by rw[hXl];exact hp)
 have hfmt:=fun W (E:New w0 W)=>j7 W v h0 h1 (he.new E)
 obtain⟨F,hF⟩:∃F,cC v=F:=⟨_,rfl⟩
 rw[hF] at hfmt;obtain rfl:F=X:=by
  rw[<-hF];apply ByteArray.ext;apply Array.toList_inj.1;rw[hXl,<-hi];unfold cC;rfl
 have hcmp:=oH F;have hput:=fun W (k1:Nat) R=>dT w0 W P s k1 ts R 2 [] v k (by omega)
 clear hF;obtain⟨b,hbb⟩:∃b:Int,((af s k).toNat:Int)=b:=⟨_,rfl⟩
 rw[hbb] at hpk e45;rw[hDg] at hw;clear hbb hDg hDl hXl hX hdr hn0 hlen h45 hb hp hi;go_enter Tryz.func130,Tryz.ntmps130;go_wp2_with fail;refine hpk.mono ?_;rintro e w2 ⟨rfl,n2⟩;have hR2:=h.new n2;obtain⟨_,y0,y1,_,hB2⟩:=hR2.cells;have HR3:=Lib.hid (hR2.go (k+1));clear hR2 hpk h;go_wp2_with fail;refine(hw _ HR3.out).mono ?_;rintro e w4 ⟨rfl,hR4⟩;go_wp2_with fail;refine(hpar _).mono ?_;rintro e w5 ⟨rfl,n5⟩;have hR5:=hR4.new n5;clear hR4;go_wp2_with fail;refine(hfmt _ hR5.nw).mono ?_;rintro e w6 ⟨rfl,n6⟩;have hR6:=hR5.new n6;clear hR5;go_wp2_with fail;refine(hput _ _ hR6).mono ?_;rintro e w7 ⟨rfl,hR7⟩;have HR7:=Lib.hid hR7;clear hR7 hR6;go_wp2_with fail;go_ret
 exact⟨rfl,by rw[<-HKL.out];exact HR7.out⟩
set_option maxRecDepth 100000 in
set_option maxHeartbeats 4000000 in
theorem ll (w0 w:World) (P:Nat) (s:ByteArray) (k:Nat) (ts:List LTok) (h:Rd w0 w P s k ts) (he:Env w0) (hk:k<s.size) (hs:s.size<=1048576) (hn:ts.length<=1048576)
  (hb:(af s k).toNat=45) (v:Int) (h0: -9223372036854775808<=v) (h1:v<=9223372036854775807) (hp:Lib.parseIntB 64 (bX s k)= .ok v) (hi:Lib.itoa v≠bX s k):
  Calls Tryz.prog 130 #[.pointer (some ⟨P,0,none⟩),I k] w fun e w'=>e= .returned (I 41)∧∃k',Rd w0 w' P s k' ts:=by
 have hpk:=bv w0 w P s k ts h (by omega) (by omega);have hdr:=ch s k hk;have hlen:=ai s;obtain⟨n,hn0⟩:∃n,((s.data.toList.drop (k+1)).takeWhile az).length=n:=⟨_,rfl⟩
 have hle:k+1+n<=s.size:=by
  have:=bF az (s.data.toList.drop (k+1));rw[hn0,List.length_drop] at this;omega
 have hw:=fun W R=>e9 w0 W P s (k+1) ts R (by omega) (by omega)
 rw[hn0] at hw;obtain⟨Dg,hDg⟩:∃Dg,s.extract (k+1) (k+1+n)=Dg:=⟨_,rfl⟩
 have hDl:Dg.data.toList=(s.data.toList.drop (k+1)).takeWhile az:=by rw[<-hDg,bD,<-hn0,bM]
 have hsz:Dg.size<=1048576:=by rw[<-ai,hDl,hn0];omega
 obtain⟨X,hX⟩:∃X,(⟨#[45]⟩:ByteArray)++Dg=X:=⟨_,rfl⟩
 have h45:af s k=45:=UInt8.toNat_inj.1 hb;have hXl:X.data.toList=bX s k:=by
  rw[<-hX,ByteArray.data_append,Array.toList_append,hDl];unfold bX;rw[h45];rfl
 have hXs:X.size<=1048577:=by rw[<-ai,hXl];unfold bX;rw[List.length_cons,hn0];omega
 have hadd:∀w:World,(Op.stringOp .add (⟨#[45]⟩:ByteArray) Dg).run Tryz.prog w= .ok (.string X) w:=fun w=>by
  rw[<-hX];exact run_string_add_sum w _ _ (by show 1+Dg.size<=_;omega)
 have HKL:Hid (k+1+n=k+(bX s k).length):=Lib.hid (by unfold bX;rw[List.length_cons,hn0];omega);have e45:(((af s k).toNat:Int)==45)=true:=by rw[hb];rfl
 have hpar:=fun W=>jp W X (by omega) v (by rw[hXl];exact hp)
 have hfmt:=fun W (E:New w0 W)=>j7 W v h0 h1 (he.new E)
 obtain⟨F,hF⟩:∃F,cC v=F:=⟨_,rfl⟩
 rw[hF] at hfmt;have hcmp:(F.toList==X.toList)=false:=sK (by rw[hXl,<-hF];exact hi);clear hF;obtain⟨b,hbb⟩:∃b:Int,((af s k).toNat:Int)=b:=⟨_,rfl⟩
 rw[hbb] at hpk e45;rw[hDg] at hw;clear hbb hDg hDl hXl hX hdr hn0 hlen h45 hb hp hi;go_enter Tryz.func130,Tryz.ntmps130;go_wp2_with fail;refine hpk.mono ?_;rintro e w2 ⟨rfl,n2⟩;have hR2:=h.new n2;obtain⟨_,y0,y1,_,hB2⟩:=hR2.cells;have HR3:=Lib.hid (hR2.go (k+1));clear hR2 hpk h;go_wp2_with fail;refine(hw _ HR3.out).mono ?_;rintro e w4 ⟨rfl,hR4⟩;go_wp2_with fail;refine(hpar _).mono ?_;rintro e w5 ⟨rfl,n5⟩;have hR5:=hR4.new n5;clear hR4;go_wp2_with fail;refine(hfmt _ hR5.nw).mono ?_;rintro e w6 ⟨rfl,n6⟩;have hR6:=hR5.new n6;clear hR5;have HR6:=Lib.hid hR6;clear hR6;go_wp2_with fail;go_ret
 exact⟨rfl,_,HR6.out⟩
set_option maxRecDepth 100000 in
set_option maxHeartbeats 4000000 in
theorem mf (w0 w:World) (P:Nat) (s:ByteArray) (k:Nat) (ts:List LTok) (h:Rd w0 w P s k ts) (he:Env w0) (hk:k<s.size) (hs:s.size<=1048576) (hn:ts.length<=1048576)
  (hb:(af s k).toNat=45) (hp:Lib.parseIntB 64 (bX s k)= .range):
  Calls Tryz.prog 130 #[.pointer (some ⟨P,0,none⟩),I k] w fun e w'=>e= .returned (I 41)∧∃k',Rd w0 w' P s k' ts:=by
 have hpk:=bv w0 w P s k ts h (by omega) (by omega);have hdr:=ch s k hk;have hlen:=ai s;obtain⟨n,hn0⟩:∃n,((s.data.toList.drop (k+1)).takeWhile az).length=n:=⟨_,rfl⟩
 have hle:k+1+n<=s.size:=by
  have:=bF az (s.data.toList.drop (k+1));rw[hn0,List.length_drop] at this;omega
 have hw:=fun W R=>e9 w0 W P s (k+1) ts R (by omega) (by omega)
 rw[hn0] at hw;obtain⟨Dg,hDg⟩:∃Dg,s.extract (k+1) (k+1+n)=Dg:=⟨_,rfl⟩
 have hDl:Dg.data.toList=(s.data.toList.drop (k+1)).takeWhile az:=by rw[<-hDg,bD,<-hn0,bM]
 have hsz:Dg.size<=1048576:=by rw[<-ai,hDl,hn0];omega
 obtain⟨X,hX⟩:∃X,(⟨#[45]⟩:ByteArray)++Dg=X:=⟨_,rfl⟩
 have h45:af s k=45:=UInt8.toNat_inj.1 hb;have hXl:X.data.toList=bX s k:=by
  rw[<-hX,ByteArray.data_append,Array.toList_append,hDl];unfold bX;rw[h45];rfl
 have hXs:X.size<=1048577:=by rw[<-ai,hXl];unfold bX;rw[List.length_cons,hn0];omega
 have hadd:∀w:World,(Op.stringOp .add (⟨#[45]⟩:ByteArray) Dg).run Tryz.prog w= .ok (.string X) w:=fun w=>by
  rw[<-hX];exact run_string_add_sum w _ _ (by show 1+Dg.size<=_;omega)
 have HKL:Hid (k+1+n=k+(bX s k).length):=Lib.hid (by unfold bX;rw[List.length_cons,hn0];omega);have e45:(((af s k).toNat:Int)==45)=true:=by rw[hb];rfl
 have hpar:=fun W (E:New w0 W)=>jS W X (by omega) (by rw[hXl];exact hp) (he.new E)
 obtain⟨b,hbb⟩:∃b:Int,((af s k).toNat:Int)=b:=⟨_,rfl⟩
 rw[hbb] at hpk e45;rw[hDg] at hw;clear hbb hDg hDl hXl hX hdr hn0 hlen h45 hb hp;go_enter Tryz.func130,Tryz.ntmps130;go_wp2_with fail;refine hpk.mono ?_;rintro e w2 ⟨rfl,n2⟩;have hR2:=h.new n2;obtain⟨_,y0,y1,_,hB2⟩:=hR2.cells;have HR3:=Lib.hid (hR2.go (k+1));clear hR2 hpk h;go_wp2_with fail;refine(hw _ HR3.out).mono ?_;rintro e w4 ⟨rfl,hR4⟩;go_wp2_with fail;refine(hpar _ hR4.nw).mono ?_;rintro e w5 ⟨sat,T,a,rfl,n5⟩;have HR5:=Lib.hid (hR4.new n5);clear hR4;go_wp2_with fail;go_ret
 exact⟨rfl,_,HR5.out⟩
set_option maxRecDepth 100000 in
set_option maxHeartbeats 4000000 in
theorem mS (w0 w:World) (P:Nat) (s:ByteArray) (k:Nat) (ts:List LTok) (h:Rd w0 w P s k ts) (he:Env w0) (hk:k<s.size) (hs:s.size<=1048576) (hn:ts.length<=1048576)
  (hb:az (af s k)=true) (v:Int) (h0: -9223372036854775808<=v) (h1:v<=9223372036854775807) (hp:Lib.parseIntB 64 (bX s k)= .ok v) (hi:Lib.itoa v=bX s k):
  Calls Tryz.prog 130 #[.pointer (some ⟨P,0,none⟩),I k] w fun e w'=>e= .returned (I 0)∧Rd w0 w' P s (k+(bX s k).length) (ts++[⟨2,[],v,k⟩]):=by
 have hpk:=bv w0 w P s k ts h (by omega) (by omega);have hdr:=ch s k hk;have hlen:=ai s;obtain⟨n,hn0⟩:∃n,((s.data.toList.drop k).takeWhile az).length=n:=⟨_,rfl⟩
 have hle:k+n<=s.size:=by
  have:=bF az (s.data.toList.drop k);rw[hn0,List.length_drop] at this;omega
 have hw:=fun W R=>e9 w0 W P s k ts R (by omega) (by omega)
 rw[hn0] at hw;obtain⟨Dg,hDg⟩:∃Dg,s.extract k (k+n)=Dg:=⟨_,rfl⟩
 have hD0:(s.data.toList.drop k).takeWhile az=bX s k:=by unfold bX;rw[hdr,List.takeWhile_cons,if_pos hb]
 have hDl:Dg.data.toList=bX s k:=by rw[<-hDg,bD,<-hn0,bM,hD0]
 have hsz:Dg.size<=1048576:=by rw[<-ai,hDl,<-hD0,hn0];omega
 obtain⟨X,hX⟩:∃X,(⟨#[]⟩:ByteArray)++Dg=X:=⟨_,rfl⟩
 have hXl:X.data.toList=bX s k:=by
  rw[<-hX,ByteArray.data_append,Array.toList_append,hDl];rfl
 have hXs:X.size<=1048577:=by rw[<-ai,hXl,<-hDl,ai];omega
 have hadd:∀w:World,(Op.stringOp .add (⟨#[]⟩:ByteArray) Dg).run Tryz.prog w= .ok (.string X) w:=fun w=>by
  rw[<-hX];exact run_string_add_sum w _ _ (by show 0+Dg.size<=_;omega)
 have HKL:Hid (k+n=k+(bX s k).length):=Lib.hid (by rw[<-hn0,hD0]);have e45:(((af s k).toNat:Int)==45)=false:=by
  have:=(bE _).1 hb;simpa using fun h:((af s k).toNat:Int)=45=>by omega
 have hpar:=fun W=>jp W X (by omega) v (by rw[hXl];exact hp)
 have hfmt:=fun W (E:New w0 W)=>j7 W v h0 h1 (he.new E)
 obtain⟨F,hF⟩:∃F,cC v=F:=⟨_,rfl⟩
 rw[hF] at hfmt;obtain rfl:F=X:=by
  rw[<-hF];apply ByteArray.ext;apply Array.toList_inj.1;rw[hXl,<-hi];unfold cC;rfl
 have hcmp:=oH F;have hput:=fun W (k1:Nat) R=>dT w0 W P s k1 ts R 2 [] v k (by omega)
 clear hF;obtain⟨b,hbb⟩:∃b:Int,((af s k).toNat:Int)=b:=⟨_,rfl⟩
 rw[hbb] at hpk e45;rw[hDg] at hw;clear hbb hDg hDl hXl hX hdr hn0 hlen hD0 hb hp hi;go_enter Tryz.func130,Tryz.ntmps130;go_wp2_with fail;refine hpk.mono ?_;rintro e w2 ⟨rfl,n2⟩;have hR2:=h.new n2;clear hpk h;go_wp2_with fail;refine(hw _ hR2).mono ?_;rintro e w4 ⟨rfl,hR4⟩;go_wp2_with fail;refine(hpar _).mono ?_;rintro e w5 ⟨rfl,n5⟩;have hR5:=hR4.new n5;clear hR4;go_wp2_with fail;refine(hfmt _ hR5.nw).mono ?_;rintro e w6 ⟨rfl,n6⟩;have hR6:=hR5.new n6;clear hR5;go_wp2_with fail;refine(hput _ _ hR6).mono ?_;rintro e w7 ⟨rfl,hR7⟩;have HR7:=Lib.hid hR7;clear hR7 hR6;go_wp2_with fail;go_ret
 exact⟨rfl,by rw[<-HKL.out];exact HR7.out⟩
set_option maxRecDepth 100000 in
set_option maxHeartbeats 4000000 in
theorem lm (w0 w:World) (P:Nat) (s:ByteArray) (k:Nat) (ts:List LTok) (h:Rd w0 w P s k ts) (he:Env w0) (hk:k<s.size) (hs:s.size<=1048576) (hn:ts.length<=1048576)
  (hb:az (af s k)=true) (v:Int) (h0: -9223372036854775808<=v) (h1:v<=9223372036854775807) (hp:Lib.parseIntB 64 (bX s k)= .ok v) (hi:Lib.itoa v≠bX s k):
  Calls Tryz.prog 130 #[.pointer (some ⟨P,0,none⟩),I k] w fun e w'=>e= .returned (I 41)∧∃k',Rd w0 w' P s k' ts:=by
 have hpk:=bv w0 w P s k ts h (by omega) (by omega);have hdr:=ch s k hk;have hlen:=ai s;obtain⟨n,hn0⟩:∃n,((s.data.toList.drop k).takeWhile az).length=n:=⟨_,rfl⟩
 have hle:k+n<=s.size:=by
  have:=bF az (s.data.toList.drop k);rw[hn0,List.length_drop] at this;omega
 have hw:=fun W R=>e9 w0 W P s k ts R (by omega) (by omega)
 rw[hn0] at hw;obtain⟨Dg,hDg⟩:∃Dg,s.extract k (k+n)=Dg:=⟨_,rfl⟩
 have hD0:(s.data.toList.drop k).takeWhile az=bX s k:=by unfold bX;rw[hdr,List.takeWhile_cons,if_pos hb]
 have hDl:Dg.data.toList=bX s k:=by rw[<-hDg,bD,<-hn0,bM,hD0]
 have hsz:Dg.size<=1048576:=by rw[<-ai,hDl,<-hD0,hn0];omega
 obtain⟨X,hX⟩:∃X,(⟨#[]⟩:ByteArray)++Dg=X:=⟨_,rfl⟩
 have hXl:X.data.toList=bX s k:=by
  rw[<-hX,ByteArray.data_append,Array.toList_append,hDl];rfl
 have hXs:X.size<=1048577:=by rw[<-ai,hXl,<-hDl,ai];omega
 have hadd:∀w:World,(Op.stringOp .add (⟨#[]⟩:ByteArray) Dg).run Tryz.prog w= .ok (.string X) w:=fun w=>by
  rw[<-hX];exact run_string_add_sum w _ _ (by show 0+Dg.size<=_;omega)
 have HKL:Hid (k+n=k+(bX s k).length):=Lib.hid (by rw[<-hn0,hD0]);have e45:(((af s k).toNat:Int)==45)=false:=by
  have:=(bE _).1 hb;simpa using fun h:((af s k).toNat:Int)=45=>by omega
 have hpar:=fun W=>jp W X (by omega) v (by rw[hXl];exact hp)
 have hfmt:=fun W (E:New w0 W)=>j7 W v h0 h1 (he.new E)
 obtain⟨F,hF⟩:∃F,cC v=F:=⟨_,rfl⟩
 rw[hF] at hfmt;have hcmp:(F.toList==X.toList)=false:=sK (by rw[hXl,<-hF];exact hi);clear hF;obtain⟨b,hbb⟩:∃b:Int,((af s k).toNat:Int)=b:=⟨_,rfl⟩
 rw[hbb] at hpk e45;rw[hDg] at hw;clear hbb hDg hDl hXl hX hdr hn0 hlen hD0 hb hp hi;go_enter Tryz.func130,Tryz.ntmps130;go_wp2_with fail;refine hpk.mono ?_;rintro e w2 ⟨rfl,n2⟩;have hR2:=h.new n2;clear hpk h;go_wp2_with fail;refine(hw _ hR2).mono ?_;rintro e w4 ⟨rfl,hR4⟩;go_wp2_with fail;refine(hpar _).mono ?_;rintro e w5 ⟨rfl,n5⟩;have hR5:=hR4.new n5;clear hR4;go_wp2_with fail;refine(hfmt _ hR5.nw).mono ?_;rintro e w6 ⟨rfl,n6⟩;have hR6:=hR5.new n6;clear hR5;have HR6:=Lib.hid hR6;clear hR6;go_wp2_with fail;go_ret
 exact⟨rfl,_,HR6.out⟩
set_option maxRecDepth 100000 in
set_option maxHeartbeats 4000000 in
theorem mh (w0 w:World) (P:Nat) (s:ByteArray) (k:Nat) (ts:List LTok) (h:Rd w0 w P s k ts) (he:Env w0) (hk:k<s.size) (hs:s.size<=1048576) (hn:ts.length<=1048576)
  (hb:az (af s k)=true) (hp:Lib.parseIntB 64 (bX s k)= .range):
  Calls Tryz.prog 130 #[.pointer (some ⟨P,0,none⟩),I k] w fun e w'=>e= .returned (I 41)∧∃k',Rd w0 w' P s k' ts:=by
 have hpk:=bv w0 w P s k ts h (by omega) (by omega);have hdr:=ch s k hk;have hlen:=ai s;obtain⟨n,hn0⟩:∃n,((s.data.toList.drop k).takeWhile az).length=n:=⟨_,rfl⟩
 have hle:k+n<=s.size:=by
  have:=bF az (s.data.toList.drop k);rw[hn0,List.length_drop] at this;omega
 have hw:=fun W R=>e9 w0 W P s k ts R (by omega) (by omega)
 rw[hn0] at hw;obtain⟨Dg,hDg⟩:∃Dg,s.extract k (k+n)=Dg:=⟨_,rfl⟩
 have hD0:(s.data.toList.drop k).takeWhile az=bX s k:=by unfold bX;rw[hdr,List.takeWhile_cons,if_pos hb]
 have hDl:Dg.data.toList=bX s k:=by rw[<-hDg,bD,<-hn0,bM,hD0]
 have hsz:Dg.size<=1048576:=by rw[<-ai,hDl,<-hD0,hn0];omega
 obtain⟨X,hX⟩:∃X,(⟨#[]⟩:ByteArray)++Dg=X:=⟨_,rfl⟩
 have hXl:X.data.toList=bX s k:=by
  rw[<-hX,ByteArray.data_append,Array.toList_append,hDl];rfl
 have hXs:X.size<=1048577:=by rw[<-ai,hXl,<-hDl,ai];omega
 have hadd:∀w:World,(Op.stringOp .add (⟨#[]⟩:ByteArray) Dg).run Tryz.prog w= .ok (.string X) w:=fun w=>by
  rw[<-hX];exact run_string_add_sum w _ _ (by show 0+Dg.size<=_;omega)
 have HKL:Hid (k+n=k+(bX s k).length):=Lib.hid (by rw[<-hn0,hD0]);have e45:(((af s k).toNat:Int)==45)=false:=by
  have:=(bE _).1 hb;simpa using fun h:((af s k).toNat:Int)=45=>by omega
 have hpar:=fun W (E:New w0 W)=>jS W X (by omega) (by rw[hXl];exact hp) (he.new E)
 obtain⟨b,hbb⟩:∃b:Int,((af s k).toNat:Int)=b:=⟨_,rfl⟩
 rw[hbb] at hpk e45;rw[hDg] at hw;clear hbb hDg hDl hXl hX hdr hn0 hlen hD0 hb hp;go_enter Tryz.func130,Tryz.ntmps130;go_wp2_with fail;refine hpk.mono ?_;rintro e w2 ⟨rfl,n2⟩;have hR2:=h.new n2;clear hpk h;go_wp2_with fail;refine(hw _ hR2).mono ?_;rintro e w4 ⟨rfl,hR4⟩;go_wp2_with fail;refine(hpar _ hR4.nw).mono ?_;rintro e w5 ⟨sat,T,a,rfl,n5⟩;have HR5:=Lib.hid (hR4.new n5);clear hR4;go_wp2_with fail;go_ret
 exact⟨rfl,_,HR5.out⟩
theorem mQ (w0 w:World) (P:Nat) (s:ByteArray) (k:Nat) (ts:List LTok) (h:Rd w0 w P s k ts) (he:Env w0) (hk:k<s.size) (hs:s.size<=1048576) (hn:ts.length<=1048576)
  (hb:az (af s k)=true∨((af s k).toNat=45∧az (af s (k+1))=true)):
  Calls Tryz.prog 130 #[.pointer (some ⟨P,0,none⟩),I k] w fun e w'=>
   (∃v,gz (bX s k)=some v∧e= .returned (I 0)∧Rd w0 w' P s (k+(bX s k).length) (ts++[⟨2,[],v,k⟩]))∨(gz (bX s k)=none∧e= .returned (I 41)∧∃k',Rd w0 w' P s k' ts):=by
 have ha:=gp az (s.data.toList.drop (k+1));rcases hb with hb|⟨hb,hd⟩
 ·rcases kI (af s k) ((s.data.toList.drop (k+1)).takeWhile az) (by simp only[List.all_cons,hb,ha,Bool.and_self]) with⟨v,h1,h2,h3⟩|⟨h1,h2|⟨v,h2,h3⟩⟩
  ·have hr:=kJ _ _ h1;exact(mS w0 w P s k ts h he hk hs hn hb v hr.1 hr.2 h2 h3).mono fun e w' hp=>Or.inl ⟨v,h1,hp⟩
  ·exact(mh w0 w P s k ts h he hk hs hn hb h2).mono fun e w' hp=>Or.inr ⟨h1,hp⟩
  ·have hr:=Lib.parseIntB_bounds h2;exact(lm w0 w P s k ts h he hk hs hn hb v (by have:=hr.1;simp at this;omega) (by have:=hr.2;simp at this;omega) h2 h3).mono fun e w' hp=>Or.inr ⟨h1,hp⟩
 ·have h45:af s k=45:=UInt8.toNat_inj.1 hb;have hne:(s.data.toList.drop (k+1)).takeWhile az≠[]:=by
   have hd2:az ((s.data.toList.drop (k+1)).headD 0)=true:=hd;obtain⟨r',e⟩:=gT _ (fun e=>by rw[e] at hd2;exact absurd hd2 (by decide));rw[e,List.takeWhile_cons,if_pos hd2];simp
  have hD:bX s k=45::(s.data.toList.drop (k+1)).takeWhile az:=by unfold bX;rw[h45]
  rcases kF _ hne ha with⟨v,h1,h2,h3⟩|⟨h1,h2|⟨v,h2,h3⟩⟩
  ·rw[<-hD] at h1 h2 h3;have hr:=kJ _ _ h1;exact(mR w0 w P s k ts h he hk hs hn hb v hr.1 hr.2 h2 h3).mono fun e w' hp=>Or.inl ⟨v,h1,hp⟩
  ·rw[<-hD] at h1 h2;exact(mf w0 w P s k ts h he hk hs hn hb h2).mono fun e w' hp=>Or.inr ⟨h1,hp⟩
  ·rw[<-hD] at h1 h2 h3;have hr:=Lib.parseIntB_bounds h2;exact(ll w0 w P s k ts h he hk hs hn hb v (by have:=hr.1;simp at this;omega) (by have:=hr.2;simp at this;omega) h2 h3).mono fun e w' hp=>Or.inr ⟨h1,hp⟩
end Go.Proofs.YtnedmonlofbahaaGreatDoor
