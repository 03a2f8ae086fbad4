/-
  LexD, LexQ, LexE, LexF, LexG, LexH, LexI, LexJ: what is wanted of them.
-/
import Derived.Test.YtnedmonlofbahaaGreatDoorLxA
import Derived.Laws.BytesArg
set_option maxRecDepth 100000
set_option maxHeartbeats 4000000
namespace Go.Proofs.YtnedmonlofbahaaGreatDoor
open Go Go.RowKit Go.Joins
set_option linter.all false
def ch (w0:World) (P:Nat) (s:ByteArray) (k:Nat) (ts:List LTok) (e:Ending) (w':World):Prop:=
 match cZ (s.data.toList.drop k) with
 | .good so tx nu len=>e= .returned (I 0)∧Rd w0 w' P s (k+len) (ts++[⟨so,tx,nu,k⟩])
 | .bad c=>e= .returned (I c)∧∃k',Rd w0 w' P s k' ts
theorem fO {w0:World} {P:Nat} {s:ByteArray} {k:Nat} {ts:List LTok} {w':World} {so nu:Int} {tx:List UInt8} {len:Nat} (ht:cZ (s.data.toList.drop k)= .good so tx nu len) (h:Rd w0 w' P s (k+len) (ts++[⟨so,tx,nu,k⟩])):ch w0 P s k ts (.returned (I 0)) w':=by
 unfold ch;rw[ht];exact⟨rfl,h⟩
theorem lJ {w0:World} {P:Nat} {s:ByteArray} {k k':Nat} {ts:List LTok} {w':World} {c:Int} (ht:cZ (s.data.toList.drop k)= .bad c) (h:Rd w0 w' P s k' ts):ch w0 P s k ts (.returned (I c)) w':=by
 unfold ch;rw[ht];exact⟨rfl,k',h⟩
theorem zX (b:UInt8) (k:Nat):((b.toNat:Int)==(k:Int))=decide (b.toNat=k):=by
 by_cases h:b.toNat=k
 ·rw[h];simp
 ·rw[decide_eq_false h];simpa using fun h2:(b.toNat:Int)=(k:Int)=>h (by omega)
theorem gL {b:UInt8} {k:Nat} (h:b.toNat=k):((b.toNat:Int)==(k:Int))=true:=by rw[zX,decide_eq_true h]
theorem dU {b:UInt8} {k:Nat} (h:b.toNat≠k):((b.toNat:Int)==(k:Int))=false:=by rw[zX,decide_eq_false h]
theorem vE (w0 w:World) (P:Nat) (s:ByteArray) (k:Nat) (ts:List LTok) (h:Rd w0 w P s k ts) (he:Env w0) (hk:k<s.size) (hs:s.size<=1048576) (hn:ts.length<=1048576)
  (hl:df (af s k)=true) (h16:16<((s.data.toList.drop k).takeWhile cg).length):
  Calls Tryz.prog 90 #[.pointer (some ⟨P,0,none⟩)] w (ch w0 P s k ts):=by
 obtain⟨PO,hPO⟩:∃PO,PO=ch w0 P s k ts:=⟨_,rfl⟩
 rw[<-hPO];have HPO:=Lib.hid hPO;have hdr:=cF s k hk;have hpk:=bG w0 w P s k ts h (by omega) (by omega);have cI:=fun W=>dc W ((af s k).toNat:Int)
 have aU:=am s;have fC:=(af s k).toNat_lt;clear hPO;have HT:Hid (cZ (s.data.toList.drop k)= .bad 42):=Lib.hid (by
  rw[hdr] at h16 ⊢;rw[aY,if_pos hl,if_pos h16])
 obtain⟨tx,htx⟩:∃tx,(s.data.toList.drop k).takeWhile cg=tx:=⟨_,rfl⟩
 have hle:k+tx.length<=s.size:=by
  have:=bX cg (s.data.toList.drop k);rw[htx,List.length_drop] at this;omega
 have hw:=fun W R=>o6 w0 W P s k ts R (by omega) (by omega)
 rw[htx] at hw h16;obtain⟨Wd,hWd⟩:∃Wd,s.extract k (k+tx.length)=Wd:=⟨_,rfl⟩
 have hWl:Wd.data.toList=tx:=by rw[<-hWd,bT,<-htx,bH]
 have hWe:(⟨tx.toArray⟩:ByteArray)=Wd:=by apply ByteArray.ext;rw[<-hWl]
 have hsz:Wd.size=tx.length:=by rw[<-am,hWl]
 rw[hWd] at hw;have hd:decide (16<(Wd.size:Int))=true:=decide_eq_true (by omega);have hWb:Wd.size<=1048576:=by omega
 have e1:bg ((af s k).toNat:Int)=true:=hl;rw[e1] at cI;obtain⟨b,hbb⟩:∃b:Int,((af s k).toNat:Int)=b:=⟨_,rfl⟩
 rw[hbb] at hpk cI;clear hbb hWd hWl hWe hsz htx hdr aU hl e1 fC h16;go_enter Tryz.func90,Tryz.ntmps90;obtain⟨_,c1,_,_,hB⟩:=h.cells;go_wp2_with fail;refine hpk.mono ?_;rintro e w2 ⟨rfl,n2⟩;have hR2:=h.new n2;clear hpk h c1;go_wp2_with fail;refine(cI _).mono ?_;rintro e w3 ⟨rfl,rfl⟩;go_wp2_with fail;refine(hw _ hR2).mono ?_;rintro e w4 ⟨rfl,hR4⟩;clear hR2 hw cI;have HR4:=Lib.hid hR4;clear hR4;go_wp2_with fail;rw[HPO.out];exact lJ HT.out HR4.out
theorem vH (w0 w:World) (P:Nat) (s:ByteArray) (k:Nat) (ts:List LTok) (h:Rd w0 w P s k ts) (he:Env w0) (hk:k<s.size) (hs:s.size<=1048576) (hn:ts.length<=1048576)
  (hl:df (af s k)=true) (h16:¬16<((s.data.toList.drop k).takeWhile cg).length):
  Calls Tryz.prog 90 #[.pointer (some ⟨P,0,none⟩)] w (ch w0 P s k ts):=by
 obtain⟨PO,hPO⟩:∃PO,PO=ch w0 P s k ts:=⟨_,rfl⟩
 rw[<-hPO];have HPO:=Lib.hid hPO;have hdr:=cF s k hk;have hpk:=bG w0 w P s k ts h (by omega) (by omega);have cI:=fun W=>dc W ((af s k).toNat:Int)
 have aU:=am s;have fC:=(af s k).toNat_lt;clear hPO;have HT:Hid (cZ (s.data.toList.drop k)= .good 1 ((s.data.toList.drop k).takeWhile cg) 0 ((s.data.toList.drop k).takeWhile cg).length):=Lib.hid (by
  rw[hdr] at h16 ⊢;rw[aY,if_pos hl,if_neg h16])
 obtain⟨tx,htx⟩:∃tx,(s.data.toList.drop k).takeWhile cg=tx:=⟨_,rfl⟩
 have hle:k+tx.length<=s.size:=by
  have:=bX cg (s.data.toList.drop k);rw[htx,List.length_drop] at this;omega
 have hw:=fun W R=>o6 w0 W P s k ts R (by omega) (by omega)
 rw[htx] at hw HT h16;obtain⟨Wd,hWd⟩:∃Wd,s.extract k (k+tx.length)=Wd:=⟨_,rfl⟩
 have hWl:Wd.data.toList=tx:=by rw[<-hWd,bT,<-htx,bH]
 have hWe:(⟨tx.toArray⟩:ByteArray)=Wd:=by apply ByteArray.ext;rw[<-hWl]
 have hsz:Wd.size=tx.length:=by rw[<-am,hWl]
 rw[hWd] at hw;have hd:decide (16<(Wd.size:Int))=false:=decide_eq_false (by omega);have hWb:Wd.size<=1048576:=by omega
 have dJ:=fun W (k1:Nat) R=>fq w0 W P s k1 ts R 1 tx 0 k (by omega)
 rw[hWe] at dJ;have e1:bg ((af s k).toNat:Int)=true:=hl;rw[e1] at cI;obtain⟨b,hbb⟩:∃b:Int,((af s k).toNat:Int)=b:=⟨_,rfl⟩
 rw[hbb] at hpk cI;clear hbb hWd hWl hWe hsz htx hdr aU hl e1 fC h16;go_enter Tryz.func90,Tryz.ntmps90;obtain⟨_,c1,_,_,hB⟩:=h.cells;go_wp2_with fail;refine hpk.mono ?_;rintro e w2 ⟨rfl,n2⟩;have hR2:=h.new n2;clear hpk h c1;go_wp2_with fail;refine(cI _).mono ?_;rintro e w3 ⟨rfl,rfl⟩;go_wp2_with fail;refine(hw _ hR2).mono ?_;rintro e w4 ⟨rfl,hR4⟩;clear hR2 hw cI;go_wp2_with fail;refine(dJ _ _ hR4).mono ?_;rintro e w5 ⟨rfl,hR5⟩;have HR5:=Lib.hid hR5;clear hR4 hR5 dJ;go_wp2_with fail;rw[HPO.out];exact fO HT.out HR5.out
theorem tb (w0 w:World) (P:Nat) (s:ByteArray) (k:Nat) (ts:List LTok) (h:Rd w0 w P s k ts) (he:Env w0) (hk:k<s.size) (hs:s.size<=1048576) (hn:ts.length<=1048576)
  (hl:df (af s k)=false) (hd:aq (af s k)=true):
  Calls Tryz.prog 90 #[.pointer (some ⟨P,0,none⟩)] w (ch w0 P s k ts):=by
 obtain⟨PO,hPO⟩:∃PO,PO=ch w0 P s k ts:=⟨_,rfl⟩
 rw[<-hPO];have HPO:=Lib.hid hPO;have hdr:=cF s k hk;have hpk:=bG w0 w P s k ts h (by omega) (by omega);have cI:=fun W=>dc W ((af s k).toNat:Int)
 have aU:=am s;have fC:=(af s k).toNat_lt;clear hPO;have jN:=fun W R=>rr w0 W P s k ts R he hk hs hn (Or.inl hd)
 have HT1:Hid (∀v,fU (cy s k)=some v->cZ (s.data.toList.drop k)= .good 2 [] v (cy s k).length):=Lib.hid (by
  intro v hv;rw[hdr,aY,if_neg (by rw[hl];simp),if_pos (Or.inl hd)];unfold cy at hv;rw[hv];rfl)
 have HT2:Hid (fU (cy s k)=none->cZ (s.data.toList.drop k)= .bad 41):=Lib.hid (by
  intro hv;rw[hdr,aY,if_neg (by rw[hl];simp),if_pos (Or.inl hd)];unfold cy at hv;rw[hv])
 have e1:bg ((af s k).toNat:Int)=false:=hl;have dB:=fun W=>db W ((af s k).toNat:Int)
 have e2:bw ((af s k).toNat:Int)=true:=hd;rw[e1] at cI;rw[e2] at dB;obtain⟨b,hbb⟩:∃b:Int,((af s k).toNat:Int)=b:=⟨_,rfl⟩
 rw[hbb] at hpk cI dB;clear hbb hdr aU hl hd e1 e2 fC;go_enter Tryz.func90,Tryz.ntmps90;obtain⟨_,c1,_,_,hB⟩:=h.cells;go_wp2_with fail;refine hpk.mono ?_;rintro e w2 ⟨rfl,n2⟩;have hR2:=h.new n2;clear hpk h c1;go_wp2_with fail;refine(cI _).mono ?_;rintro e w3 ⟨rfl,rfl⟩;go_wp2_with fail;refine(dB _).mono ?_;rintro e w4 ⟨rfl,rfl⟩;go_wp2_with fail;refine(jN _ hR2).mono ?_;clear hR2 jN dB cI;rintro e w6 (⟨v,hv,rfl,hR6⟩|⟨hv,rfl,k6,hR6⟩)
 ·have HR6:=Lib.hid (fO (HT1.out v hv) hR6);clear hR6 hv;go_wp2_with fail;rw[HPO.out];exact HR6.out
 ·have HR6:=Lib.hid (lJ (HT2.out hv) hR6);clear hR6 hv;go_wp2_with fail;rw[HPO.out];exact HR6.out
theorem tc (w0 w:World) (P:Nat) (s:ByteArray) (k:Nat) (ts:List LTok) (h:Rd w0 w P s k ts) (he:Env w0) (hk:k<s.size) (hs:s.size<=1048576) (hn:ts.length<=1048576)
  (h45:(af s k).toNat=45) (hd1:aq (af s (k+1))=true):
  Calls Tryz.prog 90 #[.pointer (some ⟨P,0,none⟩)] w (ch w0 P s k ts):=by
 obtain⟨PO,hPO⟩:∃PO,PO=ch w0 P s k ts:=⟨_,rfl⟩
 rw[<-hPO];have HPO:=Lib.hid hPO;have hdr:=cF s k hk;have hpk:=bG w0 w P s k ts h (by omega) (by omega);have cI:=fun W=>dc W ((af s k).toNat:Int)
 have aU:=am s;have fC:=(af s k).toNat_lt;clear hPO;have hl:df (af s k)=false:=by
  cases e:df (af s k) with
  |false=>rfl
  |true=>have:=(er _).1 e;omega
 have hd:aq (af s k)=false:=by
  cases e:aq (af s k) with
  |false=>rfl
  |true=>have:=(bq _).1 e;omega
 have e45:(((af s k).toNat:Int)==45)=true:=gL (k:=45) h45;have jN:=fun W R=>rr w0 W P s k ts R he hk hs hn (Or.inr ⟨h45,hd1⟩)
 have HT1:Hid (∀v,fU (cy s k)=some v->cZ (s.data.toList.drop k)= .good 2 [] v (cy s k).length):=Lib.hid (by
  intro v hv;rw[hdr,aY,if_neg (by rw[hl];simp),if_pos (Or.inr ⟨h45,hd1⟩)];unfold cy at hv;rw[hv];rfl)
 have HT2:Hid (fU (cy s k)=none->cZ (s.data.toList.drop k)= .bad 41):=Lib.hid (by
  intro hv;rw[hdr,aY,if_neg (by rw[hl];simp),if_pos (Or.inr ⟨h45,hd1⟩)];unfold cy at hv;rw[hv])
 have e1:bg ((af s k).toNat:Int)=false:=hl;have dB:=fun W=>db W ((af s k).toNat:Int)
 have e2:bw ((af s k).toNat:Int)=false:=hd;rw[e1] at cI;rw[e2] at dB;have mB:=fun W R=>lC w0 W P s k ts R (by omega) (by omega)
 have iD:=fun W=>db W ((af s (k+1)).toNat:Int)
 have jv:=(af s (k+1)).toNat_lt;have e3:bw ((af s (k+1)).toNat:Int)=true:=hd1;rw[e3] at iD;obtain⟨b,hbb⟩:∃b:Int,((af s k).toNat:Int)=b:=⟨_,rfl⟩
 obtain⟨b1,rJ⟩:∃b1:Int,((af s (k+1)).toNat:Int)=b1:=⟨_,rfl⟩
 rw[hbb] at hpk cI dB e45;rw[rJ] at mB iD;clear hbb rJ hdr aU hl hd e1 e2 e3 h45 hd1 fC jv;go_enter Tryz.func90,Tryz.ntmps90;obtain⟨_,c1,_,_,hB⟩:=h.cells;go_wp2_with fail;refine hpk.mono ?_;rintro e w2 ⟨rfl,n2⟩;have hR2:=h.new n2;clear hpk h c1;go_wp2_with fail;refine(cI _).mono ?_;rintro e w3 ⟨rfl,rfl⟩;go_wp2_with fail;refine(dB _).mono ?_;rintro e w4 ⟨rfl,rfl⟩;go_wp2_with fail;refine(mB _ hR2).mono ?_;rintro e w5 ⟨rfl,n5⟩;have hR5:=hR2.new n5;clear hR2;go_wp2_with fail;refine(iD _).mono ?_;rintro e w7 ⟨rfl,rfl⟩;go_wp2_with fail;refine(jN _ hR5).mono ?_;clear hR5 jN dB cI mB iD;rintro e w6 (⟨v,hv,rfl,hR6⟩|⟨hv,rfl,k6,hR6⟩)
 ·have HR6:=Lib.hid (fO (HT1.out v hv) hR6);clear hR6 hv;go_wp2_with fail;rw[HPO.out];exact HR6.out
 ·have HR6:=Lib.hid (lJ (HT2.out hv) hR6);clear hR6 hv;go_wp2_with fail;rw[HPO.out];exact HR6.out
theorem s8 (w0 w:World) (P:Nat) (s:ByteArray) (k:Nat) (ts:List LTok) (h:Rd w0 w P s k ts) (he:Env w0) (hk:k<s.size) (hs:s.size<=1048576) (hn:ts.length<=1048576)
  (h45:(af s k).toNat=45) (hd1:aq (af s (k+1))=false) (h62:(af s (k+1)).toNat=62):
  Calls Tryz.prog 90 #[.pointer (some ⟨P,0,none⟩)] w (ch w0 P s k ts):=by
 obtain⟨PO,hPO⟩:∃PO,PO=ch w0 P s k ts:=⟨_,rfl⟩
 rw[<-hPO];have HPO:=Lib.hid hPO;have hdr:=cF s k hk;have hpk:=bG w0 w P s k ts h (by omega) (by omega);have cI:=fun W=>dc W ((af s k).toNat:Int)
 have aU:=am s;have fC:=(af s k).toNat_lt;clear hPO;have hl:df (af s k)=false:=by
  cases e:df (af s k) with
  |false=>rfl
  |true=>have:=(er _).1 e;omega
 have hd:aq (af s k)=false:=by
  cases e:aq (af s k) with
  |false=>rfl
  |true=>have:=(bq _).1 e;omega
 have e45:(((af s k).toNat:Int)==45)=true:=gL (k:=45) h45;have HT:Hid (cZ (s.data.toList.drop k)= .good 3 [45,62] 0 2):=Lib.hid (by
  have hn1:¬(aq (af s k)=true∨((af s k).toNat=45∧aq ((s.data.toList.drop (k+1)).headD 0)=true)):=by
   rintro(x|⟨_,x⟩)
   ·rw[hd] at x;cases x
   ·have:aq (af s (k+1))=true:=x;rw[hd1] at this;cases this
  rw[hdr,aY,if_neg (by rw[hl];simp),if_neg hn1];rw[if_pos ⟨h45,h62⟩])
 have e1:bg ((af s k).toNat:Int)=false:=hl;have dB:=fun W=>db W ((af s k).toNat:Int)
 have e2:bw ((af s k).toNat:Int)=false:=hd;rw[e1] at cI;rw[e2] at dB;have mB:=fun W R=>lC w0 W P s k ts R (by omega) (by omega)
 have iD:=fun W=>db W ((af s (k+1)).toNat:Int)
 have jv:=(af s (k+1)).toNat_lt;have e3:bw ((af s (k+1)).toNat:Int)=false:=hd1;have e62:(((af s (k+1)).toNat:Int)==62)=true:=gL (k:=62) h62;rw[e3] at iD;have dJ:=fun W (k1:Nat) R=>fq w0 W P s k1 ts R 3 [45,62] 0 k (by omega)
 rw[show(⟨[45,62].toArray⟩:ByteArray)=⟨#[45,62]⟩ from rfl] at dJ;have hk2:k+1<s.size:=by
  by_cases x:k+1<s.size
  ·exact x
  ·rw[jp s _ x] at h62;exact absurd h62 (by decide)
 obtain⟨b,hbb⟩:∃b:Int,((af s k).toNat:Int)=b:=⟨_,rfl⟩
 obtain⟨b1,rJ⟩:∃b1:Int,((af s (k+1)).toNat:Int)=b1:=⟨_,rfl⟩
 rw[hbb] at hpk cI dB e45;rw[rJ] at mB iD e62;clear hbb rJ hdr aU hl hd e1 e2 e3 h45 hd1 h62 fC jv;go_enter Tryz.func90,Tryz.ntmps90;obtain⟨_,c1,_,_,hB⟩:=h.cells;go_wp2_with fail;refine hpk.mono ?_;rintro e w2 ⟨rfl,n2⟩;have hR2:=h.new n2;clear hpk h c1;go_wp2_with fail;refine(cI _).mono ?_;rintro e w3 ⟨rfl,rfl⟩;go_wp2_with fail;refine(dB _).mono ?_;rintro e w4 ⟨rfl,rfl⟩;go_wp2_with fail;refine(mB _ hR2).mono ?_;rintro e w5 ⟨rfl,n5⟩;have hR5:=hR2.new n5;clear hR2;go_wp2_with fail;refine(iD _).mono ?_;rintro e w7 ⟨rfl,rfl⟩;go_wp2_with fail;refine(mB _ hR5).mono ?_;rintro e w8 ⟨rfl,n8⟩;have hR8:=hR5.new n8;clear hR5 mB dB iD cI;obtain⟨_,y0,y1,_,hB8⟩:=hR8.cells;have HR9:=Lib.hid (hR8.go (k+2));clear hR8;go_wp2_with fail;refine(dJ _ _ HR9.out).mono ?_;rintro e w9 ⟨rfl,hR9⟩;have HRA:=Lib.hid hR9;clear hR9 dJ;go_wp2_with fail;rw[HPO.out];exact fO HT.out HRA.out
theorem vD (w0 w:World) (P:Nat) (s:ByteArray) (k:Nat) (ts:List LTok) (h:Rd w0 w P s k ts) (he:Env w0) (hk:k<s.size) (hs:s.size<=1048576) (hn:ts.length<=1048576)
  (h45:(af s k).toNat=45) (hd1:aq (af s (k+1))=false) (h62:(af s (k+1)).toNat≠62):
  Calls Tryz.prog 90 #[.pointer (some ⟨P,0,none⟩)] w (ch w0 P s k ts):=by
 obtain⟨PO,hPO⟩:∃PO,PO=ch w0 P s k ts:=⟨_,rfl⟩
 rw[<-hPO];have HPO:=Lib.hid hPO;have hdr:=cF s k hk;have hpk:=bG w0 w P s k ts h (by omega) (by omega);have cI:=fun W=>dc W ((af s k).toNat:Int)
 have aU:=am s;have fC:=(af s k).toNat_lt;clear hPO;have hl:df (af s k)=false:=by
  cases e:df (af s k) with
  |false=>rfl
  |true=>have:=(er _).1 e;omega
 have hd:aq (af s k)=false:=by
  cases e:aq (af s k) with
  |false=>rfl
  |true=>have:=(bq _).1 e;omega
 have e45:(((af s k).toNat:Int)==45)=true:=gL (k:=45) h45;have HT:Hid (cZ (s.data.toList.drop k)= .bad 40):=Lib.hid (by
  have hn1:¬(aq (af s k)=true∨((af s k).toNat=45∧aq ((s.data.toList.drop (k+1)).headD 0)=true)):=by
   rintro(x|⟨_,x⟩)
   ·rw[hd] at x;cases x
   ·have:aq (af s (k+1))=true:=x;rw[hd1] at this;cases this
  rw[hdr,aY,if_neg (by rw[hl];simp),if_neg hn1];rw[if_neg (fun x=>h62 x.2),if_neg (by unfold f5;rw[decide_eq_true_iff];omega)])
 have e1:bg ((af s k).toNat:Int)=false:=hl;have dB:=fun W=>db W ((af s k).toNat:Int)
 have e2:bw ((af s k).toNat:Int)=false:=hd;rw[e1] at cI;rw[e2] at dB;have mB:=fun W R=>lC w0 W P s k ts R (by omega) (by omega)
 have iD:=fun W=>db W ((af s (k+1)).toNat:Int)
 have jv:=(af s (k+1)).toNat_lt;have e3:bw ((af s (k+1)).toNat:Int)=false:=hd1;have e62:(((af s (k+1)).toNat:Int)==62)=false:=dU (k:=62) h62;rw[e3] at iD;have mw:(((af s k).toNat:Int)==123)=false:=dU (k:=123) (by omega);have om:(((af s k).toNat:Int)==125)=false:=dU (k:=125) (by omega);have f61:(((af s k).toNat:Int)==61)=false:=dU (k:=61) (by omega);have f59:(((af s k).toNat:Int)==59)=false:=dU (k:=59) (by omega);have f46:(((af s k).toNat:Int)==46)=false:=dU (k:=46) (by omega);obtain⟨b,hbb⟩:∃b:Int,((af s k).toNat:Int)=b:=⟨_,rfl⟩
 obtain⟨b1,rJ⟩:∃b1:Int,((af s (k+1)).toNat:Int)=b1:=⟨_,rfl⟩
 rw[hbb] at hpk cI dB e45 mw om f61 f59 f46;rw[rJ] at mB iD e62;clear hbb rJ hdr aU hl hd e1 e2 e3 h45 hd1 h62 fC jv;go_enter Tryz.func90,Tryz.ntmps90;obtain⟨_,c1,_,_,hB⟩:=h.cells;go_wp2_with fail;refine hpk.mono ?_;rintro e w2 ⟨rfl,n2⟩;have hR2:=h.new n2;clear hpk h c1;go_wp2_with fail;refine(cI _).mono ?_;rintro e w3 ⟨rfl,rfl⟩;go_wp2_with fail;refine(dB _).mono ?_;rintro e w4 ⟨rfl,rfl⟩;go_wp2_with fail;refine(mB _ hR2).mono ?_;rintro e w5 ⟨rfl,n5⟩;have hR5:=hR2.new n5;clear hR2;go_wp2_with fail;refine(iD _).mono ?_;rintro e w7 ⟨rfl,rfl⟩;go_wp2_with fail;refine(mB _ hR5).mono ?_;rintro e w8 ⟨rfl,n8⟩;have hR8:=hR5.new n8;clear hR5 mB dB iD cI;have HR8:=Lib.hid hR8;clear hR8;go_wp2_with fail;rw[HPO.out];exact lJ HT.out HR8.out
theorem vC (w0 w:World) (P:Nat) (s:ByteArray) (k:Nat) (ts:List LTok) (h:Rd w0 w P s k ts) (he:Env w0) (hk:k<s.size) (hs:s.size<=1048576) (hn:ts.length<=1048576)
  (hl:df (af s k)=false) (hd:aq (af s k)=false) (h45:(af s k).toNat≠45) (hm:f5 (af s k)=false):
  Calls Tryz.prog 90 #[.pointer (some ⟨P,0,none⟩)] w (ch w0 P s k ts):=by
 obtain⟨PO,hPO⟩:∃PO,PO=ch w0 P s k ts:=⟨_,rfl⟩
 rw[<-hPO];have HPO:=Lib.hid hPO;have hdr:=cF s k hk;have hpk:=bG w0 w P s k ts h (by omega) (by omega);have cI:=fun W=>dc W ((af s k).toNat:Int)
 have aU:=am s;have fC:=(af s k).toNat_lt;clear hPO;have HT:Hid (cZ (s.data.toList.drop k)= .bad 40):=Lib.hid (by
  have hn1:¬(aq (af s k)=true∨((af s k).toNat=45∧aq ((s.data.toList.drop (k+1)).headD 0)=true)):=by
   rintro(x|⟨x,_⟩)
   ·rw[hd] at x;cases x
   ·exact h45 x
  rw[hdr,aY,if_neg (by rw[hl];simp),if_neg hn1,if_neg (fun x=>h45 x.1)];rw[if_neg (by rw[hm];simp)])
 unfold f5 at hm;rw[decide_eq_false_iff_not] at hm;have e45:(((af s k).toNat:Int)==45)=false:=dU (k:=45) h45;have mw:(((af s k).toNat:Int)==123)=false:=dU (k:=123) (by omega);have om:(((af s k).toNat:Int)==125)=false:=dU (k:=125) (by omega);have f61:(((af s k).toNat:Int)==61)=false:=dU (k:=61) (by omega);have f59:(((af s k).toNat:Int)==59)=false:=dU (k:=59) (by omega);have f46:(((af s k).toNat:Int)==46)=false:=dU (k:=46) (by omega);have e1:bg ((af s k).toNat:Int)=false:=hl;have dB:=fun W=>db W ((af s k).toNat:Int)
 have e2:bw ((af s k).toNat:Int)=false:=hd;rw[e1] at cI;rw[e2] at dB;obtain⟨b,hbb⟩:∃b:Int,((af s k).toNat:Int)=b:=⟨_,rfl⟩
 rw[hbb] at hpk cI dB e45 mw om f61 f59 f46;clear hbb hdr aU hl hd e1 e2 h45 hm fC;go_enter Tryz.func90,Tryz.ntmps90;obtain⟨_,c1,_,_,hB⟩:=h.cells;go_wp2_with fail;refine hpk.mono ?_;rintro e w2 ⟨rfl,n2⟩;have hR2:=h.new n2;clear hpk h c1;go_wp2_with fail;refine(cI _).mono ?_;rintro e w3 ⟨rfl,rfl⟩;have HR2:=Lib.hid hR2;clear hR2;go_wp2_with fail;refine(dB _).mono ?_;rintro e w4 ⟨rfl,rfl⟩;go_wp2_with fail;rw[HPO.out];exact lJ HT.out HR2.out
theorem vF (w0 w:World) (P:Nat) (s:ByteArray) (k:Nat) (ts:List LTok) (h:Rd w0 w P s k ts) (he:Env w0) (hk:k<s.size) (hs:s.size<=1048576) (hn:ts.length<=1048576)
  (hm:(af s k).toNat=123):
  Calls Tryz.prog 90 #[.pointer (some ⟨P,0,none⟩)] w (ch w0 P s k ts):=by
 obtain⟨PO,hPO⟩:∃PO,PO=ch w0 P s k ts:=⟨_,rfl⟩
 rw[<-hPO];have HPO:=Lib.hid hPO;have hdr:=cF s k hk;have hpk:=bG w0 w P s k ts h (by omega) (by omega);have cI:=fun W=>dc W ((af s k).toNat:Int)
 have aU:=am s;have fC:=(af s k).toNat_lt;clear hPO;have h45:(af s k).toNat≠45:=by omega
 have hl:df (af s k)=false:=by
  cases e:df (af s k) with
  |false=>rfl
  |true=>have:=(er _).1 e;omega
 have hd:aq (af s k)=false:=by
  cases e:aq (af s k) with
  |false=>rfl
  |true=>have:=(bq _).1 e;omega
 have HT:Hid (cZ (s.data.toList.drop k)= .good 3 [af s k] 0 1):=Lib.hid (by
  have hn1:¬(aq (af s k)=true∨((af s k).toNat=45∧aq ((s.data.toList.drop (k+1)).headD 0)=true)):=by
   rintro(x|⟨x,_⟩)
   ·rw[hd] at x;cases x
   ·exact h45 x
  rw[hdr,aY,if_neg (by rw[hl];simp),if_neg hn1,if_neg (fun x=>h45 x.1)];rw[if_pos (by unfold f5;rw[decide_eq_true_iff];omega)])
 have e45:(((af s k).toNat:Int)==45)=false:=dU (k:=45) h45;have mw:(((af s k).toNat:Int)==123)=true:=gL (k:=123) (by omega);obtain⟨Wd,hWd⟩:∃Wd,s.extract k (k+1)=Wd:=⟨_,rfl⟩
 have hWe:(⟨[af s k].toArray⟩:ByteArray)=Wd:=by
  apply ByteArray.ext;apply Array.toList_inj.1;rw[<-hWd,bT,hdr];rfl
 have dJ:=fun W (k1:Nat) R=>fq w0 W P s k1 ts R 3 [af s k] 0 k (by omega)
 rw[hWe] at dJ;have HW:=Lib.hid hWd;have e1:bg ((af s k).toNat:Int)=false:=hl;have dB:=fun W=>db W ((af s k).toNat:Int)
 have e2:bw ((af s k).toNat:Int)=false:=hd;rw[e1] at cI;rw[e2] at dB;obtain⟨b,hbb⟩:∃b:Int,((af s k).toNat:Int)=b:=⟨_,rfl⟩
 rw[hbb] at hpk cI dB e45 mw;clear hbb hdr aU hl hd e1 e2 h45 hm fC hWd hWe;go_enter Tryz.func90,Tryz.ntmps90;obtain⟨_,c1,_,_,hB⟩:=h.cells;go_wp2_with fail;refine hpk.mono ?_;rintro e w2 ⟨rfl,n2⟩;have hR2:=h.new n2;clear hpk h c1;go_wp2_with fail;refine(cI _).mono ?_;rintro e w3 ⟨rfl,rfl⟩;obtain⟨_,y0,y1,_,hB2⟩:=hR2.cells;have HR3:=Lib.hid (hR2.go (k+1));clear hR2;go_wp2_with fail;refine(dB _).mono ?_;rintro e w4 ⟨rfl,rfl⟩;go_wp2_with fail;obtain⟨W3,hW3⟩:∃W3,w4.setCell ⟨P,1,none⟩ (I ((k+1:Nat):Int))=W3:=⟨_,rfl⟩
 have hR3:=HR3.out;rw[hW3] at hR3;have hxx:w4.setCell ⟨P,1,none⟩ (I ((k:Int)+1))=W3:=hW3;rw[hxx];obtain⟨x0,x1,_,_,hB3⟩:=hR3.cells;have hkI:(k:Int)<(s.size:Int):=by omega
 have hSX:(fun w':World=>w'.cell? ⟨P,0,none⟩=some (.string s)∧w'.cell? ⟨P,1,none⟩=some (I ((k+1:Nat):Int))) W3.drew:=⟨New.cell ((New.refl W3).drew) x0,New.cell ((New.refl W3).drew) x1⟩
 refine aj (fun w':World=>w'.cell? ⟨P,0,none⟩=some (.string s)∧w'.cell? ⟨P,1,none⟩=some (I ((k+1:Nat):Int))) [14,15] (by kernel_rfl) hSX ?_;refine ae 0 hSX ?_;refine ae 1 hSX ?_;refine ae 2 hSX ?_;refine ae 3 hSX ?_;refine ae 4 hSX ?_;refine ae 5 hSX ?_;refine ae 6 hSX ?_;refine ae 7 hSX ?_;refine ae 8 hSX ?_;refine ae 9 hSX ?_;refine ae 10 hSX ?_;refine ae 11 hSX ?_;refine aS 12 (by kernel_rfl) (by kernel_rfl) (by kernel_rfl) (by kernel_rfl) (by kernel_rfl) hSX ?_;intro oi ho;simp only[sLq] at ho;subst ho;refine⟨.string Wd,fun _ _ _ h=>h,Or.inl ⟨by rfl,?_⟩,?_⟩
 ·(intro wS hSw;(try dsimp only at hSw);go_simp;rw[if_pos ⟨by omega,by omega⟩,if_pos (by omega),HW.out])
 simp only[Act.put,sLs];refine ae 13 hSX ?_;refine ag 14 ?_;intro K hK;(try simp only[Act.put,sLs])
 go_simp;refine(dJ _ _ (hR3.new ((New.refl W3).drew))).mono ?_;rintro e w5 ⟨rfl,hR5⟩;refine hK _ _ (fun h=>by cases h) ?_;clear hK K;refine ag 15 ?_;intro K hK;(try simp only[Act.put,sLs])
 go_simp;refine hK _ _ (fun h=>by cases h) ?_;clear hK K;refine av (by kernel_rfl) ?_;(try simp only[Act.put,sLs])
 have HR5:=Lib.hid hR5;clear hR5 hR3;simp only[Exit.then];go_wp2_with fail;rw[HPO.out];exact fO HT.out HR5.out
theorem vG (w0 w:World) (P:Nat) (s:ByteArray) (k:Nat) (ts:List LTok) (h:Rd w0 w P s k ts) (he:Env w0) (hk:k<s.size) (hs:s.size<=1048576) (hn:ts.length<=1048576)
  (hm:(af s k).toNat=125):
  Calls Tryz.prog 90 #[.pointer (some ⟨P,0,none⟩)] w (ch w0 P s k ts):=by
 obtain⟨PO,hPO⟩:∃PO,PO=ch w0 P s k ts:=⟨_,rfl⟩
 rw[<-hPO];have HPO:=Lib.hid hPO;have hdr:=cF s k hk;have hpk:=bG w0 w P s k ts h (by omega) (by omega);have cI:=fun W=>dc W ((af s k).toNat:Int)
 have aU:=am s;have fC:=(af s k).toNat_lt;clear hPO;have h45:(af s k).toNat≠45:=by omega
 have hl:df (af s k)=false:=by
  cases e:df (af s k) with
  |false=>rfl
  |true=>have:=(er _).1 e;omega
 have hd:aq (af s k)=false:=by
  cases e:aq (af s k) with
  |false=>rfl
  |true=>have:=(bq _).1 e;omega
 have HT:Hid (cZ (s.data.toList.drop k)= .good 3 [af s k] 0 1):=Lib.hid (by
  have hn1:¬(aq (af s k)=true∨((af s k).toNat=45∧aq ((s.data.toList.drop (k+1)).headD 0)=true)):=by
   rintro(x|⟨x,_⟩)
   ·rw[hd] at x;cases x
   ·exact h45 x
  rw[hdr,aY,if_neg (by rw[hl];simp),if_neg hn1,if_neg (fun x=>h45 x.1)];rw[if_pos (by unfold f5;rw[decide_eq_true_iff];omega)])
 have e45:(((af s k).toNat:Int)==45)=false:=dU (k:=45) h45;have mw:(((af s k).toNat:Int)==123)=false:=dU (k:=123) (by omega);have om:(((af s k).toNat:Int)==125)=true:=gL (k:=125) (by omega);obtain⟨Wd,hWd⟩:∃Wd,s.extract k (k+1)=Wd:=⟨_,rfl⟩
 have hWe:(⟨[af s k].toArray⟩:ByteArray)=Wd:=by
  apply ByteArray.ext;apply Array.toList_inj.1;rw[<-hWd,bT,hdr];rfl
 have dJ:=fun W (k1:Nat) R=>fq w0 W P s k1 ts R 3 [af s k] 0 k (by omega)
 rw[hWe] at dJ;have HW:=Lib.hid hWd;have e1:bg ((af s k).toNat:Int)=false:=hl;have dB:=fun W=>db W ((af s k).toNat:Int)
 have e2:bw ((af s k).toNat:Int)=false:=hd;rw[e1] at cI;rw[e2] at dB;obtain⟨b,hbb⟩:∃b:Int,((af s k).toNat:Int)=b:=⟨_,rfl⟩
 rw[hbb] at hpk cI dB e45 mw om;clear hbb hdr aU hl hd e1 e2 h45 hm fC hWd hWe;go_enter Tryz.func90,Tryz.ntmps90;obtain⟨_,c1,_,_,hB⟩:=h.cells;go_wp2_with fail;refine hpk.mono ?_;rintro e w2 ⟨rfl,n2⟩;have hR2:=h.new n2;clear hpk h c1;go_wp2_with fail;refine(cI _).mono ?_;rintro e w3 ⟨rfl,rfl⟩;obtain⟨_,y0,y1,_,hB2⟩:=hR2.cells;have HR3:=Lib.hid (hR2.go (k+1));clear hR2;go_wp2_with fail;refine(dB _).mono ?_;rintro e w4 ⟨rfl,rfl⟩;go_wp2_with fail;obtain⟨W3,hW3⟩:∃W3,w4.setCell ⟨P,1,none⟩ (I ((k+1:Nat):Int))=W3:=⟨_,rfl⟩
 have hR3:=HR3.out;rw[hW3] at hR3;have hxx:w4.setCell ⟨P,1,none⟩ (I ((k:Int)+1))=W3:=hW3;rw[hxx];obtain⟨x0,x1,_,_,hB3⟩:=hR3.cells;have hkI:(k:Int)<(s.size:Int):=by omega
 have hSX:(fun w':World=>w'.cell? ⟨P,0,none⟩=some (.string s)∧w'.cell? ⟨P,1,none⟩=some (I ((k+1:Nat):Int))) W3.drew:=⟨New.cell ((New.refl W3).drew) x0,New.cell ((New.refl W3).drew) x1⟩
 refine aj (fun w':World=>w'.cell? ⟨P,0,none⟩=some (.string s)∧w'.cell? ⟨P,1,none⟩=some (I ((k+1:Nat):Int))) [14,15] (by kernel_rfl) hSX ?_;refine ae 0 hSX ?_;refine ae 1 hSX ?_;refine ae 2 hSX ?_;refine ae 3 hSX ?_;refine ae 4 hSX ?_;refine ae 5 hSX ?_;refine ae 6 hSX ?_;refine ae 7 hSX ?_;refine ae 8 hSX ?_;refine ae 9 hSX ?_;refine ae 10 hSX ?_;refine ae 11 hSX ?_;refine aS 12 (by kernel_rfl) (by kernel_rfl) (by kernel_rfl) (by kernel_rfl) (by kernel_rfl) hSX ?_;intro oi ho;simp only[sLq] at ho;subst ho;refine⟨.string Wd,fun _ _ _ h=>h,Or.inl ⟨by rfl,?_⟩,?_⟩
 ·(intro wS hSw;(try dsimp only at hSw);go_simp;rw[if_pos ⟨by omega,by omega⟩,if_pos (by omega),HW.out])
 simp only[Act.put,sLs];refine ae 13 hSX ?_;refine ag 14 ?_;intro K hK;(try simp only[Act.put,sLs])
 go_simp;refine(dJ _ _ (hR3.new ((New.refl W3).drew))).mono ?_;rintro e w5 ⟨rfl,hR5⟩;refine hK _ _ (fun h=>by cases h) ?_;clear hK K;refine ag 15 ?_;intro K hK;(try simp only[Act.put,sLs])
 go_simp;refine hK _ _ (fun h=>by cases h) ?_;clear hK K;refine av (by kernel_rfl) ?_;(try simp only[Act.put,sLs])
 have HR5:=Lib.hid hR5;clear hR5 hR3;simp only[Exit.then];go_wp2_with fail;rw[HPO.out];exact fO HT.out HR5.out
theorem xN (w0 w:World) (P:Nat) (s:ByteArray) (k:Nat) (ts:List LTok) (h:Rd w0 w P s k ts) (he:Env w0) (hk:k<s.size) (hs:s.size<=1048576) (hn:ts.length<=1048576)
  (hm:(af s k).toNat=61):
  Calls Tryz.prog 90 #[.pointer (some ⟨P,0,none⟩)] w (ch w0 P s k ts):=by
 obtain⟨PO,hPO⟩:∃PO,PO=ch w0 P s k ts:=⟨_,rfl⟩
 rw[<-hPO];have HPO:=Lib.hid hPO;have hdr:=cF s k hk;have hpk:=bG w0 w P s k ts h (by omega) (by omega);have cI:=fun W=>dc W ((af s k).toNat:Int)
 have aU:=am s;have fC:=(af s k).toNat_lt;clear hPO;have h45:(af s k).toNat≠45:=by omega
 have hl:df (af s k)=false:=by
  cases e:df (af s k) with
  |false=>rfl
  |true=>have:=(er _).1 e;omega
 have hd:aq (af s k)=false:=by
  cases e:aq (af s k) with
  |false=>rfl
  |true=>have:=(bq _).1 e;omega
 have HT:Hid (cZ (s.data.toList.drop k)= .good 3 [af s k] 0 1):=Lib.hid (by
  have hn1:¬(aq (af s k)=true∨((af s k).toNat=45∧aq ((s.data.toList.drop (k+1)).headD 0)=true)):=by
   rintro(x|⟨x,_⟩)
   ·rw[hd] at x;cases x
   ·exact h45 x
  rw[hdr,aY,if_neg (by rw[hl];simp),if_neg hn1,if_neg (fun x=>h45 x.1)];rw[if_pos (by unfold f5;rw[decide_eq_true_iff];omega)])
 have e45:(((af s k).toNat:Int)==45)=false:=dU (k:=45) h45;have mw:(((af s k).toNat:Int)==123)=false:=dU (k:=123) (by omega);have om:(((af s k).toNat:Int)==125)=false:=dU (k:=125) (by omega);have f61:(((af s k).toNat:Int)==61)=true:=gL (k:=61) (by omega);obtain⟨Wd,hWd⟩:∃Wd,s.extract k (k+1)=Wd:=⟨_,rfl⟩
 have hWe:(⟨[af s k].toArray⟩:ByteArray)=Wd:=by
  apply ByteArray.ext;apply Array.toList_inj.1;rw[<-hWd,bT,hdr];rfl
 have dJ:=fun W (k1:Nat) R=>fq w0 W P s k1 ts R 3 [af s k] 0 k (by omega)
 rw[hWe] at dJ;have HW:=Lib.hid hWd;have e1:bg ((af s k).toNat:Int)=false:=hl;have dB:=fun W=>db W ((af s k).toNat:Int)
 have e2:bw ((af s k).toNat:Int)=false:=hd;rw[e1] at cI;rw[e2] at dB;obtain⟨b,hbb⟩:∃b:Int,((af s k).toNat:Int)=b:=⟨_,rfl⟩
 rw[hbb] at hpk cI dB e45 mw om f61;clear hbb hdr aU hl hd e1 e2 h45 hm fC hWd hWe;go_enter Tryz.func90,Tryz.ntmps90;obtain⟨_,c1,_,_,hB⟩:=h.cells;go_wp2_with fail;refine hpk.mono ?_;rintro e w2 ⟨rfl,n2⟩;have hR2:=h.new n2;clear hpk h c1;go_wp2_with fail;refine(cI _).mono ?_;rintro e w3 ⟨rfl,rfl⟩;obtain⟨_,y0,y1,_,hB2⟩:=hR2.cells;have HR3:=Lib.hid (hR2.go (k+1));clear hR2;go_wp2_with fail;refine(dB _).mono ?_;rintro e w4 ⟨rfl,rfl⟩;go_wp2_with fail;obtain⟨W3,hW3⟩:∃W3,w4.setCell ⟨P,1,none⟩ (I ((k+1:Nat):Int))=W3:=⟨_,rfl⟩
 have hR3:=HR3.out;rw[hW3] at hR3;have hxx:w4.setCell ⟨P,1,none⟩ (I ((k:Int)+1))=W3:=hW3;rw[hxx];obtain⟨x0,x1,_,_,hB3⟩:=hR3.cells;have hkI:(k:Int)<(s.size:Int):=by omega
 have hSX:(fun w':World=>w'.cell? ⟨P,0,none⟩=some (.string s)∧w'.cell? ⟨P,1,none⟩=some (I ((k+1:Nat):Int))) W3.drew:=⟨New.cell ((New.refl W3).drew) x0,New.cell ((New.refl W3).drew) x1⟩
 refine aj (fun w':World=>w'.cell? ⟨P,0,none⟩=some (.string s)∧w'.cell? ⟨P,1,none⟩=some (I ((k+1:Nat):Int))) [14,15] (by kernel_rfl) hSX ?_;refine ae 0 hSX ?_;refine ae 1 hSX ?_;refine ae 2 hSX ?_;refine ae 3 hSX ?_;refine ae 4 hSX ?_;refine ae 5 hSX ?_;refine ae 6 hSX ?_;refine ae 7 hSX ?_;refine ae 8 hSX ?_;refine ae 9 hSX ?_;refine ae 10 hSX ?_;refine ae 11 hSX ?_;refine aS 12 (by kernel_rfl) (by kernel_rfl) (by kernel_rfl) (by kernel_rfl) (by kernel_rfl) hSX ?_;intro oi ho;simp only[sLq] at ho;subst ho;refine⟨.string Wd,fun _ _ _ h=>h,Or.inl ⟨by rfl,?_⟩,?_⟩
 ·(intro wS hSw;(try dsimp only at hSw);go_simp;rw[if_pos ⟨by omega,by omega⟩,if_pos (by omega),HW.out])
 simp only[Act.put,sLs];refine ae 13 hSX ?_;refine ag 14 ?_;intro K hK;(try simp only[Act.put,sLs])
 go_simp;refine(dJ _ _ (hR3.new ((New.refl W3).drew))).mono ?_;rintro e w5 ⟨rfl,hR5⟩;refine hK _ _ (fun h=>by cases h) ?_;clear hK K;refine ag 15 ?_;intro K hK;(try simp only[Act.put,sLs])
 go_simp;refine hK _ _ (fun h=>by cases h) ?_;clear hK K;refine av (by kernel_rfl) ?_;(try simp only[Act.put,sLs])
 have HR5:=Lib.hid hR5;clear hR5 hR3;simp only[Exit.then];go_wp2_with fail;rw[HPO.out];exact fO HT.out HR5.out
theorem xM (w0 w:World) (P:Nat) (s:ByteArray) (k:Nat) (ts:List LTok) (h:Rd w0 w P s k ts) (he:Env w0) (hk:k<s.size) (hs:s.size<=1048576) (hn:ts.length<=1048576)
  (hm:(af s k).toNat=59):
  Calls Tryz.prog 90 #[.pointer (some ⟨P,0,none⟩)] w (ch w0 P s k ts):=by
 obtain⟨PO,hPO⟩:∃PO,PO=ch w0 P s k ts:=⟨_,rfl⟩
 rw[<-hPO];have HPO:=Lib.hid hPO;have hdr:=cF s k hk;have hpk:=bG w0 w P s k ts h (by omega) (by omega);have cI:=fun W=>dc W ((af s k).toNat:Int)
 have aU:=am s;have fC:=(af s k).toNat_lt;clear hPO;have h45:(af s k).toNat≠45:=by omega
 have hl:df (af s k)=false:=by
  cases e:df (af s k) with
  |false=>rfl
  |true=>have:=(er _).1 e;omega
 have hd:aq (af s k)=false:=by
  cases e:aq (af s k) with
  |false=>rfl
  |true=>have:=(bq _).1 e;omega
 have HT:Hid (cZ (s.data.toList.drop k)= .good 3 [af s k] 0 1):=Lib.hid (by
  have hn1:¬(aq (af s k)=true∨((af s k).toNat=45∧aq ((s.data.toList.drop (k+1)).headD 0)=true)):=by
   rintro(x|⟨x,_⟩)
   ·rw[hd] at x;cases x
   ·exact h45 x
  rw[hdr,aY,if_neg (by rw[hl];simp),if_neg hn1,if_neg (fun x=>h45 x.1)];rw[if_pos (by unfold f5;rw[decide_eq_true_iff];omega)])
 have e45:(((af s k).toNat:Int)==45)=false:=dU (k:=45) h45;have mw:(((af s k).toNat:Int)==123)=false:=dU (k:=123) (by omega);have om:(((af s k).toNat:Int)==125)=false:=dU (k:=125) (by omega);have f61:(((af s k).toNat:Int)==61)=false:=dU (k:=61) (by omega);have f59:(((af s k).toNat:Int)==59)=true:=gL (k:=59) (by omega);obtain⟨Wd,hWd⟩:∃Wd,s.extract k (k+1)=Wd:=⟨_,rfl⟩
 have hWe:(⟨[af s k].toArray⟩:ByteArray)=Wd:=by
  apply ByteArray.ext;apply Array.toList_inj.1;rw[<-hWd,bT,hdr];rfl
 have dJ:=fun W (k1:Nat) R=>fq w0 W P s k1 ts R 3 [af s k] 0 k (by omega)
 rw[hWe] at dJ;have HW:=Lib.hid hWd;have e1:bg ((af s k).toNat:Int)=false:=hl;have dB:=fun W=>db W ((af s k).toNat:Int)
 have e2:bw ((af s k).toNat:Int)=false:=hd;rw[e1] at cI;rw[e2] at dB;obtain⟨b,hbb⟩:∃b:Int,((af s k).toNat:Int)=b:=⟨_,rfl⟩
 rw[hbb] at hpk cI dB e45 mw om f61 f59;clear hbb hdr aU hl hd e1 e2 h45 hm fC hWd hWe;go_enter Tryz.func90,Tryz.ntmps90;obtain⟨_,c1,_,_,hB⟩:=h.cells;go_wp2_with fail;refine hpk.mono ?_;rintro e w2 ⟨rfl,n2⟩;have hR2:=h.new n2;clear hpk h c1;go_wp2_with fail;refine(cI _).mono ?_;rintro e w3 ⟨rfl,rfl⟩;obtain⟨_,y0,y1,_,hB2⟩:=hR2.cells;have HR3:=Lib.hid (hR2.go (k+1));clear hR2;go_wp2_with fail;refine(dB _).mono ?_;rintro e w4 ⟨rfl,rfl⟩;go_wp2_with fail;obtain⟨W3,hW3⟩:∃W3,w4.setCell ⟨P,1,none⟩ (I ((k+1:Nat):Int))=W3:=⟨_,rfl⟩
 have hR3:=HR3.out;rw[hW3] at hR3;have hxx:w4.setCell ⟨P,1,none⟩ (I ((k:Int)+1))=W3:=hW3;rw[hxx];obtain⟨x0,x1,_,_,hB3⟩:=hR3.cells;have hkI:(k:Int)<(s.size:Int):=by omega
 have hSX:(fun w':World=>w'.cell? ⟨P,0,none⟩=some (.string s)∧w'.cell? ⟨P,1,none⟩=some (I ((k+1:Nat):Int))) W3.drew:=⟨New.cell ((New.refl W3).drew) x0,New.cell ((New.refl W3).drew) x1⟩
 refine aj (fun w':World=>w'.cell? ⟨P,0,none⟩=some (.string s)∧w'.cell? ⟨P,1,none⟩=some (I ((k+1:Nat):Int))) [14,15] (by kernel_rfl) hSX ?_;refine ae 0 hSX ?_;refine ae 1 hSX ?_;refine ae 2 hSX ?_;refine ae 3 hSX ?_;refine ae 4 hSX ?_;refine ae 5 hSX ?_;refine ae 6 hSX ?_;refine ae 7 hSX ?_;refine ae 8 hSX ?_;refine ae 9 hSX ?_;refine ae 10 hSX ?_;refine ae 11 hSX ?_;refine aS 12 (by kernel_rfl) (by kernel_rfl) (by kernel_rfl) (by kernel_rfl) (by kernel_rfl) hSX ?_;intro oi ho;simp only[sLq] at ho;subst ho;refine⟨.string Wd,fun _ _ _ h=>h,Or.inl ⟨by rfl,?_⟩,?_⟩
 ·(intro wS hSw;(try dsimp only at hSw);go_simp;rw[if_pos ⟨by omega,by omega⟩,if_pos (by omega),HW.out])
 simp only[Act.put,sLs];refine ae 13 hSX ?_;refine ag 14 ?_;intro K hK;(try simp only[Act.put,sLs])
 go_simp;refine(dJ _ _ (hR3.new ((New.refl W3).drew))).mono ?_;rintro e w5 ⟨rfl,hR5⟩;refine hK _ _ (fun h=>by cases h) ?_;clear hK K;refine ag 15 ?_;intro K hK;(try simp only[Act.put,sLs])
 go_simp;refine hK _ _ (fun h=>by cases h) ?_;clear hK K;refine av (by kernel_rfl) ?_;(try simp only[Act.put,sLs])
 have HR5:=Lib.hid hR5;clear hR5 hR3;simp only[Exit.then];go_wp2_with fail;rw[HPO.out];exact fO HT.out HR5.out
theorem xL (w0 w:World) (P:Nat) (s:ByteArray) (k:Nat) (ts:List LTok) (h:Rd w0 w P s k ts) (he:Env w0) (hk:k<s.size) (hs:s.size<=1048576) (hn:ts.length<=1048576)
  (hm:(af s k).toNat=46):
  Calls Tryz.prog 90 #[.pointer (some ⟨P,0,none⟩)] w (ch w0 P s k ts):=by
 obtain⟨PO,hPO⟩:∃PO,PO=ch w0 P s k ts:=⟨_,rfl⟩
 rw[<-hPO];have HPO:=Lib.hid hPO;have hdr:=cF s k hk;have hpk:=bG w0 w P s k ts h (by omega) (by omega);have cI:=fun W=>dc W ((af s k).toNat:Int)
 have aU:=am s;have fC:=(af s k).toNat_lt;clear hPO;have h45:(af s k).toNat≠45:=by omega
 have hl:df (af s k)=false:=by
  cases e:df (af s k) with
  |false=>rfl
  |true=>have:=(er _).1 e;omega
 have hd:aq (af s k)=false:=by
  cases e:aq (af s k) with
  |false=>rfl
  |true=>have:=(bq _).1 e;omega
 have HT:Hid (cZ (s.data.toList.drop k)= .good 3 [af s k] 0 1):=Lib.hid (by
  have hn1:¬(aq (af s k)=true∨((af s k).toNat=45∧aq ((s.data.toList.drop (k+1)).headD 0)=true)):=by
   rintro(x|⟨x,_⟩)
   ·rw[hd] at x;cases x
   ·exact h45 x
  rw[hdr,aY,if_neg (by rw[hl];simp),if_neg hn1,if_neg (fun x=>h45 x.1)];rw[if_pos (by unfold f5;rw[decide_eq_true_iff];omega)])
 have e45:(((af s k).toNat:Int)==45)=false:=dU (k:=45) h45;have mw:(((af s k).toNat:Int)==123)=false:=dU (k:=123) (by omega);have om:(((af s k).toNat:Int)==125)=false:=dU (k:=125) (by omega);have f61:(((af s k).toNat:Int)==61)=false:=dU (k:=61) (by omega);have f59:(((af s k).toNat:Int)==59)=false:=dU (k:=59) (by omega);have f46:(((af s k).toNat:Int)==46)=true:=gL (k:=46) (by omega);obtain⟨Wd,hWd⟩:∃Wd,s.extract k (k+1)=Wd:=⟨_,rfl⟩
 have hWe:(⟨[af s k].toArray⟩:ByteArray)=Wd:=by
  apply ByteArray.ext;apply Array.toList_inj.1;rw[<-hWd,bT,hdr];rfl
 have dJ:=fun W (k1:Nat) R=>fq w0 W P s k1 ts R 3 [af s k] 0 k (by omega)
 rw[hWe] at dJ;have HW:=Lib.hid hWd;have e1:bg ((af s k).toNat:Int)=false:=hl;have dB:=fun W=>db W ((af s k).toNat:Int)
 have e2:bw ((af s k).toNat:Int)=false:=hd;rw[e1] at cI;rw[e2] at dB;obtain⟨b,hbb⟩:∃b:Int,((af s k).toNat:Int)=b:=⟨_,rfl⟩
 rw[hbb] at hpk cI dB e45 mw om f61 f59 f46;clear hbb hdr aU hl hd e1 e2 h45 hm fC hWd hWe;go_enter Tryz.func90,Tryz.ntmps90;obtain⟨_,c1,_,_,hB⟩:=h.cells;go_wp2_with fail;refine hpk.mono ?_;rintro e w2 ⟨rfl,n2⟩;have hR2:=h.new n2;clear hpk h c1;go_wp2_with fail;refine(cI _).mono ?_;rintro e w3 ⟨rfl,rfl⟩;obtain⟨_,y0,y1,_,hB2⟩:=hR2.cells;have HR3:=Lib.hid (hR2.go (k+1));clear hR2;go_wp2_with fail;refine(dB _).mono ?_;rintro e w4 ⟨rfl,rfl⟩;go_wp2_with fail;obtain⟨W3,hW3⟩:∃W3,w4.setCell ⟨P,1,none⟩ (I ((k+1:Nat):Int))=W3:=⟨_,rfl⟩
 have hR3:=HR3.out;rw[hW3] at hR3;have hxx:w4.setCell ⟨P,1,none⟩ (I ((k:Int)+1))=W3:=hW3;rw[hxx];obtain⟨x0,x1,_,_,hB3⟩:=hR3.cells;have hkI:(k:Int)<(s.size:Int):=by omega
 have hSX:(fun w':World=>w'.cell? ⟨P,0,none⟩=some (.string s)∧w'.cell? ⟨P,1,none⟩=some (I ((k+1:Nat):Int))) W3.drew:=⟨New.cell ((New.refl W3).drew) x0,New.cell ((New.refl W3).drew) x1⟩
 refine aj (fun w':World=>w'.cell? ⟨P,0,none⟩=some (.string s)∧w'.cell? ⟨P,1,none⟩=some (I ((k+1:Nat):Int))) [14,15] (by kernel_rfl) hSX ?_;refine ae 0 hSX ?_;refine ae 1 hSX ?_;refine ae 2 hSX ?_;refine ae 3 hSX ?_;refine ae 4 hSX ?_;refine ae 5 hSX ?_;refine ae 6 hSX ?_;refine ae 7 hSX ?_;refine ae 8 hSX ?_;refine ae 9 hSX ?_;refine ae 10 hSX ?_;refine ae 11 hSX ?_;refine aS 12 (by kernel_rfl) (by kernel_rfl) (by kernel_rfl) (by kernel_rfl) (by kernel_rfl) hSX ?_;intro oi ho;simp only[sLq] at ho;subst ho;refine⟨.string Wd,fun _ _ _ h=>h,Or.inl ⟨by rfl,?_⟩,?_⟩
 ·(intro wS hSw;(try dsimp only at hSw);go_simp;rw[if_pos ⟨by omega,by omega⟩,if_pos (by omega),HW.out])
 simp only[Act.put,sLs];refine ae 13 hSX ?_;refine ag 14 ?_;intro K hK;(try simp only[Act.put,sLs])
 go_simp;refine(dJ _ _ (hR3.new ((New.refl W3).drew))).mono ?_;rintro e w5 ⟨rfl,hR5⟩;refine hK _ _ (fun h=>by cases h) ?_;clear hK K;refine ag 15 ?_;intro K hK;(try simp only[Act.put,sLs])
 go_simp;refine hK _ _ (fun h=>by cases h) ?_;clear hK K;refine av (by kernel_rfl) ?_;(try simp only[Act.put,sLs])
 have HR5:=Lib.hid hR5;clear hR5 hR3;simp only[Exit.then];go_wp2_with fail;rw[HPO.out];exact fO HT.out HR5.out
theorem xK (w0 w:World) (P:Nat) (s:ByteArray) (k:Nat) (ts:List LTok) (h:Rd w0 w P s k ts) (he:Env w0) (hk:k<s.size) (hs:s.size<=1048576) (hn:ts.length<=1048576):
  Calls Tryz.prog 90 #[.pointer (some ⟨P,0,none⟩)] w (ch w0 P s k ts):=by
 cases hl:df (af s k) with
 |true=>
  by_cases h16:16<((s.data.toList.drop k).takeWhile cg).length
  ·exact vE w0 w P s k ts h he hk hs hn hl h16
  ·exact vH w0 w P s k ts h he hk hs hn hl h16
 |false=>
  cases hd:aq (af s k) with
  |true=>exact tb w0 w P s k ts h he hk hs hn hl hd
  |false=>
   by_cases h45:(af s k).toNat=45
   ·cases hd1:aq (af s (k+1)) with
    |true=>exact tc w0 w P s k ts h he hk hs hn h45 hd1
    |false=>
     by_cases h62:(af s (k+1)).toNat=62
     ·exact s8 w0 w P s k ts h he hk hs hn h45 hd1 h62
     ·exact vD w0 w P s k ts h he hk hs hn h45 hd1 h62
   ·cases hm:f5 (af s k) with
    |false=>exact vC w0 w P s k ts h he hk hs hn hl hd h45 hm
    |true=>
     unfold f5 at hm;rw[decide_eq_true_iff] at hm;rcases hm with hm|hm|hm|hm|hm
     ·exact vF w0 w P s k ts h he hk hs hn hm
     ·exact vG w0 w P s k ts h he hk hs hn hm
     ·exact xN w0 w P s k ts h he hk hs hn hm
     ·exact xM w0 w P s k ts h he hk hs hn hm
     ·exact xL w0 w P s k ts h he hk hs hn hm
end Go.Proofs.YtnedmonlofbahaaGreatDoor
namespace Go.Proofs.YtnedmonlofbahaaGreatDoor
open Go
set_option linter.all false
theorem eD (p:UInt8->Bool) (b:UInt8) (h:p b=false) (r:List UInt8):∀l:List UInt8,(l++b::r).takeWhile p=l.takeWhile p:=by
 intro l;induction l with
 |nil=>rw[List.nil_append,List.takeWhile_cons,if_neg (by simp[h])];rfl
 |cons c l ih=>
  rw[List.cons_append,List.takeWhile_cons,List.takeWhile_cons,ih]
theorem eV (p:UInt8->Bool):∀l:List UInt8,l.all p=true->l.takeWhile p=l:=by
 intro l;induction l with
 |nil=>intro _;rfl
 |cons c l ih=>
  intro h;simp only[List.all_cons,Bool.and_eq_true] at h;rw[List.takeWhile_cons,if_pos h.1,ih h.2]
theorem iE (b:UInt8) (r l:List UInt8):(l++b::r).headD 0=if l=[] then b else l.headD 0:=by
 cases l<;>simp
def gO (b:UInt8):Prop:=cg b=false∧aq b=false∧b.toNat≠62
theorem nl (c:UInt8) (l:List UInt8) (b:UInt8) (hb:gO b) (r:List UInt8):cZ (c::l++b::r)=cZ (c::l):=by
 obtain⟨h1,h2,h3⟩:=hb;have e1:(c::(l++b::r)).takeWhile cg=(c::l).takeWhile cg:=eD cg b h1 r (c::l);have e2:(l++b::r).takeWhile aq=l.takeWhile aq:=eD aq b h2 r l;have z1:aq 0=false:=by decide
 have e3:(aq ((l++b::r).headD 0)=true)=(aq (l.headD 0)=true):=by
  rw[iE];split
  ·rename_i h;rw[h,h2];simp[z1]
  ·rfl
 have e4:(((l++b::r).headD 0).toNat=62)=((l.headD 0).toNat=62):=by
  rw[iE];split
  ·rename_i h;rw[h];simp[h3]
  ·rfl
 rw[List.cons_append];rw[aY,aY];simp only[e1,e2,e3,e4]
theorem uQ:∀(n p:Nat) (l:List UInt8),l.length<=n->(∀t∈(bU p l).1,p<=t.at_∧t.at_<p+l.length)∧(∀c a,(bU p l).2=some (c,a)->p<=a∧a<p+l.length):=by
 intro n;induction n with
 |zero=>
  intro p l h;obtain rfl:l=[]:=List.eq_nil_of_length_eq_zero (by omega);rw[eK];exact⟨by simp,by simp⟩
 |succ n ih=>
  intro p l h;cases l with
  |nil=>rw[eK];exact⟨by simp,by simp⟩
  |cons c r=>
   simp only[List.length_cons] at h;cases h1:de c with
   |true=>
    rw[cC _ _ _ h1,List.length_cons];obtain⟨i1,i2⟩:=ih (p+1) r (by omega);exact⟨fun t ht=>by have:=i1 t ht;omega,fun c a hca=>by have:=i2 c a hca;omega⟩
   |false=>
    by_cases h2:c.toNat=35
    ·rw[gj _ _ _ h2,List.length_cons];have hle:=bX bV r;obtain⟨i1,i2⟩:=ih (p+1+(r.takeWhile bV).length) (r.drop (r.takeWhile bV).length) (by rw[List.length_drop];omega);rw[List.length_drop] at i1 i2;exact⟨fun t ht=>by have:=i1 t ht;omega,fun c a hca=>by have:=i2 c a hca;omega⟩
    ·cases ht:cZ (c::r) with
     |bad e=>
      rw[i7 _ _ _ h1 h2 ht,List.length_cons];refine⟨by simp,fun c a hca=>?_⟩;cases hca;omega
     |good s t m k=>
      have hk:=gD ht;simp only[List.length_cons] at hk;rw[eS _ _ _ h1 h2 ht,List.length_cons];obtain⟨i1,i2⟩:=ih (p+k) ((c::r).drop k) (by rw[List.length_drop,List.length_cons];omega);rw[List.length_drop,List.length_cons] at i1 i2;refine⟨fun t ht=>?_,fun c a hca=>by have:=i2 c a hca;omega⟩;rcases List.mem_cons.1 ht with rfl|ht
      ·simp only;omega
      ·have:=i1 t ht;omega
def fS:List UInt8->Bool
 |[]=>false
 |c::r=>df c&&(r.all cg&&decide (r.length<=15))
theorem gy (s:ByteArray):aQ s=fS s.data.toList:=by
 unfold aQ aB;cases s.data.toList with
 |nil=>rfl
 |cons c r=>
  simp only[List.map_cons,uT,fS,List.all_map,List.length_map];rfl
theorem wW (c:UInt8) (r:List UInt8) (h:fS (c::r)=true):cZ (c::r)= .good 1 (c::r) 0 (r.length+1):=by
 simp only[fS,Bool.and_eq_true,decide_eq_true_iff] at h;have hi:cg c=true:=(kx c).2 (Or.inl h.1);have e:(c::r).takeWhile cg=c::r:=eV _ _ (by simp only[List.all_cons,hi,h.2.1,Bool.and_self]);rw[aY];rw[if_pos h.1,e,if_neg (by simp only[List.length_cons];omega)];rfl
theorem wY {l t:List UInt8} {n:Int} {k:Nat} (h:cZ l= .good 1 t n k):n=0∧fS t=true:=by
 cases l with
 |nil=>cases h
 |cons c r=>
  rw[aY] at h;split at h
  ·rename_i c1;split at h
   ·cases h
   ·rename_i h16;cases h
    refine⟨rfl,?_⟩;have hi:cg c=true:=(kx c).2 (Or.inl c1);have ha:=gw cg r;rw[List.takeWhile_cons,if_pos hi] at h16 ⊢;simp only[List.length_cons] at h16;simp only[fS,c1,ha,Bool.true_and,decide_eq_true_iff];omega
  ·split at h
   ·split at h<;>cases h
   ·split at h
    ·cases h
    ·split at h<;>cases h
theorem tN {c:UInt8} {r:List UInt8} (h:fS (c::r)=true):de c=false∧c.toNat≠35:=by
 simp only[fS,Bool.and_eq_true] at h;have:=(er c).1 h.1;refine⟨?_,by omega⟩;unfold de;rw[decide_eq_false_iff_not];omega
def rZ (t:List UInt8):Bool:=decide (t=[123]∨t=[125]∨t=[61]∨t=[59]∨t=[46]∨t=[45,62])
def LTok.right (t:LTok):Bool:=
 if t.sort=1 then decide (t.num=0)&&fS t.text
 else if t.sort=2 then decide (t.text=[])
 else if t.sort=3 then decide (t.num=0)&&rZ t.text
 else false
theorem wX {l:List UInt8} {s n:Int} {t:List UInt8} {k:Nat} (h:cZ l= .good s t n k):(s=1∨s=2∨s=3)∧(LTok.mk s t n 0).right=true∧ -9223372036854775808<=n∧n<=9223372036854775807:=by
 cases l with
 |nil=>cases h
 |cons c r=>
  have hw:s=1->n=0∧fS t=true:=fun e=>by subst e;exact wY h
  rw[aY] at h;split at h
  ·split at h
   ·cases h
   ·cases h
    obtain⟨_,h2⟩:=hw rfl;refine⟨Or.inl rfl,?_,by omega,by omega⟩;simp[LTok.right,h2]
  ·split at h
   ·split at h
    ·rename_i m hm;cases h
     exact⟨Or.inr (Or.inl rfl),rfl,oL _ _ hm⟩
    ·cases h
   ·split at h
    ·cases h;exact⟨Or.inr (Or.inr rfl),rfl,by omega,by omega⟩
    ·split at h
     ·rename_i hm;cases h
      refine⟨Or.inr (Or.inr rfl),?_,by omega,by omega⟩;unfold f5 at hm;rw[decide_eq_true_iff] at hm;have e:∀k:Nat,∀x:UInt8,x.toNat=k->[x]=[UInt8.ofNat k]:=by
       intro k x hx;subst hx;rw[UInt8.ofNat_toNat]
      have:rZ [c]=true:=by
       unfold rZ;rw[decide_eq_true_iff];rcases hm with hm|hm|hm|hm|hm
       ·exact Or.inl (e _ _ hm)
       ·exact Or.inr (Or.inl (e _ _ hm))
       ·exact Or.inr (Or.inr (Or.inl (e _ _ hm)))
       ·exact Or.inr (Or.inr (Or.inr (Or.inl (e _ _ hm))))
       ·exact Or.inr (Or.inr (Or.inr (Or.inr (Or.inl (e _ _ hm)))))
      simp[LTok.right,this]
     ·cases h
def lh (l:List UInt8):Nat->List LTok->Prop
 |_,[]=>True
 |a,t::r=>a<=t.at_∧t.at_+t.spelt.length<=l.length∧(l.drop t.at_).take t.spelt.length=t.spelt∧t.sort≠0∧t.right=true∧(-9223372036854775808<=t.num∧t.num<=9223372036854775807)∧lh l (t.at_+t.spelt.length) r
theorem lh.mono {l:List UInt8} {a b:Nat} (h:a<=b):∀ {ts:List LTok},lh l b ts->lh l a ts
 |[],_=>trivial
 |t::r,hp=>⟨Nat.le_trans h hp.1,hp.2⟩
theorem rX (L:List UInt8):∀(n p:Nat) (l:List UInt8),l.length<=n->l=L.drop p->p<=L.length->lh L p (bU p l).1:=by
 intro n;induction n with
 |zero=>
  intro p l h _ _;obtain rfl:l=[]:=List.eq_nil_of_length_eq_zero (by omega);rw[eK];trivial
 |succ n ih=>
  intro p l h hl hp;cases l with
  |nil=>rw[eK];trivial
  |cons c r=>
   have aU:=congrArg List.length hl;simp only[List.length_cons,List.length_drop] at h aU;have AR:∀j,(c::r).drop j=L.drop (p+j):=fun j=>by rw[hl,List.drop_drop]
   have hr:r=L.drop (p+1):=by rw[<-AR 1];rfl
   cases h1:de c with
   |true=>
    rw[cC _ _ _ h1];exact(ih (p+1) r (by omega) hr (by omega)).mono (by omega)
   |false=>
    by_cases h2:c.toNat=35
    ·have hle:=bX bV r;rw[gj _ _ _ h2];exact(ih _ _ (by rw[List.length_drop];omega) (by rw[hr,List.drop_drop]) (by omega)).mono (by omega)
    ·cases ht:cZ (c::r) with
     |bad e=>rw[i7 _ _ _ h1 h2 ht];trivial
     |good s t m k=>
      have hk:=gD ht;have hs:=uv ht;obtain⟨so,ri,rg⟩:=wX ht;simp only[List.length_cons] at hk;have hsl:(LTok.mk s t m p).spelt.length=k:=by
       show(LTok.mk s t m 0).spelt.length=k
       rw[hs,List.length_take,List.length_cons];omega
      rw[eS _ _ _ h1 h2 ht];refine⟨Nat.le_refl _,by show p+(LTok.mk s t m p).spelt.length<=_;rw[hsl];omega,?_,by rcases so with e|e|e<;>(simp only[e];decide),ri,rg,?_⟩
      ·rw[hsl];show(L.drop p).take k=(LTok.mk s t m 0).spelt
       rw[<-hl,hs]
      ·rw[hsl];show lh L (p+k) _
       exact ih (p+k) _ (by rw[List.length_drop,List.length_cons];omega) (AR k) (by omega)
def nt (k:Nat):List UInt8:=if k%5=1 then[10] else if k%5=2 then[9,32,13] else if k%5=3 then[35,120,32,45,49,32,35,10] else[32]
theorem yL (k p:Nat) (l:List UInt8):bU p (nt k++l)=bU (p+(nt k).length) l:=by
 unfold nt;split
 ·exact cC p 10 l (by decide)
 ·split
  ·show bU p (9::32::13::l)=_
   rw[cC _ _ _ (by decide),cC _ _ _ (by decide),cC _ _ _ (by decide)];rfl
  ·split
   ·show bU p (35::([120,32,45,49,32,35]++10::l))=_
    rw[gj _ _ _ (by decide),eD bV 10 (by decide) l,eV bV _ (by decide)];show bU (p+1+6) (10::l)=_
    rw[cC _ _ _ (by decide)];rfl
   ·exact cC p 32 l (by decide)
theorem vO (k:Nat):∃b r,nt k=b::r∧gO b:=by
 unfold nt gO;split
 ·exact⟨_,_,rfl,by decide⟩
 ·split
  ·exact⟨_,_,rfl,by decide⟩
  ·split
   ·exact⟨_,_,rfl,by decide⟩
   ·exact⟨_,_,rfl,by decide⟩
theorem vZ {c:UInt8} (h:aq c=true):df c=false∧de c=false∧c.toNat≠35:=by
 have:=(bq c).1 h;refine⟨?_,?_,by omega⟩
 ·cases e:df c with
  |false=>rfl
  |true=>have:=(er c).1 e;omega
 ·unfold de;rw[decide_eq_false_iff_not];omega
theorem mS (t:LTok) (hr:t.right=true) (hn: -9223372036854775808<=t.num∧t.num<=9223372036854775807):
  ∃c r,t.spelt=c::r∧de c=false∧c.toNat≠35∧cZ (c::r)= .good t.sort t.text t.num (r.length+1):=by
 obtain⟨s,x,m,a⟩:=t;unfold LTok.right at hr;simp only at hr hn;split at hr
 ·rename_i hs;subst hs;simp only[Bool.and_eq_true,decide_eq_true_iff] at hr;obtain⟨rfl,hx⟩:=hr;cases x with
  |nil=>cases hx
  |cons c r=>
   obtain⟨h1,h2⟩:=tN hx;exact⟨c,r,rfl,h1,h2,wW c r hx⟩
 ·split at hr
  ·rename_i _ hs;subst hs;rw[decide_eq_true_iff] at hr;subst hr;have hb:=wl m hn.1 hn.2;show ∃c r,Lib.itoa m=c::r∧_
   by_cases hm:0<=m
   ·obtain⟨k,rfl⟩:=Int.eq_ofNat_of_zero_le hm;have di:=iS k k (Nat.le_refl _);rw[Lib.itoa_nonneg] at hb ⊢;cases hd:Lib.decDigits k with
    |nil=>exact absurd hd (jr k)
    |cons c r=>
     rw[hd] at di hb;simp only[List.all_cons,Bool.and_eq_true] at di;obtain⟨d1,d2,d3⟩:=vZ di.1;refine⟨c,r,rfl,d2,d3,?_⟩;rw[aY,if_neg (by rw[d1];simp),if_pos (Or.inl di.1),eV _ _ di.2,hb]
   ·obtain⟨k,rfl⟩:∃k:Nat,m= -(k:Int):=⟨m.natAbs,by omega⟩
    have di:=iS k k (Nat.le_refl _);rw[Lib.itoa_neg k (by omega)] at hb ⊢;refine⟨45,Lib.decDigits k,rfl,by decide,by decide,?_⟩;have hh:aq ((Lib.decDigits k).headD 0)=true:=by
     cases hd:Lib.decDigits k with
     |nil=>exact absurd hd (jr k)
     |cons c r=>
      rw[hd] at di;simp only[List.all_cons,Bool.and_eq_true] at di;exact di.1
    rw[aY,if_neg (by decide),if_pos (Or.inr ⟨by decide,hh⟩),eV _ _ di,hb]
  ·split at hr
   ·rename_i _ _ hs;subst hs;simp only[Bool.and_eq_true,decide_eq_true_iff] at hr;obtain⟨rfl,hx⟩:=hr;unfold rZ at hx;rw[decide_eq_true_iff] at hx;rcases hx with rfl|rfl|rfl|rfl|rfl|rfl
    ·exact⟨123,[],rfl,by decide,by decide,by rfl⟩
    ·exact⟨125,[],rfl,by decide,by decide,by rfl⟩
    ·exact⟨61,[],rfl,by decide,by decide,by rfl⟩
    ·exact⟨59,[],rfl,by decide,by decide,by rfl⟩
    ·exact⟨46,[],rfl,by decide,by decide,by rfl⟩
    ·exact⟨45,[62],rfl,by decide,by decide,by rfl⟩
   ·cases hr
theorem v8 (t:LTok) (hr:t.right=true) (hn: -9223372036854775808<=t.num∧t.num<=9223372036854775807) (k p:Nat) (l:List UInt8):
  bU p (t.spelt++nt k++l)=({ t with at_:=p } ::(bU (p+t.spelt.length+(nt k).length) l).1,(bU (p+t.spelt.length+(nt k).length) l).2):=by
 obtain⟨c,r,hs,h1,h2,ht⟩:=mS t hr hn;obtain⟨b,g,hg,hb⟩:=vO k;have ha:=nl c r b hb (g++l);rw[ht] at ha;have hx:t.spelt++nt k++l=c::(r++b::(g++l)):=by rw[hs,hg];simp
 rw[List.cons_append] at ha;rw[hx,eS _ _ _ h1 h2 ha];have hd:(c::(r++b::(g++l))).drop (r.length+1)=nt k++l:=by
  rw[List.drop_succ_cons,List.drop_left,hg,List.cons_append]
 rw[hd,yL,hs,List.length_cons]
open Go.RowKit Go.Joins
theorem pb {l:List UInt8} {c:Int} (h:cZ l= .bad c):c=40∨c=41∨c=42:=by
 cases l with
 |nil=>cases h;exact Or.inl rfl
 |cons b r=>
  rw[aY] at h;split at h
  ·split at h
   ·cases h;exact Or.inr (Or.inr rfl)
   ·cases h
  ·split at h
   ·split at h
    ·cases h
    ·cases h;exact Or.inr (Or.inl rfl)
   ·split at h
    ·cases h
    ·split at h
     ·cases h
     ·cases h;exact Or.inl rfl
def iR (w:World) (s:ByteArray) (e:Ending) (w':World):Prop:=
 ∃a c,e= .returned (.tuple #[.slice a (eR s.data.toList).1.length c,.agg #[I (eR s.data.toList).2.1,I ((eR s.data.toList).2.2:Nat)]])∧New w w'∧
  w'.ownsRow w.heap.size 98 4 (.slice a (eR s.data.toList).1.length c) (eR s.data.toList).1.length ((eR s.data.toList).1.flatMap bm)
theorem pJ {s:ByteArray} (h:1048576<s.size):eR s.data.toList=([],2,1048576):=by
 unfold eR;rw[if_pos (by rw[am];exact h)]
theorem rW {s:ByteArray} (h:¬1048576<s.size) {ts:List LTok} {c:Int} {k:Nat} (hl:bU 0 s.data.toList=(ts,some (c,k))):eR s.data.toList=([],c,k):=by
 unfold eR;rw[if_neg (by rw[am];exact h),hl]
theorem pI {s:ByteArray} (h:¬1048576<s.size) {ts:List LTok} (hl:bU 0 s.data.toList=(ts,none)):eR s.data.toList=(ts++[⟨0,[],0,s.size⟩],0,0):=by
 unfold eR;rw[if_neg (by rw[am];exact h),hl,am]
theorem ju {w:World} {R:Nat} {x y:Value} (h:w.heap[R]? =some (.cells #[x,y] 33 (0,0))) (u v:Value):
  ((w.setCell ⟨R,0,none⟩ u).setCell ⟨R,1,none⟩ v).heap[R]? =some (.cells #[u,v] 33 (0,0))∧Keeps (fun k=>k=R) w ((w.setCell ⟨R,0,none⟩ u).setCell ⟨R,1,none⟩ v):=by
 have h1:=block_setCell (i:=0) h u;have h2:=block_setCell (i:=1) h1 v;refine⟨by rw[h2];simp,(Keeps.setCell (S:=fun k=>k=R) w _ _ rfl).trans (Keeps.setCell (S:=fun k=>k=R) _ _ _ rfl) (fun _ _ h=>h)⟩
theorem fG {w:World} {R:Nat} {x y:Value} (h:w.heap[R]? =some (.cells #[x,y] 33 (0,0))):
  w.cell? ⟨R,0,none⟩=some x∧w.cell? ⟨R,1,none⟩=some y∧w.frozen? ⟨R,0,none⟩=false∧w.frozen? ⟨R,1,none⟩=false∧R<w.heap.size:=by
 refine⟨?_,?_,unfrozen_of_block h 0,unfrozen_of_block h 1,(Array.getElem?_eq_some_iff.1 h).1⟩
 ·rw[cell_of_block h 0];simp
 ·rw[cell_of_block h 1];simp
theorem lK (w w':World) (s:ByteArray) (c:Int) (k:Nat) (h:eR s.data.toList=([],c,k)) (n:New w w'):iR w s (.returned (.tuple #[.slice none 0 0,.agg #[I c,I k]])) w':=by
 unfold iR;rw[h];exact⟨none,0,rfl,n,World.ownsRow_nil _ _ _ _⟩
abbrev nP:Obj:= .cells #[I 0,I 0] 33
theorem xF (w:World) (s:ByteArray) (he:Env w) (hs:s.size<=9223372036854775807):
  Calls Tryz.prog 46 #[.string s] w (iR w s):=by
 have hz:(w.alloc nP).heap[w.heap.size]? =some (.cells #[I 0,I 0] 33 (0,0)):=heap_alloc_new w _;by_cases gQ:1048576<s.size
 ·have HA:=Lib.hid (pJ gQ);have hbI:(1048576:Int)<(s.size:Int):=by omega
  clear hz;go_enter Tryz.func46,Tryz.ntmps46;go_wp2_with fail;refine bodyPost_ret (v:= .tuple #[.slice none 0 0,.agg #[I 2,I 1048576]]) (by simp[results,Tryz.results46,go_sem]) rfl ?_;exact lK _ _ _ _ _ HA.out ((New.refl w).alloc _)
 ·have HBG:=Lib.hid gQ;have hs2:s.size<=1048576:=by omega
  have hs:s.size<=9223372036854775806:=by omega
  have hbI:¬(1048576:Int)<(s.size:Int):=by omega
  have he0:Env (w.alloc nP):=he.new ((New.refl w).alloc _);have hR0:Rd (w.alloc nP) ((w.alloc nP).alloc (.cells #[.string s,I 0,.slice none 0 0] 156)) (w.heap.size+1) s 0 []:=
   ⟨(New.refl _).alloc _,by simp,none,0,by rw[<-heap_alloc_new (w.alloc nP)];simp,World.ownsRow_nil _ _ _ _⟩
  have HZ:=Lib.hid hz;clear gQ hz;obtain⟨PO,hPO⟩:∃PO,PO=iR w s:=⟨_,rfl⟩
  rw[<-hPO];have HPO:=Lib.hid hPO;clear hPO;go_enter Tryz.func46,Tryz.ntmps46;go_wp2_with fail;refine(pw _ _ _ s 0 [] hR0 (by omega) hs).mono ?_;rintro e w2 ⟨rfl,k1,_,hk1,HL,HF,hR⟩;clear hR0;go_wp2_with fail;go_loopw [] (fun wr=>∃(k:Nat) (ts:List LTok),k<=s.size∧ts.length<=k∧Hid (bU 0 s.data.toList=(ts++(bU k (s.data.toList.drop k)).1,(bU k (s.data.toList.drop k)).2))∧
   Hid (k<s.size->de (af s k)=false∧(af s k).toNat≠35)∧Rd (w.alloc nP) wr (w.heap.size+1) s k ts) (fun wr=>s.size-fB wr (w.heap.size+1))
  case atStart=>
   refine⟨k1,[],hk1,by simp,Lib.hid ?_,HF,hR⟩;have:=HL.out;rw[List.drop_zero] at this;rw[List.nil_append,this]
  case round=>
   clear HL HF hR hk1;obtain⟨k,ts,hk,hts,HL,HF,hR⟩:=hrel;obtain⟨_,c1,_,_,hBr⟩:=hR.cells;have HY:Hid (fB wr (w.heap.size+1)=k):=Lib.hid (by unfold fB;rw[c1];simp);have hm:=mL _ wr _ s k ts hR (by omega);clear c1;by_cases hk2:k<s.size
   ·rw[decide_eq_true hk2] at hm;have htk:=fun W (n:New wr W)=>xK _ W _ s k ts (hR.new n) he0 hk2 hs2 (by omega)
    obtain⟨n1,n2⟩:=HF.out hk2;have hdr:=cF s k hk2;cases ht:cZ (s.data.toList.drop k) with
    |bad c=>
     have hLB:bU 0 s.data.toList=(ts,some (c,k)):=by
      rw[hdr] at ht;rw[HL.out,hdr,i7 _ _ _ n1 n2 ht,List.append_nil]
     have hcd:(c==0)=false:=by rcases pb ht with rfl|rfl|rfl<;>rfl
     have HT:=Lib.hid ht;have HLB:=Lib.hid (rW HBG.out hLB);clear ht hLB hdr n1 n2 HL HF;go_wp2_with fail;refine hm.mono ?_;rintro e w3 ⟨rfl,k3⟩;obtain⟨_,c1,_,_,_⟩:=(hR.new k3).cells;go_wp2_with fail;refine(htk _ k3).mono ?_;rintro e w4 tm;unfold ch at tm;rw[HT.out] at tm;obtain⟨rfl,k',hR4⟩:=tm;have hz4:=Keeps.heap hR4.nw HZ.out (fun h=>h);obtain⟨r0,r1,f0,f1,hBB⟩:=fG hz4;obtain⟨hst,kst⟩:=ju hz4 (I c) (I k);obtain⟨q0,q1,g0,g1,hq⟩:=fG hst;have HK:=Lib.hid (New.keeps (((New.refl w).alloc nP).trans hR4.nw) kst (fun i hi hx=>by omega));clear hst kst hz4 hR4 hR hm htk c1;go_wp2_with fail;have iU:Hid (PO (.returned (.tuple #[.slice none 0 0,.agg #[I c,I k]])) ((w4.setCell ⟨w.heap.size,0,none⟩ (I c)).setCell ⟨w.heap.size,1,none⟩ (I k))):=Lib.hid (by rw[HPO.out];exact lK _ _ _ _ _ HLB.out HK.out);refine bodyPost_ret (v:= .tuple #[.slice none 0 0,.agg #[I c,I k]]) (by simp[results,Tryz.results46,go_sem,q0,q1,g0,g1,hq]) rfl ?_;exact iU.out
    |good so tx nu len=>
     have aU:=gD ht;rw[List.length_drop,am] at aU;have HLG:Hid (bU 0 s.data.toList=((ts++[⟨so,tx,nu,k⟩])++(bU (k+len) (s.data.toList.drop (k+len))).1,(bU (k+len) (s.data.toList.drop (k+len))).2)):=Lib.hid (by
      have ht2:=ht;rw[hdr] at ht2;rw[HL.out,hdr,eS _ _ _ n1 n2 ht2,<-hdr,List.drop_drop];simp)
     have HT:=Lib.hid ht;clear ht hdr n1 n2 HL HF;go_wp2_with fail;refine hm.mono ?_;rintro e w3 ⟨rfl,k3⟩;obtain⟨_,c1,_,_,_⟩:=(hR.new k3).cells;go_wp2_with fail;refine(htk _ k3).mono ?_;rintro e w4 tm;unfold ch at tm;rw[HT.out] at tm;obtain⟨rfl,hR4⟩:=tm;clear hR hm htk c1 k3;go_wp2_with fail;refine(pw _ _ _ s (k+len) _ hR4 (by omega) hs).mono ?_;rintro e w5 ⟨rfl,k',hk',DA,HL5,HF5,hR5⟩;have C3:(ts++[(⟨so,tx,nu,k⟩:LTok)]).length<=k':=by rw[List.length_append];simp only[List.length_singleton];omega
     have HLN:Hid (bU 0 s.data.toList=((ts++[⟨so,tx,nu,k⟩])++(bU k' (s.data.toList.drop k')).1,(bU k' (s.data.toList.drop k')).2)):=Lib.hid (by rw[HLG.out,HL5.out]);have HTS:=Lib.hid C3;clear hR4 C3;go_wp2_with fail;go_roundw
     case rel=>exact⟨k',_,DA,HTS.out,HLN,HF5,hR5⟩
     case measure=>
      obtain⟨_,d1,_⟩:=hR5.cells;have hx:fB w5 (w.heap.size+1)=k':=by unfold fB;rw[d1];exact Int.toNat_natCast _
      rw[hx,HY.out];omega
   ·rw[decide_eq_false hk2] at hm;have hke:k=s.size:=by omega
    have hLE:bU 0 s.data.toList=(ts,none):=by
     rw[HL.out,hke,rB,eK,List.append_nil]
    have HLA:=Lib.hid (pI HBG.out hLE);have dJ:=fun W R=>fq (w.alloc nP) W (w.heap.size+1) s k ts R 0 [] 0 s.size (by omega)
    clear hLE HL HF hke;go_wp2_with fail;refine hm.mono ?_;rintro e w3 ⟨rfl,k3⟩;go_wp2_with fail;refine(dJ _ (hR.new k3)).mono ?_;rintro e w4 ⟨rfl,hR4⟩;obtain⟨nw4,hP4,a,c,hb4,ho4⟩:=hR4;have hz4:=Keeps.heap nw4 HZ.out (fun h=>h);have c2:w4.cell? ⟨w.heap.size+1,2,none⟩=some (.slice a (ts++[(⟨0,[],0,s.size⟩:LTok)]).length c):=by rw[cell_of_block hb4 2];rfl
    obtain⟨r0,r1,f0,f1,hBB⟩:=fG hz4;obtain⟨hst,kst⟩:=ju hz4 (I 0) (I 0);obtain⟨q0,q1,g0,g1,hq⟩:=fG hst;have dj:iR w s (.returned (.tuple #[.slice a (ts++[(⟨0,[],0,s.size⟩:LTok)]).length c,.agg #[I 0,I 0]])) ((w4.setCell ⟨w.heap.size,0,none⟩ (I 0)).setCell ⟨w.heap.size,1,none⟩ (I 0)):=by
     unfold iR;rw[HLA.out];refine⟨a,c,rfl,New.keeps (((New.refl w).alloc nP).trans nw4) kst (fun i hi hx=>by omega),?_⟩;have ho5:=lp ho4 kst (fun g hg=>⟨_,_,_,hg▸hz4,by decide⟩);exact eO ho5 (fun g hg=>by
      have:=(ai ho5 (aM hg)).1;simp at this;omega)
    rw[<-HPO.out] at dj;have iU:=Lib.hid dj;obtain⟨N,hN⟩:∃N,(ts++[(⟨0,[],0,s.size⟩:LTok)]).length=N:=⟨_,rfl⟩
    rw[hN] at c2 iU;clear dj hst kst hz4 ho4 hb4 hR hm dJ hN nw4;go_wp2_with fail;refine bodyPost_ret (v:= .tuple #[.slice a N c,.agg #[I 0,I 0]]) (by simp[results,Tryz.results46,go_sem,q0,q1,g0,g1,hq]) rfl ?_;exact iU.out
theorem we:∀(n p:Nat) (l:List UInt8),l.length<=n->∀c a,(bU p l).2=some (c,a)->c=40∨c=41∨c=42:=by
 intro n;induction n with
 |zero=>
  intro p l h;obtain rfl:l=[]:=List.eq_nil_of_length_eq_zero (by omega);rw[eK];simp
 |succ n ih=>
  intro p l h;cases l with
  |nil=>rw[eK];simp
  |cons c r=>
   simp only[List.length_cons] at h;cases h1:de c with
   |true=>rw[cC _ _ _ h1];exact ih _ _ (by omega)
   |false=>
    by_cases h2:c.toNat=35
    ·rw[gj _ _ _ h2];exact ih _ _ (by rw[List.length_drop];omega)
    ·cases ht:cZ (c::r) with
     |bad e=>
      rw[i7 _ _ _ h1 h2 ht];intro c a hca;cases hca
      exact pb ht
     |good s t m k=>
      have hk:=gD ht;rw[eS _ _ _ h1 h2 ht];exact ih _ _ (by rw[List.length_drop,List.length_cons];omega)
theorem BE {w:World} {ao:Option Addr} {l:List LTok} (h:ar w ao (l.flatMap bm)) (hne:l≠[]):
  ∃b off,ao=some ⟨b,off,none⟩∧∀(i:Nat) (hi:i<l.length) (j:Nat),j<4->w.cell? ⟨b,off+i*4+j,none⟩=(bm l[i])[j]? :=by
 have hl:=rF bm 4 mn l;have gd:0<l.length:=List.length_pos_iff.2 hne;obtain⟨b,off,e,_⟩:=h.at (i:=0) (by omega);refine⟨b,off,e,fun i hi j hj=>?_⟩;have hij:i*4+j<l.length*4:=by omega
 obtain⟨b2,EJ,e2,hc⟩:=h.at (i:=i*4+j) (by omega);rw[e] at e2;cases e2
 rw[Nat.add_assoc,hc];have:=uF bm 4 mn l i j hi hj;rw[<-this,List.getElem?_eq_getElem (by omega)]
theorem gh {s:List UInt8} {l:List LTok} {c:Int} {k:Nat} (h:eR s=(l,c,k)):(c=0∧k=0∧l≠[]∧s.length<=1048576∧∃ts,bU 0 s=(ts,none)∧l=ts++[⟨0,[],0,s.length⟩])∨((c=2∧1048576<s.length∧k=1048576∨(c=40∨c=41∨c=42)∧s.length<=1048576∧∃ts,bU 0 s=(ts,some (c,k)))∧l=[]):=by
 unfold eR at h;split at h
 ·cases h;exact Or.inr ⟨Or.inl ⟨rfl,by assumption,rfl⟩,rfl⟩
 ·rename_i aU;cases hx:bU 0 s with
  |mk ts e=>
   rw[hx] at h;cases e with
   |none=>
    simp only[Prod.mk.injEq] at h;obtain⟨rfl,rfl,rfl⟩:=h;exact Or.inl ⟨rfl,rfl,by simp,by omega,ts,rfl,rfl⟩
   |some e=>
    obtain⟨x,y⟩:=e;simp only[Prod.mk.injEq] at h;obtain⟨rfl,rfl,rfl⟩:=h;exact Or.inr ⟨Or.inr ⟨we _ _ _ (Nat.le_refl _) _ _ (by rw[hx]),by omega,ts,rfl⟩,rfl⟩
theorem mo {w:World} {ao:Option Addr} {l:List LTok} (h:ar w ao (l.flatMap bm)) {i:Nat} (hi:i<l.length):
  ∃b off,ao=some ⟨b,off,none⟩∧w.cell? ⟨b,off+i*4,none⟩=some (.int .u8 l[i].sort)∧w.cell? ⟨b,off+i*4+1,none⟩=some (.string ⟨l[i].text.toArray⟩)∧
   w.cell? ⟨b,off+i*4+2,none⟩=some (I l[i].num)∧w.cell? ⟨b,off+i*4+3,none⟩=some (I l[i].at_):=by
 obtain⟨b,off,e,hc⟩:=BE h (by intro e;rw[e] at hi;simp at hi);exact⟨b,off,e,hc i hi 0 (by omega),hc i hi 1 (by omega),hc i hi 2 (by omega),hc i hi 3 (by omega)⟩
theorem tG:∀(n p:Nat) (l:List UInt8),l.length<=n->(bU p l).1.length<=l.length:=by
 intro n;induction n with
 |zero=>
  intro p l h;obtain rfl:l=[]:=List.eq_nil_of_length_eq_zero (by omega);rw[eK];simp
 |succ n ih=>
  intro p l h;cases l with
  |nil=>rw[eK];simp
  |cons c r=>
   simp only[List.length_cons] at h ⊢;cases h1:de c with
   |true=>rw[cC _ _ _ h1];have:=ih (p+1) r (by omega);omega
   |false=>
    by_cases h2:c.toNat=35
    ·rw[gj _ _ _ h2];have:=ih (p+1+(r.takeWhile bV).length) (r.drop (r.takeWhile bV).length) (by rw[List.length_drop];omega);rw[List.length_drop] at this;omega
    ·cases ht:cZ (c::r) with
     |bad e=>rw[i7 _ _ _ h1 h2 ht];simp
     |good s t m k=>
      have hk:=gD ht;simp only[List.length_cons] at hk;rw[eS _ _ _ h1 h2 ht];have:=ih (p+k) ((c::r).drop k) (by rw[List.length_drop,List.length_cons];omega);rw[List.length_drop,List.length_cons] at this;simp only[List.length_cons];omega
theorem lm {l:List UInt8} :(eR l).1.length<=1048577∧(eR l).1.length<=l.length+1:=by
 unfold eR;split
 ·simp
 ·have:=tG l.length 0 l (Nat.le_refl _);split
  ·rename_i ts hts;rw[hts] at this;simp only[List.length_append,List.length_singleton];simp only at this;omega
  ·simp
theorem An {l:List UInt8} :∀t∈(eR l).1,t.at_<=1048576∧t.at_<=l.length:=by
 intro t ht;unfold eR at ht;split at ht
 ·simp at ht
 ·split at ht
  ·rename_i ts hts;rcases List.mem_append.1 ht with h|h
   ·have:=(uQ l.length 0 l (Nat.le_refl _)).1 t (by rw[hts];exact h);omega
   ·rw[List.mem_singleton.1 h];simp only;omega
  ·simp at ht
def sM (n k:Int) (S:ByteArray):Prop:=Lib.decDigits n.natAbs=(if k=0 then[] else Lib.decDigits k.natAbs)++S.data.toList∧ -9223372036854775808<=k∧k<=9223372036854775807
theorem sM.size {n k:Int} {S:ByteArray} (h:sM n k S) (h0: -9223372036854775808<=n) (h1:n<=9223372036854775807):S.size<=19:=by
 have e:=congrArg List.length h.1;have:=gc 19 n.natAbs (by omega) (by omega);rw[List.length_append,am] at e;omega
theorem sM.step {n k:Int} {S:ByteArray} (h:sM n k S) (hk:k≠0):sM n (k.tdiv 10) ((⟨#[UInt8.ofNat (48+k.natAbs%10)]⟩:ByteArray)++S)∧(k.tdiv 10).natAbs<k.natAbs:=by
 have hq:(k.tdiv 10).natAbs=k.natAbs/10:=by rw[Int.natAbs_tdiv];rfl
 refine⟨⟨?_,?_⟩,by omega⟩
 ·rw[h.1,if_neg hk,ByteArray.data_append,Array.toList_append];by_cases hz:k.tdiv 10=0
  ·rw[if_pos hz];have hs:k.natAbs<10:=by rw[hz] at hq;simp at hq;omega
   rw[Lib.decDigits_one hs,show k.natAbs%10=k.natAbs by omega];try rfl
  ·rw[if_neg hz,hq];have hb:¬k.natAbs<10:=by
    intro hlt;apply hz;have:(k.tdiv 10).natAbs=0:=by rw[hq];omega
    omega
   rw[Lib.decDigits,dif_neg hb,List.append_assoc];try rfl
 ·have h2:=h.2;rcases Int.le_total 0 k with hp|hp
  ·have e:k.tdiv 10=k/10:=Int.tdiv_eq_ediv_of_nonneg hp;rw[e];omega
  ·have h3:(k.tdiv 10).natAbs<=k.natAbs:=by omega
   have h5:(-k).tdiv 10=(-k)/10:=Int.tdiv_eq_ediv_of_nonneg (by omega);have h6:(-k).tdiv 10= -(k.tdiv 10):=Int.neg_tdiv k 10;omega
theorem sM.done {n:Int} {S:ByteArray} (h:sM n 0 S):S.data.toList=Lib.decDigits n.natAbs:=by rw[h.1,if_pos rfl];rfl
theorem oT (L:List UInt8):∀(ts:List LTok) (a i:Nat) (t:LTok),lh L a ts->ts[i]? =some t->
  (i=0->a<=t.at_)∧(∀j u,i=j+1->ts[j]? =some u->u.at_+u.spelt.length<=t.at_)∧t.at_+t.spelt.length<=L.length∧(L.drop t.at_).take t.spelt.length=t.spelt∧t.sort≠0∧t.right=true∧
   (-9223372036854775808<=t.num∧t.num<=9223372036854775807):=by
 intro ts;induction ts with
 |nil=>intro a i t _ h;simp at h
 |cons x r ih=>
  intro a i t hp h;obtain⟨p1,p2,p3,p4,p5,p6,p7⟩:=hp;cases i with
  |zero=>
   simp only[List.getElem?_cons_zero,Option.some.injEq] at h;subst h;exact⟨fun _=>p1,fun j u hj=>by omega,p2,p3,p4,p5,p6⟩
  |succ i=>
   simp only[List.getElem?_cons_succ] at h;obtain⟨h1,h2,h3⟩:=ih _ i t p7 h;refine⟨fun h=>by omega,fun j u hj hu=>?_,h3⟩;cases j with
   |zero=>
    simp only[List.getElem?_cons_zero,Option.some.injEq] at hu;subst hu;exact h1 (by omega)
   |succ j=>
    simp only[List.getElem?_cons_succ] at hu;exact h2 j u (by omega) hu
def zi (l:List LTok):Nat->Nat
 |0=>0
 |i+1=>match l[i]? with
  |some t=>t.at_+t.spelt.length
  |none=>0
theorem ud {t:LTok} (h:t.right=true):t.text.length<=t.spelt.length:=by
 unfold LTok.right at h;split at h
 ·rename_i e;unfold LTok.spelt;rw[if_neg (by omega)];omega
 ·split at h
  ·rw[decide_eq_true_iff] at h;rw[h];simp
  ·split at h
   ·rename_i e;unfold LTok.spelt;rw[if_neg (by omega)];omega
   ·cases h
theorem jB {s:List UInt8} {l:List LTok} (h:eR s=(l,0,0)):
  (∀(i:Nat) (hi:i<l.length),zi l i<=l[i].at_∧l[i].at_+l[i].spelt.length<=s.length∧(s.drop l[i].at_).take l[i].spelt.length=l[i].spelt∧
   ((i+1=l.length∧l[i].sort=0)∨(i+1≠l.length∧l[i].sort≠0∧l[i].right=true))∧(-9223372036854775808<=l[i].num∧l[i].num<=9223372036854775807)∧l[i].text.length<=s.length)∧zi l l.length=s.length∧0<l.length:=by
 rcases gh h with⟨_,_,_,aU,ts,hl,rfl⟩|⟨⟨h2,_⟩|⟨h2,_⟩,_⟩
 ·have hp:=rX s s.length 0 s (Nat.le_refl _) rfl (Nat.zero_le _);rw[hl] at hp;simp only at hp;have gd:∀i,i<=ts.length->zi (ts++[⟨0,[],0,s.length⟩]) i<=s.length:=by
   intro i hi;cases i with
   |zero=>exact Nat.zero_le _
   |succ i=>
    have e:(ts++[(⟨0,[],0,s.length⟩:LTok)])[i]? =some ts[i]:=by rw[List.getElem?_append_left (by omega)];exact List.getElem?_eq_getElem (by omega)
    have:=(oT s ts 0 i ts[i] hp (List.getElem?_eq_getElem (by omega))).2.2.1;show(match(ts++[(⟨0,[],0,s.length⟩:LTok)])[i]? with|some t=>t.at_+t.spelt.length|none=>0)<=_
    rw[e];exact this
  refine⟨fun i hi=>?_,?_,by simp⟩
  ·by_cases hit:i<ts.length
   ·have e:(ts++[(⟨0,[],0,s.length⟩:LTok)])[i]=ts[i]:=List.getElem_append_left hit;obtain⟨g1,g2,g3,g4,g5,g6,g7⟩:=oT s ts 0 i ts[i] hp (List.getElem?_eq_getElem hit);rw[e];refine⟨?_,g3,g4,Or.inr ⟨by rw[List.length_append,List.length_singleton];omega,g5,g6⟩,g7,?_⟩
    ·cases i with
     |zero=>exact Nat.zero_le _
     |succ i=>
      have e:(ts++[(⟨0,[],0,s.length⟩:LTok)])[i]? =some ts[i]:=by rw[List.getElem?_append_left (by omega)];exact List.getElem?_eq_getElem (by omega)
      show(match(ts++[(⟨0,[],0,s.length⟩:LTok)])[i]? with|some t=>t.at_+t.spelt.length|none=>0)<=_
      rw[e];exact g2 i ts[i] rfl (List.getElem?_eq_getElem (by omega))
    ·have:=ud g6;omega
   ·have hi2:i=ts.length:=by rw[List.length_append,List.length_singleton] at hi;omega
    subst hi2;have e:(ts++[(⟨0,[],0,s.length⟩:LTok)])[ts.length]=⟨0,[],0,s.length⟩:=by simp
    rw[e];have hz:(LTok.mk 0 [] 0 s.length).spelt=[]:=rfl;rw[hz];exact⟨gd _ (Nat.le_refl _),by simp,by simp,Or.inl ⟨by simp,rfl⟩,⟨by show(-9223372036854775808:Int)<=0;omega,by show(0:Int)<=_;omega⟩,by simp⟩
  ·rw[List.length_append,List.length_singleton];show(match(ts++[(⟨0,[],0,s.length⟩:LTok)])[ts.length]? with|some t=>t.at_+t.spelt.length|none=>0)=_
   have e:(ts++[(⟨0,[],0,s.length⟩:LTok)])[ts.length]? =some ⟨0,[],0,s.length⟩:=by simp
   rw[e];rfl
 ·cases h2
 ·omega
end Go.Proofs.YtnedmonlofbahaaGreatDoor
