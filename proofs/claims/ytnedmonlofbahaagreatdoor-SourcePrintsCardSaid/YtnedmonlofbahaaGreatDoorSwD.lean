/-
  SkJ, SkK, SkR, SkV, SkX, SkY, SkL, SkM: what is wanted of them.
-/
import Derived.Test.YtnedmonlofbahaaGreatDoorSwC
namespace Go.Proofs.YtnedmonlofbahaaGreatDoor
open Go Go.RowKit Go.Joins
set_option linter.all false
structure SBnd (s:Sk):Prop where
 n:s.name.size<=9223372036854775807
 i:s.items.length<=9223372036854775807
 sz:∀x∈s.items,ISz x
 bd:∀x∈s.items,IBnd x
theorem mC {l:List SIt} {k:Nat} (h:(l.take k).all aP=true) (hk:k<l.length) (hr:aP l[k]=true):(l.take (k+1)).all aP=true:=by
 rw[List.take_succ_eq_append_getElem hk,List.all_append,h];simp[hr]
theorem pA {l:List SIt} {k:Nat} (hk:k<l.length) (hr:aP l[k]=false):l.all aP=false:=by
 cases h:l.all aP with
 |false=>rfl
 |true=>exact absurd (List.all_eq_true.1 h _ (List.getElem_mem hk)) (by rw[hr];decide)
def mY (s:Sk):List UInt8:=[103,114,97,112,104,32]++s.name.data.toList++[32,123,10]
theorem rc (s:Sk):bY s=mY s++s.items.flatMap bw++[125,10]:=rfl
theorem sI (l:List SIt) (k:Nat):(l.take k).flatMap bw<+:l.flatMap bw:=by
 conv=>rhs;rw[<-List.take_append_drop k l]
 rw[List.flatMap_append];exact List.prefix_append _ _
theorem qH (l:List SIt) (k:Nat) (h:k<l.length):(l.take (k+1)).flatMap bw=(l.take k).flatMap bw++bw l[k]:=by
 rw[List.take_succ_eq_append_getElem h,List.flatMap_append];simp
def Far (s:Sk) (k:Nat) (L:List UInt8):Prop:=(L=mY s++(s.items.take k).flatMap bw∨1048576<L.length)∧L<+:mY s++(s.items.take k).flatMap bw∧L.length<=1048800
theorem Far.big {s:Sk} {k:Nat} {L:List UInt8} (h:Far s k L) (hL:1048576<L.length):1048576<(bY s).length:=by
 have h1:=h.2.1.length_le;have h2:=(sI s.items k).length_le;rw[rc];simp only[List.length_append] at h1 ⊢;omega
theorem Far.next {s:Sk} {k:Nat} {L:List UInt8} (h:Far s k L) (hL:¬1048576<L.length) (hk:k<s.items.length) {l':List UInt8} (h1:l'<+:bw s.items[k]) (h2:l'=bw s.items[k]∨1048576<(L++l').length) (h3:(L++l').length<=1048800):Far s (k+1) (L++l'):=by
 have e:L=mY s++(s.items.take k).flatMap bw:=by
  rcases h.1 with e|e
  ·exact e
  ·exact absurd e hL
 rw[Far,qH _ _ hk];refine⟨?_,?_,h3⟩
 ·rcases h2 with rfl|h2
  ·exact .inl (by rw[e,List.append_assoc])
  ·exact .inr h2
 ·rw[<-List.append_assoc,<-e];exact(List.prefix_append_right_inj L).2 h1
theorem Far.done {s:Sk} {L:List UInt8} (h:Far s s.items.length L):(L++[125,10]=bY s∨1048576<L.length):=by
 rcases h.1 with e|e
 ·left;rw[e,List.take_length];rfl
 ·exact .inr e
set_option maxRecDepth 100000 in
set_option maxHeartbeats 8000000 in
theorem rd (w:World) (s:Sk) (he:Env w) (h:SkAt w s) (hd:SBnd s):
  Calls Tryz.prog 41 #[s.v] w fun e w'=>e= .returned (.tuple #[.string ⟨(bJ s).1.toArray⟩,I (bJ s).2])∧New w w':=by
 obtain⟨name,ia,ic,items⟩:=s;have nb:New w (w.alloc (.cells #[.string name,.slice ia items.length ic] 52)):=(New.refl w).alloc _;have hbk:(w.alloc (.cells #[.string name,.slice ia items.length ic] 52)).heap[w.heap.size]? =some (.cells #[.string name,.slice ia items.length ic] 52 (0,0)):=heap_alloc_new w _;obtain⟨c0,c1,-,-,hX⟩:=bx hbk;have hnm:=eR (w.alloc (.cells #[.string name,.slice ia items.length ic] 52)) name hd.n;have hil:=hd.i;simp only at hil;have HBK:=Lib.hid hbk;have HB:=Lib.hid nb;have H:=Lib.hid h;have HD:=Lib.hid hd;obtain⟨PO,hPO⟩:∃PO:Ending->World->Prop,PO=fun e w'=>e= .returned (.tuple #[.string ⟨(bJ ⟨name,ia,ic,items⟩).1.toArray⟩,I (bJ ⟨name,ia,ic,items⟩).2])∧New w w':=⟨_,rfl⟩
 have HPO:=Lib.hid hPO;show Calls Tryz.prog 41 #[.agg #[.string name,.slice ia items.length ic]] w _
 rw[<-hPO];clear hPO h hd nb hbk;cases hn:aM name with
 |false=>
  rw[hn] at hnm;have hpa:bJ ⟨name,ia,ic,items⟩=([],1):=by unfold bJ;rw[if_pos (by simp[hn])]
  have HPA:=Lib.hid hpa;clear hpa hn;go_enter Tryz.func41,Tryz.ntmps41;go_wp2_with fail;refine hnm.mono ?_;rintro e w1 ⟨rfl,n1⟩;go_wp2_with fail;rw[HPO.out];exact⟨(show Ending.returned (.tuple #[.string ⟨#[]⟩,I 1])=_ by rw[HPA.out]),HB.out.trans n1⟩
 |true=>
  rw[hn] at hnm;have hn16:=bh hn;have HNM:=Lib.hid hn;clear hn;go_enter Tryz.func41,Tryz.ntmps41;go_wp2_with fail;refine hnm.mono ?_;rintro e w1 ⟨rfl,n1⟩;have NW:=Lib.hid (HB.out.trans n1);have hbk:=Keeps.heap n1 HBK.out (fun h=>h);obtain⟨d0,d1,-,-,hX1⟩:=bx hbk;have HBK1:=Lib.hid hbk;clear hnm hbk n1 c0 c1 hX HBK;go_wp2_with fail;go_loopw [16] (fun i wr=>∃k:Nat,k<=items.length∧i= .int .i64 k∧Hid (New w1 wr)∧Hid ((items.take k).all aP=true)) (fun i _=>items.length-(intOf i).toNat)
  case atStart=>exact⟨0,by omega,rfl,Lib.hid (New.refl _),Lib.hid (by simp)⟩
  case round=>
   obtain⟨k,hk,rfl,HN,HR⟩:=hrel;by_cases hk1:k<items.length
   ·have hkI:(k:Int)<(items.length:Int):=by omega
    have hkd:decide (k<items.length)=true:=decide_eq_true hk1;have hnw:=NW.out.trans HN.out;obtain⟨bb,off,hab,q0,q1,q2,q3,q4,q5,q6,q7,q8,q9,q10⟩:=eX (H.out.new hnw).sl hk1;have hisz:=HD.out.sz _ (List.getElem_mem hk1);have hibd:=(HD.out.bd _ (List.getElem_mem hk1)).ln;have hat:= @mC items k HR.out hk1;have han:= @pA items k hk1;simp only at hab q0 q1 q2 q3 q4 q5 q6 q7 q8 q9 q10;subst hab;generalize items[k]=y at q0 q1 q2 q3 q4 q5 q6 q7 q8 q9 q10 hisz hibd hat han;obtain⟨kd,nm,tg,sa,sc,xs,fn,fp,fa,tn,tp,ta,at_⟩:=y;simp only at q0 q1 q2 q3 q4 q5 q6 q7 q8 q9 q10 hibd;have hbw:=World.block_lt_of_cell? wr _ q0;have nX:New wr (wr.alloc (.cells #[.int .u8 kd,.string nm,.string tg,.slice sa xs.length sc,.string fn,I fp,I fa,.string tn,I tp,I ta,I at_] ItT)):=(New.refl _).alloc _;obtain⟨⟨x0,x1,x2,x3,x4,x5,x6,x7,x8,x9,x10⟩,-,hXX⟩:=aN (heap_alloc_new wr (.cells #[.int .u8 kd,.string nm,.string tg,.slice sa xs.length sc,.string fn,I fp,I fa,.string tn,I tp,I ta,I at_] ItT));have hri:=mv (wr.alloc (.cells #[.int .u8 kd,.string nm,.string tg,.slice sa xs.length sc,.string fn,I fp,I fa,.string tn,I tp,I ta,I at_] ItT)) (⟨kd,nm,tg,sa,sc,xs,fn,fp,fa,tn,tp,ta,at_⟩:SIt) hisz hibd;have HAT:=Lib.hid hat;have HAN:=Lib.hid han;obtain⟨rb,hrb⟩:∃r,aP (⟨kd,nm,tg,sa,sc,xs,fn,fp,fa,tn,tp,ta,at_⟩:SIt)=r:=⟨_,rfl⟩
    rw[hrb] at hri;have HRB:=Lib.hid hrb;have NX:=Lib.hid nX;clear hisz hat han hrb nX;cases rb with
    |false=>
     have hpa:bJ ⟨name,some ⟨bb,off,none⟩,ic,items⟩=([],1):=by unfold bJ;rw[if_pos (by simp only[HAN.out HRB.out,Bool.and_false])]
     have HPA:=Lib.hid hpa;clear hpa;go_wp2_with fail;refine hri.mono ?_;rintro e w2 ⟨rfl,n2⟩;go_wp2_with fail;rw[HPO.out];exact⟨(show Ending.returned (.tuple #[.string ⟨#[]⟩,I 1])=_ by rw[HPA.out]),(hnw.trans NX.out).trans n2⟩
    |true=>
     go_wp2_with fail;refine hri.mono ?_;rintro e w2 ⟨rfl,n2⟩;have HN2:=Lib.hid ((HN.out.trans NX.out).trans n2);clear hri n2 hnw;go_wp2_with fail;go_roundw
     case rel=>exact⟨k+1,by omega,by go_num,HN2,Lib.hid (HAT.out HRB.out)⟩
     case measure=>simp[intOf];omega
   ·have hke:k=items.length:=by omega
    have hkd:decide (k<items.length)=false:=decide_eq_false hk1;have hk9:¬(k:Int)<(items.length:Int):=by omega
    have HALL:Hid (items.all aP=true):=Lib.hid (by have h1:=HR.out;rw[hke,List.take_length] at h1;exact h1);clear hke;obtain⟨wo,hwo⟩:∃wo:World,wo=wr:=⟨_,rfl⟩
    rw[<-hwo] at HN ⊢;clear hwo HR hk hk1;have hnwo:=NW.out.trans HN.out;have heo:=Lib.hid (he.new hnwo);have hbk:=Keeps.heap HN.out HBK1.out (fun h=>h);have nB:New wo (wo.alloc (.cells #[.pointer none,.slice none 0 0] 140)):=(New.refl _).alloc _;have hbk2:=Keeps.heap nB hbk (fun h=>h);obtain⟨e0,e1,-,-,hX2⟩:=bx hbk2;have HBK2:=Lib.hid hbk2;have hbd:=Bd.start wo;obtain⟨S1,hS1⟩:∃X,(⟨#[103,114,97,112,104,32]⟩:ByteArray)++name=X:=⟨_,rfl⟩
    have hzS1:S1.size<=22:=by
     have h1:((⟨#[103,114,97,112,104,32]⟩:ByteArray)).size<=6:=(by decide)
     have h2:(name).size<=16:=hn16;rw[<-hS1,ByteArray.size_append];omega
    have lS1:S1.data.toList=((⟨#[103,114,97,112,104,32]⟩:ByteArray)).data.toList++(name).data.toList:=by rw[<-hS1,ByteArray.data_append,Array.toList_append]
    have addS1:∀w:World,(Op.stringOp .add ((⟨#[103,114,97,112,104,32]⟩:ByteArray)) (name)).run Tryz.prog w= .ok (.string S1) w:=fun w=>by
     have h1:((⟨#[103,114,97,112,104,32]⟩:ByteArray)).size<=6:=(by decide)
     have h2:(name).size<=16:=hn16;rw[<-hS1];exact run_string_add_sum w _ _ (by omega)
    clear hS1;obtain⟨S2,hS2⟩:∃X,S1++(⟨#[32,123,10]⟩:ByteArray)=X:=⟨_,rfl⟩
    have hzS2:S2.size<=25:=by
     have h1:(S1).size<=22:=hzS1;have h2:((⟨#[32,123,10]⟩:ByteArray)).size<=3:=(by decide)
     rw[<-hS2,ByteArray.size_append];omega
    have lS2:S2.data.toList=(S1).data.toList++((⟨#[32,123,10]⟩:ByteArray)).data.toList:=by rw[<-hS2,ByteArray.data_append,Array.toList_append]
    have addS2:∀w:World,(Op.stringOp .add (S1) ((⟨#[32,123,10]⟩:ByteArray))).run Tryz.prog w= .ok (.string S2) w:=fun w=>by
     have h1:(S1).size<=22:=hzS1;have h2:((⟨#[32,123,10]⟩:ByteArray)).size<=3:=(by decide)
     rw[<-hS2];exact run_string_add_sum w _ _ (by omega)
    clear hS2;have hwo2:wo.heap.size<=(wo.alloc (.cells #[.pointer none,.slice none 0 0] 140)).heap.size:=nB.size;have hw:=bC _ wo.heap.size wo.heap.size [] S2 hbd (by simp only[List.length_nil];omega) hwo2;have HSL:Hid ([]++S2.data.toList=mY ⟨name,ia,ic,items⟩):=Lib.hid (by rw[lS2,lS1];rfl);have HSZ:=Lib.hid hzS2;have NB:=Lib.hid nB;have NWO:=Lib.hid hnwo;clear hbk hbk2 hbd nB d0 d1 hX1 HBK1 hzS1 hzS2 lS1 lS2 hnwo;go_wp2_with fail;refine hw.mono ?_;rintro e w2 ⟨rfl,b2,k2⟩;clear hkd hk9;have hbk2:=k2.heap HBK2.out rfl;obtain⟨f0,f1,-,-,hX3⟩:=bx hbk2;have HBB:=Lib.hid b2;have HKK:=Lib.hid k2;have HFAR:Hid (Far ⟨name,ia,ic,items⟩ 0 ([]++S2.data.toList)):=Lib.hid (by
     rw[HSL.out];refine⟨.inl (by simp),by simp,?_⟩;rw[<-HSL.out,List.nil_append,ai];have:=HSZ.out;omega)
    clear hw b2 k2 hbk2 e0 e1 hX2 HBK2;obtain⟨BB,hBB⟩:∃BB,BB=wo.heap.size:=⟨_,rfl⟩
    have hBBle:wo.heap.size<=BB:=by omega
    rw[<-hBB] at HBB HKK ⊢;have HBE:=Lib.hid hBB;clear hBB;go_wp2_with fail;go_loopw [32] (fun i wr=>∃(k:Nat) (L:List UInt8),k<=items.length∧i= .int .i64 k∧Hid (Bd wr BB BB L∧KZ BB (wo.alloc (.cells #[.pointer none,.slice none 0 0] 140)) wr)∧Hid (Far ⟨name,ia,ic,items⟩ k L)) (fun i _=>items.length-(intOf i).toNat)
    case atStart=>exact⟨0,_,by omega,rfl,Lib.hid ⟨HBB.out,HKK.out⟩,HFAR⟩
    case round=>
     clear HBB HKK HFAR f0 f1 hX3;obtain⟨k,L,hk,rfl,HS,HF⟩:=hrel;have HNO:Hid (New wo wr):=Lib.hid (KZ.nw HS.out.2 hBBle NB.out);by_cases hk1:k<items.length
     ·have hkI:(k:Int)<(items.length:Int):=by omega
      have hkd:decide (k<items.length)=true:=decide_eq_true hk1;obtain⟨bb,off,hab,q0,q1,q2,q3,q4,q5,q6,q7,q8,q9,q10⟩:=eX (H.out.new (NWO.out.trans HNO.out)).sl hk1;have hibd:=HD.out.bd _ (List.getElem_mem hk1);have hnx:=(H.out.new NWO.out).nx _ (List.getElem_mem hk1);have hright:=List.all_eq_true.1 HALL.out _ (List.getElem_mem hk1);simp only at hab q0 q1 q2 q3 q4 q5 q6 q7 q8 q9 q10;have HNEXT:=Lib.hid (@Far.next ⟨name,ia,ic,items⟩ k L HF.out);have HBIG:=Lib.hid (@Far.big ⟨name,ia,ic,items⟩ k L HF.out);have HAB:=Lib.hid hab;obtain⟨y,hy⟩:∃y,items[k]=y:=⟨_,rfl⟩
      have HY:=Lib.hid hy;rw[hy] at q0 q1 q2 q3 q4 q5 q6 q7 q8 q9 q10 hibd hnx hright;clear hy;obtain⟨kd,nm,tg,sa,sc,xs,fn,fp,fa,tn,tp,ta,at_⟩:=y;simp only at q0 q1 q2 q3 q4 q5 q6 q7 q8 q9 q10;have hbw:=World.block_lt_of_cell? wr _ q0;have nX:New wr (wr.alloc (.cells #[.int .u8 kd,.string nm,.string tg,.slice sa xs.length sc,.string fn,I fp,I fa,.string tn,I tp,I ta,I at_] ItT)):=(New.refl _).alloc _;obtain⟨⟨x0,x1,x2,x3,x4,x5,x6,x7,x8,x9,x10⟩,-,hXX⟩:=aN (heap_alloc_new wr (.cells #[.int .u8 kd,.string nm,.string tg,.slice sa xs.length sc,.string fn,I fp,I fa,.string tn,I tp,I ta,I at_] ItT));have hlen:=fK (wr.alloc (.cells #[.int .u8 kd,.string nm,.string tg,.slice sa xs.length sc,.string fn,I fp,I fa,.string tn,I tp,I ta,I at_] ItT)) BB BB L (HS.out.1.new nX);have NX:=Lib.hid nX;obtain⟨m,hm⟩:∃m,L.length=m:=⟨_,rfl⟩
      rw[hm] at hlen;have HM:=Lib.hid hm;have HIB:=Lib.hid hibd;have HNXX:=Lib.hid hnx;have HRT:=Lib.hid hright;clear hab nX hm hibd hnx hright;by_cases hbig:1048576<m
      ·have hbI:(1048576:Int)<(m:Int):=by omega
       have hpa:bJ ⟨name,ia,ic,items⟩=([],2):=by
        unfold bJ;rw[if_neg (by simp only[HNM.out,HALL.out];decide),if_pos (HBIG.out (by rw[HM.out];exact hbig))]
       have HPA:=Lib.hid hpa;clear hpa hbig;rw[HAB.out];go_wp2_with fail;refine hlen.mono ?_;rintro e w3 ⟨rfl,rfl⟩;go_wp2_with fail;rw[HPO.out];exact⟨(show Ending.returned (.tuple #[.string ⟨#[]⟩,I 2])=_ by rw[HPA.out]),(NWO.out.trans HNO.out).trans NX.out⟩
      ·have hbI:¬(1048576:Int)<(m:Int):=by omega
       have HNB:=Lib.hid hbig;have hwr:=rK wo (wr.alloc (.cells #[.int .u8 kd,.string nm,.string tg,.slice sa xs.length sc,.string fn,I fp,I fa,.string tn,I tp,I ta,I at_] ItT)) BB BB L heo.out hBBle (HNO.out.trans NX.out) (HS.out.1.new NX.out) (⟨kd,nm,tg,sa,sc,xs,fn,fp,fa,tn,tp,ta,at_⟩:SIt) HNXX.out HRT.out HIB.out (by rw[HM.out];omega);clear hbig;rw[HAB.out];go_wp2_with fail;refine hlen.mono ?_;rintro e w3 ⟨rfl,rfl⟩;go_wp2_with fail;refine hwr.mono ?_;rintro e w4 ⟨rfl,k4,l',b4,p4,q4,z4⟩;have HS4:=Lib.hid (And.intro b4 ((HS.out.2.trans (KY.of_new NX.out)).trans k4));have HF4:Hid (Far ⟨name,ia,ic,items⟩ (k+1) (L++l')):=Lib.hid (HNEXT.out (by rw[HM.out];exact HNB.out) hk1 (by rw[HY.out];exact p4) (by rw[HY.out];exact q4) z4);clear hwr hlen b4 k4 p4 q4 z4 x0 x1 x2 x3 x4 x5 x6 x7 x8 x9 x10;go_wp2_with fail;go_roundw
       case rel=>exact⟨k+1,L++l',by omega,by go_num,HS4,HF4⟩
       case measure=>simp[intOf];omega
     ·have hke:k=items.length:=by omega
      have hkd:decide (k<items.length)=false:=decide_eq_false hk1;have hk9:¬(k:Int)<(items.length:Int):=by omega
      have HFE:Hid (Far ⟨name,ia,ic,items⟩ items.length L):=Lib.hid (by rw[<-hke];exact HF.out);have hlt:=HS.out.1.lt;have hw:=bC wr BB BB L (⟨#[125,10]⟩:ByteArray) HS.out.1 (by have:=HFE.out.2.2;show _+2<=_;omega) hlt.2;clear hke;go_wp2_with fail;refine hw.mono ?_;rintro e w3 ⟨rfl,b3,k3⟩;have b3:Bd w3 BB BB (L++[125,10]):=b3;have hlen:=fK w3 BB BB _ b3;have hst:=rU w3 BB BB _ b3 b3.lt.2;have NW3:=Lib.hid (NWO.out.trans (KZ.nw (HS.out.2.trans k3) hBBle NB.out));obtain⟨m,hm⟩:∃m,(L++[125,10]).length=m:=⟨_,rfl⟩
      rw[hm] at hlen;have HM:=Lib.hid hm;have hwle:w.heap.size<=BB:=Nat.le_trans NWO.out.size hBBle;clear hw k3 b3 hm;by_cases hbig:1048576<m
      ·have hbI:(1048576:Int)<(m:Int):=by omega
       have hpa:bJ ⟨name,ia,ic,items⟩=([],2):=by
        unfold bJ;rw[if_neg (by simp only[HNM.out,HALL.out];decide),if_pos];rcases HFE.out.done with e|e
        ·rw[<-e,HM.out];exact hbig
        ·exact HFE.out.big e
       have HPA:=Lib.hid hpa;clear hpa hbig;go_wp2_with fail;refine hlen.mono ?_;rintro e w4 ⟨rfl,rfl⟩;go_wp2_with fail;rw[HPO.out];exact⟨(show Ending.returned (.tuple #[.string ⟨#[]⟩,I 2])=_ by rw[HPA.out]),NW3.out⟩
      ·have hbI:¬(1048576:Int)<(m:Int):=by omega
       have hLP:L++[125,10]=bY ⟨name,ia,ic,items⟩:=by
        rcases HFE.out.done with e|e
        ·exact e
        ·have:=HM.out;rw[List.length_append] at this;omega
       have hpa:bJ ⟨name,ia,ic,items⟩=(L++[125,10],0):=by
        unfold bJ;rw[if_neg (by simp only[HNM.out,HALL.out];decide),if_neg (by rw[<-hLP,HM.out];exact hbig),<-hLP]
       have HPA:=Lib.hid hpa;obtain⟨X,hXX⟩:∃X:ByteArray,(⟨(L++[125,10]).toArray⟩:ByteArray)=X:=⟨_,rfl⟩
       rw[hXX] at hst;have HXX:=Lib.hid hXX;clear hpa hbig hLP hXX;go_wp2_with fail;refine hlen.mono ?_;rintro e w4 ⟨rfl,rfl⟩;go_wp2_with fail;refine hst.mono ?_;rintro e w5 ⟨rfl,k5⟩;go_wp2_with fail;rw[HPO.out];refine⟨(show Ending.returned (.tuple #[.string X,I 0])=_ by rw[HPA.out,HXX.out]),?_⟩;have kk:Keeps (fun i=>BB<=i) w4 w5:=⟨k5.os,k5.tape,k5.output,k5.size,fun i hi hn=>k5.block i (by omega)⟩
       exact NW3.out.keeps kk (fun i hi h=>by omega)
theorem jT (s:Sk):bJ s.bare=bJ s:=by
 have h1:s.bare.items.all aP=s.items.all aP:=by
  unfold Sk.bare;simp only[List.all_map];rfl
 have h2:bY s.bare=bY s:=by
  unfold bY Sk.bare;simp only[List.flatMap_map];rfl
 unfold bJ;rw[h1,h2];rfl
theorem pe (w:World) (s:ByteArray) (he:Env w) (hs:s.size<=9223372036854775807) (x:LSk) (h:dv s.data.toList= .ok x):
  Calls Tryz.prog 23 #[.string s] w fun e w'=>∃t:Sk,t.bare=x.mem∧e= .returned (.tuple #[t.v,.agg #[I 0,I 0]])∧SkOwn w' w.heap.size t∧New w w':=by
 refine(lP w s he hs).mono ?_;rw[h];exact fun e w' h=>h
theorem pd (w:World) (s:ByteArray) (he:Env w) (hs:s.size<=9223372036854775807) (c:Int) (k:Nat) (h:dv s.data.toList= .error (c,k)):
  Calls Tryz.prog 23 #[.string s] w fun e w'=>e= .returned (.tuple #[.agg #[.string ⟨#[]⟩,.slice none 0 0],.agg #[I c,I (k:Int)]])∧New w w':=by
 refine(lP w s he hs).mono ?_;rw[h];exact fun e w' h=>h
theorem lv {s:Sk} {x:LSk} (h:s.bare=x.mem):s.name=⟨x.name.toArray⟩∧s.items.length=x.items.length:=by
 have h1:=congrArg Sk.name h;have h2:=congrArg (fun t=>t.items.length) h;simp only[Sk.bare,LSk.mem,List.length_map] at h1 h2;exact⟨h1,h2⟩
theorem pX {s:Sk} {x:LSk} (h:s.bare=x.mem) (i:Nat) (hi:i<s.items.length) (hj:i<x.items.length):s.items[i]=x.items[i].mem s.items[i].a s.items[i].c:=by
 have h2:=congrArg Sk.items h;have h3:(s.items.map SIt.bare)[i]? =(x.items.map fun y=>y.mem none 0)[i]? :=by
  show s.bare.items[i]? =x.mem.items[i]?
  rw[h2]
 rw[List.getElem?_map,List.getElem?_map,List.getElem?_eq_getElem hi,List.getElem?_eq_getElem hj] at h3;have h4:s.items[i].bare=x.items[i].mem none 0:=Option.some.inj h3;generalize s.items[i]=y at h4 ⊢;generalize x.items[i]=z at h4 ⊢;obtain⟨y1,y2,y3,y4,y5,y6,y7,y8,y9,y10,y11,y12,y13⟩:=y;unfold SIt.bare LIt.mem at h4;unfold LIt.mem;simp only[SIt.mk.injEq] at h4 ⊢;exact⟨h4.1,h4.2.1,h4.2.2.1,trivial,trivial,h4.2.2.2.2.2.1,h4.2.2.2.2.2.2.1,h4.2.2.2.2.2.2.2.1,h4.2.2.2.2.2.2.2.2.1,h4.2.2.2.2.2.2.2.2.2.1,h4.2.2.2.2.2.2.2.2.2.2.1,h4.2.2.2.2.2.2.2.2.2.2.2.1,h4.2.2.2.2.2.2.2.2.2.2.2.2⟩
structure LBnd (x:LSk):Prop where
 n:x.name.length<=9223372036854775807
 i:x.items.length<=9223372036854775807
 sz:∀y∈x.items,y.name.length<=9223372036854775807∧y.tag.length<=9223372036854775807∧y.fr.name.length<=9223372036854775807∧y.tu.name.length<=9223372036854775807∧y.xs.length<=9223372036854775807
 bd:∀y∈x.items,(-9223372036854775808<=y.fr.port∧y.fr.port<=9223372036854775807)∧(-9223372036854775808<=y.tu.port∧y.tu.port<=9223372036854775807)∧∀n∈y.xs,-9223372036854775808<=n∧n<=9223372036854775807
theorem ii (l:List UInt8):(⟨l.toArray⟩:ByteArray).size=l.length:=by rw[<-ai]
theorem LBnd.mem {x:LSk} (h:LBnd x) {s:Sk} (hs:s.bare=x.mem):SBnd s:=by
 obtain⟨h1,h2⟩:=lv hs;have hit:∀y∈s.items,∃z∈x.items,y=z.mem y.a y.c:=fun y hy=>by
  obtain⟨i,hi,rfl⟩:=List.mem_iff_getElem.1 hy;exact⟨x.items[i]'(by omega),List.getElem_mem _,pX hs i hi (by omega)⟩
 refine⟨by rw[h1,ii];exact h.n,by rw[h2];exact h.i,fun y hy=>?_,fun y hy=>?_⟩
 ·obtain⟨z,hz,e⟩:=hit y hy;obtain⟨a1,a2,a3,a4,_⟩:=h.sz z hz;rw[e];exact⟨by show(⟨z.name.toArray⟩:ByteArray).size<=_;rw[ii];exact a1,by show(⟨z.tag.toArray⟩:ByteArray).size<=_;rw[ii];exact a2,by show(⟨z.fr.name.toArray⟩:ByteArray).size<=_;rw[ii];exact a3,by show(⟨z.tu.name.toArray⟩:ByteArray).size<=_;rw[ii];exact a4⟩
 ·obtain⟨z,hz,e⟩:=hit y hy;obtain⟨b1,b2,b3⟩:=h.bd z hz;rw[e];exact⟨b1,b2,b3,(h.sz z hz).2.2.2.2⟩
end Go.Proofs.YtnedmonlofbahaaGreatDoor
namespace Go.Proofs.YtnedmonlofbahaaGreatDoor
open Go
set_option linter.all false
theorem i6 {t:LTok} (h:t.right=true) (hn: -9223372036854775808<=t.num∧t.num<=9223372036854775807):t.spelt.length<=21∧1<=t.spelt.length:=by
 obtain⟨c,r,hs,_,_,_⟩:=jN t h hn;refine⟨?_,by rw[hs];simp⟩;unfold LTok.right at h;split at h
 ·rename_i e;unfold LTok.spelt;rw[if_neg (by omega)];simp only[Bool.and_eq_true] at h;cases hx:t.text with
  |nil=>simp
  |cons c r=>
   rw[hx] at h;simp only[eA,Bool.and_eq_true,decide_eq_true_iff] at h;have:=h.2.2.2;simp only[List.length_cons];omega
 ·split at h
  ·rename_i e;unfold LTok.spelt;rw[if_pos e];exact Lib.itoa_length_le t.num hn.1 hn.2
  ·split at h
   ·rename_i e;unfold LTok.spelt;rw[if_neg (by omega)];simp only[Bool.and_eq_true] at h;have:=h.2;unfold np at this;rw[decide_eq_true_iff] at this;rcases this with e|e|e|e|e|e<;>(rw[e];decide)
   ·cases h
theorem ir {s:List UInt8} {c:Int} {k:Nat} (h:dv s= .error (c,k)):c≠0∧k<=s.length:=by
 unfold dv at h;obtain⟨⟨l,c',k'⟩,hA⟩:∃r,dU s=r:=⟨_,rfl⟩
 rw[hA] at h;simp only at h;have hcode:=fA hA;split at h
 ·rename_i hc;cases h
  refine⟨hc,?_⟩;rcases hcode with⟨e,_⟩|⟨e,_⟩
  ·exact absurd e hc
  ·rcases e with⟨_,e2,e3⟩|⟨_,_,ts,e⟩
   ·omega
   ·have:=(pI s.length 0 s (Nat.le_refl _)).2 c k (by rw[e]);omega
 ·split at h
  ·cases h
  ·cases h
   refine⟨by decide,?_⟩;rename_i j hp;cases hj:l[j]? with
   |none=>exact Nat.zero_le _
   |some t=>
    show t.at_<=_
    have:=uv (l:=s) t (by rw[hA];exact List.mem_of_getElem? hj);omega
end Go.Proofs.YtnedmonlofbahaaGreatDoor
namespace Go.Proofs.YtnedmonlofbahaaGreatDoor
open Go
set_option linter.all false
def Lx (s:List UInt8) (ts:List LTok):Prop:=∀p,∃us,bZ p s=(us,none)∧us.map LTok.bare0=ts
theorem Lx.nil:Lx [] []:=fun p=>⟨[],dV p,rfl⟩
theorem Lx.blank {c:UInt8} {s:List UInt8} {ts:List LTok} (h:Lx s ts) (hc:cU c=true):Lx (c::s) ts:=fun p=>by
 rw[cm p c s hc];exact h (p+1)
theorem Lx.tok {t:LTok} {b:UInt8} {r:List UInt8} {ts:List LTok} (h:Lx (b::r) ts) (hr:t.right=true) (hn: -9223372036854775808<=t.num∧t.num<=9223372036854775807) (hb:fq b):Lx (t.spelt++b::r) (t.bare0::ts):=fun p=>by
 obtain⟨c,q,hs,h1,h2,ht⟩:=jN t hr hn;have ha:=jY c q b hb r;rw[ht,List.cons_append] at ha;obtain⟨us,hu,hts⟩:=h (p+(q.length+1));refine⟨⟨t.sort,t.text,t.num,p⟩::us,?_,by rw[List.map_cons,hts];rfl⟩;rw[hs,List.cons_append,ej _ _ _ h1 h2 ha];have hd:(c::(q++b::r)).drop (q.length+1)=b::r:=by rw[List.drop_succ_cons,List.drop_left]
 rw[hd,hu]
theorem Lx.mark {c:UInt8} {r:List UInt8} {ts:List LTok} (h:Lx r ts) (hc:c=123∨c=125∨c=61∨c=59∨c=46):Lx (c::r) (⟨3,[c],0,0⟩::ts):=fun p=>by
 have ht:dz (c::r)= .good 3 [c] 0 1:=by
  rw[bi];rcases hc with rfl|rfl|rfl|rfl|rfl<;>rfl
 obtain⟨us,hu,hts⟩:=h (p+1);refine⟨⟨3,[c],0,p⟩::us,?_,by rw[List.map_cons,hts];rfl⟩;rw[ej _ _ _ (by rcases hc with rfl|rfl|rfl|rfl|rfl<;>rfl) (by rcases hc with rfl|rfl|rfl|rfl|rfl<;>decide) ht];rw[List.drop_succ_cons,List.drop_zero,hu]
def wT (s:List UInt8):LTok:=⟨1,s,0,0⟩
def mT (s:List UInt8):LTok:=⟨3,s,0,0⟩
def nT (n:Int):LTok:=⟨2,[],n,0⟩
theorem Lx.word {s r:List UInt8} {b:UInt8} {ts:List LTok} (h:Lx (b::r) ts) (hs:eA s=true) (hb:fq b):Lx (s++b::r) (wT s::ts):=by
 have:=h.tok (t:=wT s) (by unfold LTok.right wT;simp[hs]) (by unfold wT;simp only;omega) hb;exact this
theorem Lx.num {n:Int} {r:List UInt8} {b:UInt8} {ts:List LTok} (h:Lx (b::r) ts) (hn: -9223372036854775808<=n∧n<=9223372036854775807) (hb:fq b):Lx (Lib.itoa n++b::r) (nT n::ts):=by
 have:=h.tok (t:=nT n) (by unfold LTok.right nT;simp) hn hb;exact this
theorem Lx.arrow {r:List UInt8} {ts:List LTok} (h:Lx (32::r) ts):Lx (45::62::32::r) (mT [45,62]::ts):=by
 have:=h.tok (t:=mT [45,62]) (by unfold LTok.right mT;decide) (by unfold mT;simp only;omega) (by unfold fq;decide);exact this
theorem dX:fq 32:=by unfold fq;decide
theorem uQ:fq 46:=by unfold fq;decide
theorem my:fq 59:=by unfold fq;decide
theorem Lx.place {n:ByteArray} {p:Int} {b:UInt8} {r:List UInt8} {ts:List LTok} (h:Lx (b::r) ts) (hb:fq b) (hn:aM n=true) (hp: -9223372036854775808<=p∧p<=9223372036854775807):
  Lx (aD n p++b::r) (wT n.data.toList::mT [46]::nT p::ts):=by
 have h1:=(h.num hp hb).mark (c:=46) (by decide);have h2:=h1.word (s:=n.data.toList) (by rw[<-fi];exact hn) uQ;unfold aD;rw[List.append_assoc,List.cons_append];exact h2
def fS (xs:List Int):List LTok:=xs.map nT
theorem Lx.nums {r:List UInt8} {ts:List LTok} (h:Lx (59::r) ts):∀xs:List Int,(∀n∈xs,-9223372036854775808<=n∧n<=9223372036854775807)->Lx (ak xs++59::r) (fS xs++ts)∧∃b q,ak xs++59::r=b::q∧fq b:=by
 intro xs;induction xs with
 |nil=>intro _;exact⟨h,59,r,rfl,my⟩
 |cons x xs ih=>
  intro hb;obtain⟨h1,b,q,e,hs⟩:=ih (fun n hn=>hb n (List.mem_cons_of_mem _ hn));rw[e] at h1;have h2:=(h1.num (hb x List.mem_cons_self) hs).blank (c:=32) (by decide);have e2:ak (x::xs)++59::r=32::(Lib.itoa x++b::q):=by
   rw[<-e];unfold ak;simp
  rw[e2];exact⟨h2,32,_,rfl,dX⟩
def fy (x:SIt):List LTok:=
 if x.kind=1 then[wT fI,wT x.name.data.toList,mT [61],wT x.tag.data.toList]++fS x.xs++[mT [59]]
 else if x.kind=2 then[wT hZ,wT x.fn.data.toList,mT [46],nT x.fp,mT [45,62],wT x.tn.data.toList,mT [46],nT x.tp]++(if x.xs=[] then[] else[wT iR])++fS x.xs++[mT [59]]
 else if x.kind=3 then[wT inW,wT x.name.data.toList,mT [45,62],wT x.tn.data.toList,mT [46],nT x.tp,mT [59]]
 else[wT ls,wT x.fn.data.toList,mT [46],nT x.fp,mT [45,62],wT x.name.data.toList,mT [59]]
theorem Lx.line {r:List UInt8} {ts:List LTok} (h:Lx r ts) (x:SIt) (hr:aP x=true) (hp:(-9223372036854775808<=x.fp∧x.fp<=9223372036854775807)∧(-9223372036854775808<=x.tp∧x.tp<=9223372036854775807)∧∀n∈x.xs,-9223372036854775808<=n∧n<=9223372036854775807):Lx (bw x++r) (fy x++ts):=by
 obtain⟨kind,name,tag,sa,sc,xs,fn,fp,fa,tn,tp,ta,at_⟩:=x;obtain⟨hf,ht,hx⟩:=hp;simp only at hf ht hx;have h0:Lx (59::10::r) (mT [59]::ts):=(h.blank (c:=10) (by decide)).mark (by decide);obtain⟨h1,b,q,e,hb⟩:=h0.nums xs hx;rw[e] at h1;unfold aP at hr;simp only at hr;split at hr
 ·rename_i hk;subst hk;simp only[Bool.and_eq_true] at hr;obtain⟨⟨⟨hn,ht⟩,-⟩,-⟩:=hr;rw[fi] at hn ht;have h2:=((h1.word ht hb).blank (c:=32) (by decide)).mark (c:=61) (by decide);have h3:=((((h2.blank (c:=32) (by decide)).word hn dX).blank (c:=32) (by decide)).word (s:=fI) (by decide) dX)
  have h4:=(h3.blank (c:=32) (by decide)).blank (c:=32) (by decide);have e1:bw ⟨1,name,tag,sa,sc,xs,fn,fp,fa,tn,tp,ta,at_⟩++r=32::32::(fI++32::(name.data.toList++32::61::32::(tag.data.toList++b::q))):=by
   rw[<-e];unfold bw bP fI;simp
  rw[e1];have e2:fy ⟨1,name,tag,sa,sc,xs,fn,fp,fa,tn,tp,ta,at_⟩++ts=wT fI::wT name.data.toList::⟨3,[61],0,0⟩::wT tag.data.toList::(fS xs++mT [59]::ts):=by
   unfold fy mT;simp
  rw[e2];exact h4
 ·split at hr
  ·rename_i hk;subst hk;simp only[Bool.and_eq_true] at hr;obtain⟨⟨⟨-,-⟩,hn⟩,ho⟩:=hr;have hT:∃b' q',(if xs=[] then[] else[32,119,105,116,104])++b::q=b'::q'∧fq b'∧Lx (b'::q') ((if xs=[] then[] else[wT iR])++(fS xs++mT [59]::ts)):=by
    by_cases hx0:xs=[]
    ·rw[if_pos hx0,if_pos hx0];exact⟨b,q,rfl,hb,h1⟩
    ·rw[if_neg hx0,if_neg hx0];exact⟨32,_,rfl,dX,(h1.word (s:=iR) (by decide) hb).blank (c:=32) (by decide)⟩
   obtain⟨b',q',e',hb',h2⟩:=hT;have h3:=((h2.place hb' ho ht).blank (c:=32) (by decide)).arrow.blank (c:=32) (by decide);have h4:=(((h3.place dX hn hf).blank (c:=32) (by decide)).word (s:=hZ) (by decide) dX)
   have h5:=(h4.blank (c:=32) (by decide)).blank (c:=32) (by decide);have e1:bw ⟨2,name,tag,sa,sc,xs,fn,fp,fa,tn,tp,ta,at_⟩++r=32::32::(hZ++32::(aD fn fp++32::45::62::32::(aD tn tp++b'::q'))):=by
    rw[<-e',<-e];unfold bw bP hZ;simp
   rw[e1];have e2:fy ⟨2,name,tag,sa,sc,xs,fn,fp,fa,tn,tp,ta,at_⟩++ts=wT hZ::wT fn.data.toList::mT [46]::nT fp::mT [45,62]::wT tn.data.toList::mT [46]::nT tp::((if xs=[] then[] else[wT iR])++(fS xs++mT [59]::ts)):=by
    unfold fy;simp
   rw[e2];exact h5
  ·split at hr
   ·rename_i hk;subst hk;simp only[Bool.and_eq_true] at hr;obtain⟨⟨⟨⟨hn,-⟩,hx0⟩,-⟩,ho⟩:=hr;have hx0:xs=[]:=by simpa using hx0
    subst hx0;rw[fi] at hn;have h3:=((h0.place my ho ht).blank (c:=32) (by decide)).arrow.blank (c:=32) (by decide);have h4:=(((h3.word hn dX).blank (c:=32) (by decide)).word (s:=inW) (by decide) dX)
    have h5:=(h4.blank (c:=32) (by decide)).blank (c:=32) (by decide);have e1:bw ⟨3,name,tag,sa,sc,[],fn,fp,fa,tn,tp,ta,at_⟩++r=32::32::(inW++32::(name.data.toList++32::45::62::32::(aD tn tp++59::10::r))):=by
     unfold bw bP inW ak;simp
    rw[e1];exact h5
   ·split at hr
    ·rename_i hk;subst hk;simp only[Bool.and_eq_true] at hr;obtain⟨⟨⟨⟨hn,-⟩,hx0⟩,ho⟩,-⟩:=hr;have hx0:xs=[]:=by simpa using hx0
     subst hx0;rw[fi] at hn;have h3:=((h0.word hn my).blank (c:=32) (by decide)).arrow.blank (c:=32) (by decide);have h4:=(((h3.place dX ho hf).blank (c:=32) (by decide)).word (s:=ls) (by decide) dX)
     have h5:=(h4.blank (c:=32) (by decide)).blank (c:=32) (by decide);have e1:bw ⟨4,name,tag,sa,sc,[],fn,fp,fa,tn,tp,ta,at_⟩++r=32::32::(ls++32::(aD fn fp++32::45::62::32::(name.data.toList++59::10::r))):=by
      unfold bw bP ls ak;simp
     rw[e1];exact h5
    ·cases hr
def tkS (s:Sk):List LTok:=[wT fP,wT s.name.data.toList,mT [123]]++s.items.flatMap fy++[mT [125]]
theorem Lx.sketch (s:Sk) (hn:aM s.name=true) (hr:s.items.all aP=true) (hb:∀x∈s.items,(-9223372036854775808<=x.fp∧x.fp<=9223372036854775807)∧(-9223372036854775808<=x.tp∧x.tp<=9223372036854775807)∧∀n∈x.xs,-9223372036854775808<=n∧n<=9223372036854775807):Lx (bY s) (tkS s):=by
 have hend:Lx [125,10] [mT [125]]:=(Lx.nil.blank (c:=10) (by decide)).mark (by decide);have hit:∀l:List SIt,(∀x∈l,aP x=true∧((-9223372036854775808<=x.fp∧x.fp<=9223372036854775807)∧(-9223372036854775808<=x.tp∧x.tp<=9223372036854775807)∧∀n∈x.xs,-9223372036854775808<=n∧n<=9223372036854775807))->Lx (l.flatMap bw++[125,10]) (l.flatMap fy++[mT [125]]):=by
  intro l;induction l with
  |nil=>intro _;exact hend
  |cons x l ih=>
   intro h;have h1:=ih (fun y hy=>h y (List.mem_cons_of_mem _ hy));obtain⟨h2,h3⟩:=h x List.mem_cons_self;have h4:=h1.line x h2 h3;simp only[List.flatMap_cons,List.append_assoc];exact h4
 have h1:=(hit s.items (fun x hx=>⟨List.all_eq_true.1 hr x hx,hb x hx⟩)).blank (c:=10) (by decide);rw[fi] at hn;have h2:=((h1.mark (c:=123) (by decide)).blank (c:=32) (by decide)).word hn dX;have h3:=(h2.blank (c:=32) (by decide)).word (s:=fP) (by decide) dX;have e1:bY s=fP++32::(s.name.data.toList++32::123::10::(s.items.flatMap bw++[125,10])):=by
  unfold bY fP;simp
 rw[e1];have e2:tkS s=wT fP::wT s.name.data.toList::⟨3,[123],0,0⟩::(s.items.flatMap fy++[mT [125]]):=by
  unfold tkS mT;simp
 rw[e2];exact h3
end Go.Proofs.YtnedmonlofbahaaGreatDoor
namespace Go.Proofs.YtnedmonlofbahaaGreatDoor
open Go
set_option linter.all false
theorem jh {s:ByteArray} (h:bL s=true):s.data.toList=[]:=by
 unfold bL at h;rw[<-ByteArray.toList_eq];simpa using h
theorem pY {n:ByteArray} {p:Int} (h:de n p=true):n.data.toList=[]∧p=0:=by
 unfold de at h;simp only[Bool.and_eq_true] at h;exact⟨(jh h.1),by simpa using h.2⟩
end Go.Proofs.YtnedmonlofbahaaGreatDoor
namespace Go.Proofs.YtnedmonlofbahaaGreatDoor
open Go
set_option linter.all false
def PR.lt {α:Type} (n:Nat):PR α->Prop
 | .bad k=>k<n
 | .good _ k=>k<n
section
variable {l:List LTok} (he:dR l)
include he
end
end Go.Proofs.YtnedmonlofbahaaGreatDoor
namespace Go.Proofs.YtnedmonlofbahaaGreatDoor
open Go
set_option linter.all false
def oE (l:List LTok):Nat->List UInt8
 |0=>[]
 |i+1=>oE l i++(l[i]?.map LTok.spelt).getD []++(if i+2<l.length then[32] else[])
structure TGood (l:List LTok):Prop where
 ne:0<l.length
 rt:∀(i:Nat) (t:LTok),l[i]? =some t->i+1<l.length->t.right=true∧t.sort≠0
 nm:∀(i:Nat) (t:LTok),l[i]? =some t-> -9223372036854775808<=t.num∧t.num<=9223372036854775807
 en:∀(i:Nat) (t:LTok),l[i]? =some t->i+1=l.length->t.sort=0∧t.spelt=[]∧t.text=[]∧t.num=0
theorem um {s:List UInt8} {l:List LTok} (h:dU s=(l,0,0)):TGood l:=by
 obtain⟨h1,_,h3⟩:=gW h;refine⟨h3,fun i t ht hi=>?_,fun i t ht=>?_,fun i t ht hi=>?_⟩
 ·obtain⟨hj,rfl⟩:=List.getElem?_eq_some_iff.1 ht;obtain⟨_,_,_,h4,_⟩:=h1 i hj;rcases h4 with⟨e,_⟩|⟨_,e1,e2⟩
  ·omega
  ·exact⟨e2,e1⟩
 ·obtain⟨hj,rfl⟩:=List.getElem?_eq_some_iff.1 ht;exact(h1 i hj).2.2.2.2.1
 ·rcases fA h with⟨_,_,_,hlen,ts,hl,rfl⟩|⟨⟨e,_⟩|⟨e,_⟩,_⟩
  ·rw[List.length_append,List.length_singleton] at hi;obtain rfl:i=ts.length:=by omega
   rw[List.getElem?_append_right (Nat.le_refl _),Nat.sub_self] at ht;cases ht
   exact⟨rfl,rfl,rfl,rfl⟩
  ·cases e
  ·omega
theorem TGood.len {l:List LTok} (h:TGood l) {i:Nat} {t:LTok} (ht:l[i]? =some t):t.spelt.length<=21:=by
 have hi:=(List.getElem?_eq_some_iff.1 ht).1;rcases Nat.lt_or_ge (i+1) l.length with h1|h1
 ·exact(i6 (h.rt i t ht h1).1 (h.nm i t ht)).1
 ·rw[(h.en i t ht (by omega)).2.1];simp
def ma (Bs:List UInt8) (Ws:List LTok):Prop:=∀rest,bZ 0 (Bs++rest)=(Ws++(bZ Bs.length rest).1,(bZ Bs.length rest).2)
theorem ma.step {Bs:List UInt8} {Ws:List LTok} (h:ma Bs Ws) (t:LTok) (hr:t.right=true) (hn: -9223372036854775808<=t.num∧t.num<=9223372036854775807):
  ma (Bs++t.spelt++[32]) (Ws++[{ t with at_:=Bs.length }]):=by
 intro rest;have h1:=h (t.spelt++j3 0++rest);rw[qE t hr hn 0 Bs.length rest] at h1;have e:j3 0=[32]:=rfl;rw[e] at h1;rw[List.append_assoc,List.append_assoc,<-List.append_assoc t.spelt,h1];simp only[List.length_append,List.append_assoc,List.singleton_append,Nat.add_assoc]
def vb (l:List LTok) (n:Nat) (Ws:List LTok):Prop:=Ws.length=n∧∀k t,k<n->l[k]? =some t->Ws[k]? =some { t with at_:=(oE l k).length }
theorem vb.snoc {l:List LTok} {n:Nat} {Ws:List LTok} (h:vb l n Ws) {t:LTok} (ht:l[n]? =some t):vb l (n+1) (Ws++[{ t with at_:=(oE l n).length }]):=by
 obtain⟨h1,h2⟩:=h;refine⟨by simp[h1],fun k u hk hu=>?_⟩;rcases Nat.lt_or_ge k n with h|h
 ·rw[List.getElem?_append_left (by omega)];exact h2 k u h hu
 ·obtain rfl:k=n:=by omega
  rw[ht] at hu;cases hu
  rw[List.getElem?_append_right (by omega),h1,Nat.sub_self];rfl
end Go.Proofs.YtnedmonlofbahaaGreatDoor
namespace Go.Proofs.YtnedmonlofbahaaGreatDoor
open Go
set_option linter.all false
abbrev cW (n:Int):Prop:= -9223372036854775808<=n∧n<=9223372036854775807
def eu (l:List LTok) (k m:Nat) (ts:List LTok):Prop:=m=k+ts.length∧(l.map LTok.bare0).drop k=ts++(l.map LTok.bare0).drop m
theorem eu.refl (l:List LTok) (k:Nat):eu l k k []:=⟨rfl,rfl⟩
theorem eu.trans {l:List LTok} {k m n:Nat} {ts us:List LTok} (h:eu l k m ts) (g:eu l m n us):eu l k n (ts++us):=by
 refine⟨by rw[g.1,h.1,List.length_append];omega,?_⟩;rw[h.2,g.2,List.append_assoc]
theorem eu.one {l:List LTok} {k:Nat} {t u:LTok} (h:l[k]? =some t) (e:t.bare0=u):eu l k (k+1) [u]:=by
 obtain⟨hk,rfl⟩:=List.getElem?_eq_some_iff.1 h;subst e;refine⟨rfl,?_⟩;rw[List.drop_eq_getElem_cons (by simpa using hk)];simp
theorem eu.le {l:List LTok} {k m:Nat} {ts:List LTok} (h:eu l k m ts) (hk:k<=l.length):ts.length<=l.length:=by
 have h1:=congrArg List.length h.2;simp only[List.length_drop,List.length_map,List.length_append] at h1;omega
section
variable {l:List LTok} (hg:TGood l)
include hg
theorem TGood.rt' {k:Nat} {t:LTok} (h:l[k]? =some t) (hs:t.sort≠0):t.right=true:=by
 have hk:=(List.getElem?_eq_some_iff.1 h).1;rcases Nat.lt_or_ge (k+1) l.length with h1|h1
 ·exact(hg.rt k t h h1).1
 ·exact absurd (hg.en k t h (by omega)).1 hs
theorem iJ {k m:Nat} {t:LTok} (h:cF 1 l k= .good t m):eu l k m [wT t.text]∧eA t.text=true:=by
 obtain⟨h1,h2,rfl⟩:=fF h;have hr:=hg.rt' h1 (by omega);unfold LTok.right at hr;rw[if_pos h2] at hr;simp only[Bool.and_eq_true,decide_eq_true_iff] at hr;refine⟨eu.one h1 ?_,hr.2⟩;unfold LTok.bare0 wT;rw[h2,hr.1]
theorem ph {k m:Nat} {t:LTok} (h:cF 2 l k= .good t m):eu l k m [nT t.num]∧cW t.num:=by
 obtain⟨h1,h2,rfl⟩:=fF h;have hr:=hg.rt' h1 (by omega);unfold LTok.right at hr;rw[if_neg (by omega),if_pos h2,decide_eq_true_iff] at hr;refine⟨eu.one h1 ?_,hg.nm k t h1⟩;unfold LTok.bare0 nT;rw[h2,hr]
theorem gj {b:List UInt8} {k m:Nat} {u:Unit} (h:bW 3 b l k= .good u m):eu l k m [mT b]:=by
 obtain⟨t,h1,h2,h3,rfl⟩:=gy h;have hr:=hg.rt' h1 (by omega);unfold LTok.right at hr;rw[if_neg (by omega),if_neg (by omega),if_pos h2] at hr;simp only[Bool.and_eq_true,decide_eq_true_iff] at hr;refine eu.one h1 ?_;unfold LTok.bare0 mT;rw[h2,h3,hr.1]
theorem jK {b:List UInt8} {k:Nat} {t:LTok} (h1:l[k]? =some t) (h2:t.sort=1) (h3:t.text=b):eu l k (k+1) [wT b]:=by
 have hr:=hg.rt' h1 (by omega);unfold LTok.right at hr;rw[if_pos h2] at hr;simp only[Bool.and_eq_true,decide_eq_true_iff] at hr;refine eu.one h1 ?_;unfold LTok.bare0 wT;rw[h2,h3,hr.1]
theorem tW {b:List UInt8} {k m:Nat} {u:Unit} (h:bW 1 b l k= .good u m):eu l k m [wT b]:=by
 obtain⟨t,h1,h2,h3,rfl⟩:=gy h;exact jK hg h1 h2 h3
theorem tX:∀(n k:Nat),(db l k).length=n->eu l k (k+n) (fS (db l k))∧∀x∈db l k,cW x:=by
 intro n;induction n with
 |zero=>
  intro k hk;rw[List.length_eq_zero_iff.1 hk];exact⟨eu.refl _ _,fun x hx=>by cases hx⟩
 |succ n ih=>
  intro k hk;obtain⟨t,h1,h2,_⟩:=lL (l:=l) (k:=k) (i:=0) (by omega);rw[Nat.add_zero] at h1;have e:=dZ h1;rw[if_pos h2] at e;rw[e] at hk ⊢;simp only[List.length_cons,Nat.add_right_cancel_iff] at hk;obtain⟨i1,i2⟩:=ih (k+1) hk;have ht:cF 2 l k= .good t (k+1):=by rw[ee h1,if_pos h2]
  obtain⟨j1,j2⟩:=ph hg ht;refine⟨?_,fun x hx=>?_⟩
  ·have:=j1.trans i1;rw[show k+1+n=k+(n+1) by omega] at this;exact this
  ·rcases List.mem_cons.1 hx with rfl|hx
   ·exact j2
   ·exact i2 x hx
theorem pP {k m:Nat} {xs:List Int} (h:numsP l k= .good xs m):eu l k m (fS xs)∧∀x∈xs,cW x:=by
 obtain⟨rfl,rfl⟩:=lM h;exact tX hg _ k rfl
theorem jt {k m:Nat} {p:LPl} (h:dE l k= .good p m):eu l k m [wT p.name,mT [46],nT p.port]∧eA p.name=true∧cW p.port:=by
 unfold dE at h;obtain⟨t,k1,h1,h⟩:=PR.bind_inv h;obtain⟨_,k2,h2,h⟩:=PR.bind_inv h;obtain⟨n,k3,h3,h⟩:=PR.bind_inv h;cases h
 obtain⟨a1,a2⟩:=iJ hg h1;obtain⟨b1,b2⟩:=ph hg h3;exact⟨(a1.trans (gj hg h2)).trans b1,a2,b2⟩
theorem uP {k m:Nat} {xs:List Int} (h:withP l k= .good xs m):eu l k m ((if xs=[] then[] else[wT iR])++fS xs)∧∀x∈xs,cW x:=by
 unfold withP at h;split at h
 ·rename_i hl;obtain⟨t,h1,h2,h3⟩:=lF hl;obtain⟨n,k1,h4,h⟩:=PR.bind_inv h;obtain⟨ys,k2,h5,h⟩:=PR.bind_inv h;cases h
  obtain⟨a1,a2⟩:=ph hg h4;obtain⟨b1,b2⟩:=pP hg h5;refine⟨?_,fun x hx=>?_⟩
  ·rw[if_neg (by simp)];exact(jK hg h1 h2 h3).trans (a1.trans b1)
  ·rcases List.mem_cons.1 hx with rfl|hx
   ·exact a2
   ·exact b2 x hx
 ·cases h
  exact⟨eu.refl _ _,fun x hx=>by cases hx⟩
end
abbrev IZ (x:LIt):SIt:=x.mem none 0
structure ItOk (x:LIt):Prop where
 rt:aP (IZ x)=true
 fp:cW x.fr.port
 tp:cW x.tu.port
 xs:∀n∈x.xs,cW n
theorem dI {s:List UInt8} (h:eA s=true):aM ⟨s.toArray⟩=true:=by rw[fi];simpa using h
theorem iA:bL (⟨([]:List UInt8).toArray⟩:ByteArray)=true:=by unfold bL;rw[ByteArray.toList_eq];rfl
theorem kc:de (⟨plZ.name.toArray⟩:ByteArray) plZ.port=true:=by
 unfold de;rw[show bL (⟨plZ.name.toArray⟩:ByteArray)=true from iA];rfl
theorem pT:cW 0:=⟨by decide,by decide⟩
theorem ig (s:List UInt8):(⟨s.toArray⟩:ByteArray).data.toList=s:=by simp
section
variable {l:List LTok} (hg:TGood l)
include hg
theorem uO {k m:Nat} {x:LIt} (h:bU l k= .good x m):eu l k m (fy (IZ x))∧ItOk x:=by
 unfold bU at h;obtain⟨y,kb,h0,h⟩:=PR.bind_inv h;obtain⟨_,ke,he,h⟩:=PR.bind_inv h;cases h
 have he:=gj hg he;unfold fM at h0;split at h0
 ·cases h0
 ·rename_i t ht;split at h0
  ·rename_i hs;have hk:=jK hg ht hs.1 hs.2;unfold eO at h0;obtain⟨n,k1,h1,h0⟩:=PR.bind_inv h0;obtain⟨_,k2,h2,h0⟩:=PR.bind_inv h0;obtain⟨g,k3,h3,h0⟩:=PR.bind_inv h0;obtain⟨xs,k4,h4,h0⟩:=PR.bind_inv h0;cases h0
   obtain⟨a1,a2⟩:=iJ hg h1;obtain⟨b1,b2⟩:=iJ hg h3;obtain⟨c1,c2⟩:=pP hg h4;refine⟨?_,⟨?_,pT,pT,c2⟩⟩
   ·have:=(((((hk.trans a1).trans (gj hg h2)).trans b1).trans c1).trans he)
    unfold fy IZ LIt.mem;simp only[if_pos,ig];simpa using this
   ·unfold aP IZ LIt.mem;simp only[if_pos];have e1:=kc;simp only[dI a2,dI b2,e1,Bool.and_true]
  ·split at h0
   ·rename_i hs;have hk:=jK hg ht hs.1 hs.2;unfold eM at h0;obtain⟨p,k1,h1,h0⟩:=PR.bind_inv h0;obtain⟨_,k2,h2,h0⟩:=PR.bind_inv h0;obtain⟨q,k3,h3,h0⟩:=PR.bind_inv h0;obtain⟨xs,k4,h4,h0⟩:=PR.bind_inv h0;cases h0
    obtain⟨a1,a2,a3⟩:=jt hg h1;obtain⟨b1,b2,b3⟩:=jt hg h3;obtain⟨c1,c2⟩:=uP hg h4;refine⟨?_,⟨?_,a3,b3,c2⟩⟩
    ·have:=(((((hk.trans a1).trans (gj hg h2)).trans b1).trans c1).trans he)
     unfold fy IZ LIt.mem;simp only[if_neg (show ¬(2:Int)=1 by decide),if_pos,ig];simpa using this
    ·unfold aP IZ LIt.mem;simp only[if_neg (show ¬(2:Int)=1 by decide),if_pos];have e1:=iA;simp only[dI a2,dI b2,e1,Bool.and_true]
   ·split at h0
    ·rename_i hs;have hk:=jK hg ht hs.1 hs.2;unfold inP at h0;obtain⟨n,k1,h1,h0⟩:=PR.bind_inv h0;obtain⟨_,k2,h2,h0⟩:=PR.bind_inv h0;obtain⟨q,k3,h3,h0⟩:=PR.bind_inv h0;cases h0
     obtain⟨a1,a2⟩:=iJ hg h1;obtain⟨b1,b2,b3⟩:=jt hg h3;refine⟨?_,⟨?_,pT,b3,fun n hn=>by cases hn⟩⟩
     ·have:=((((hk.trans a1).trans (gj hg h2)).trans b1).trans he)
      unfold fy IZ LIt.mem;simp only[if_neg (show ¬(3:Int)=1 by decide),if_neg (show ¬(3:Int)=2 by decide),if_pos,ig];simpa using this
     ·unfold aP IZ LIt.mem;simp only[if_neg (show ¬(3:Int)=1 by decide),if_neg (show ¬(3:Int)=2 by decide),if_pos];have e1:=kc;have e2:=iA;simp only[dI a2,dI b2,e1,e2,Bool.and_true,List.length_nil,beq_self_eq_true]
    ·split at h0
     ·rename_i hs;have hk:=jK hg ht hs.1 hs.2;unfold jH at h0;obtain⟨p,k1,h1,h0⟩:=PR.bind_inv h0;obtain⟨_,k2,h2,h0⟩:=PR.bind_inv h0;obtain⟨n,k3,h3,h0⟩:=PR.bind_inv h0;cases h0
      obtain⟨a1,a2,a3⟩:=jt hg h1;obtain⟨b1,b2⟩:=iJ hg h3;refine⟨?_,⟨?_,a3,pT,fun n hn=>by cases hn⟩⟩
      ·have:=((((hk.trans a1).trans (gj hg h2)).trans b1).trans he)
       unfold fy IZ LIt.mem;simp only[if_neg (show ¬(4:Int)=1 by decide),if_neg (show ¬(4:Int)=2 by decide),if_neg (show ¬(4:Int)=3 by decide),ig];simpa using this
      ·unfold aP IZ LIt.mem;simp only[if_neg (show ¬(4:Int)=1 by decide),if_neg (show ¬(4:Int)=2 by decide),if_neg (show ¬(4:Int)=3 by decide),if_pos];have e1:=kc;have e2:=iA;simp only[dI a2,dI b2,e1,e2,Bool.and_true,List.length_nil,beq_self_eq_true]
     ·cases h0
theorem tV:∀(f k m:Nat) (xs:List LIt),dh f l k= .good xs m->eu l k m ((xs.map IZ).flatMap fy)∧∀x∈xs,ItOk x:=by
 intro f;induction f with
 |zero=>intro k m xs h;cases h
 |succ f ih=>
  intro k m xs h;unfold dh at h;split at h
  ·cases h;exact⟨eu.refl _ _,fun x hx=>by cases hx⟩
  ·obtain⟨x,k1,h1,h⟩:=PR.bind_inv h;obtain⟨ys,k2,h2,h⟩:=PR.bind_inv h;cases h
   obtain⟨a1,a2⟩:=uO hg h1;obtain⟨b1,b2⟩:=ih _ _ _ h2;refine⟨a1.trans b1,fun y hy=>?_⟩;rcases List.mem_cons.1 hy with rfl|hy
   ·exact a2
   ·exact b2 y hy
theorem tY {x:LSk} {m:Nat} (h:dj l= .good x m):(∃k,eu l 0 k (tkS x.mem))∧eA x.name=true∧∀y∈x.items,ItOk y:=by
 unfold dj at h;obtain⟨_,k1,h1,h⟩:=PR.bind_inv h;obtain⟨n,k2,h2,h⟩:=PR.bind_inv h;obtain⟨_,k3,h3,h⟩:=PR.bind_inv h;obtain⟨xs,k4,h4,h⟩:=PR.bind_inv h;obtain⟨_,k5,h5,h⟩:=PR.bind_inv h;obtain⟨_,k6,h6,h⟩:=PR.bind_inv h;cases h
 obtain⟨a1,a2⟩:=iJ hg h2;obtain⟨b1,b2⟩:=tV hg _ _ _ _ h4;refine⟨⟨k5,?_⟩,a2,b2⟩;have:=((((tW hg h1).trans a1).trans (gj hg h3)).trans b1).trans (gj hg h5);unfold tkS LSk.mem;simp only[ig];simpa using this
end
def gF (ts:List LTok):Nat:=(ts.map fun t=>t.spelt.length).sum
theorem cQ (a b:List LTok):gF (a++b)=gF a+gF b:=by unfold gF;simp
theorem ek (t:LTok) (b:List LTok):gF (t::b)=t.spelt.length+gF b:=by unfold gF;simp
theorem fW:gF []=0:=rfl
theorem pg (a:List LTok):gF (a.map LTok.bare0)=gF a:=by
 unfold gF;rw[List.map_map];rfl
theorem uN {s:List UInt8} {l:List LTok} (h:dU s=(l,0,0)):gF l<=s.length:=by
 obtain⟨h1,h2,h3⟩:=gW h;have key:∀i,i<=l.length->gF (l.take i)<=sS l i:=by
  intro i;induction i with
  |zero=>intro _;simp[gF]
  |succ i ih=>
   intro hi;have hl:i<l.length:=by omega
   obtain⟨p1,_⟩:=h1 i hl;have h4:=ih (by omega);have e:sS l (i+1)=l[i].at_+l[i].spelt.length:=by
    show(match l[i]? with|some t=>t.at_+t.spelt.length|none=>0)=_
    rw[List.getElem?_eq_getElem hl]
   rw[List.take_succ_eq_append_getElem hl,cQ,ek,fW,e];omega
 have:=key l.length (Nat.le_refl _);rw[List.take_length,h2] at this;exact this
theorem jO (s:List UInt8):(wT s).spelt.length=s.length:=rfl
theorem jE (s:List UInt8):(mT s).spelt.length=s.length:=rfl
theorem ky (n:Int):(nT n).spelt.length=(Lib.itoa n).length:=rfl
theorem sE (n:Int) (h:cW n):1<=(Lib.itoa n).length:=by
 have:=(i6 (t:=nT n) (by unfold LTok.right nT;simp) h).2;exact this
theorem qQ:∀xs:List Int,(∀n∈xs,cW n)->(ak xs).length<=2*gF (fS xs)∧(ak xs).length=xs.length+gF (fS xs):=by
 intro xs;induction xs with
 |nil=>intro _;exact⟨Nat.le_refl _,rfl⟩
 |cons x xs ih=>
  intro h;obtain⟨i1,i2⟩:=ih (fun n hn=>h n (List.mem_cons_of_mem _ hn));have h1:=sE x (h x List.mem_cons_self);have e:ak (x::xs)=32::(Lib.itoa x++ak xs):=by unfold ak;simp
  have e2:fS (x::xs)=nT x::fS xs:=rfl;rw[e,e2,ek,ky];simp only[List.length_cons,List.length_append];omega
theorem qG {x:SIt} (hr:aP x=true) (hx:∀n∈x.xs,cW n):(bw x).length<=2*gF (fy x):=by
 obtain⟨h1,_⟩:=qQ x.xs hx;unfold aP at hr;unfold bw bP fy;split at hr
 ·rename_i hk;rw[if_pos hk,if_pos hk];simp only[cQ,ek,fW,jO,jE,List.length_append,List.length_cons,List.length_nil,fI];omega
 ·split at hr
  ·rename_i h1' hk;rw[if_neg h1',if_neg h1',if_pos hk,if_pos hk];unfold aD;by_cases hn:x.xs=[]
   ·rw[hn] at h1 ⊢;simp only[cQ,ek,fW,jO,jE,ky,List.length_append,List.length_cons,List.length_nil,hZ,if_pos];omega
   ·rw[if_neg hn,if_neg hn];simp only[cQ,ek,fW,jO,jE,ky,List.length_append,List.length_cons,List.length_nil,hZ,iR];omega
  ·split at hr
   ·rename_i h1' h2' hk;rw[if_neg h1',if_neg h1',if_neg h2',if_neg h2',if_pos hk,if_pos hk];unfold aD;simp only[Bool.and_eq_true] at hr;have hn:x.xs=[]:=by have:=hr.1.1.2;simpa using this
    rw[hn];simp only[cQ,ek,fW,jO,jE,ky,List.length_append,List.length_cons,List.length_nil,inW,ak,List.flatMap_nil];omega
   ·split at hr
    ·rename_i h1' h2' h3' hk;rw[if_neg h1',if_neg h1',if_neg h2',if_neg h2',if_neg h3',if_neg h3',if_pos hk];unfold aD;simp only[Bool.and_eq_true] at hr;have hn:x.xs=[]:=by have:=hr.1.1.2;simpa using this
     rw[hn];simp only[cQ,ek,fW,jO,jE,ky,List.length_append,List.length_cons,List.length_nil,ls,ak,List.flatMap_nil];omega
    ·cases hr
theorem oD:∀l:List SIt,(∀x∈l,aP x=true∧∀n∈x.xs,cW n)->(l.flatMap bw).length<=2*gF (l.flatMap fy):=by
 intro l;induction l with
 |nil=>intro _;exact Nat.le_refl _
 |cons x l ih=>
  intro h;have h1:=ih (fun y hy=>h y (List.mem_cons_of_mem _ hy));obtain⟨a,b⟩:=h x List.mem_cons_self;have h2:=qG a b;simp only[List.flatMap_cons,List.length_append,cQ];omega
theorem qA {l:List SIt} {x:SIt} (h:x∈l):(fy x).length<=(l.flatMap fy).length:=by
 induction l with
 |nil=>cases h
 |cons y l ih=>
  rw[List.flatMap_cons,List.length_append];rcases List.mem_cons.1 h with rfl|h
  ·omega
  ·have:=ih h;omega
theorem pS {x:SIt} (hr:aP x=true):x.xs.length<=(fy x).length∧1<=(fy x).length:=by
 have e:(fS x.xs).length=x.xs.length:=by unfold fS;simp
 unfold aP at hr;unfold fy;split
 ·simp only[List.length_append,List.length_cons,List.length_nil];omega
 ·split
  ·simp only[List.length_append,List.length_cons,List.length_nil];omega
  ·rename_i h1 h2;rw[if_neg h1,if_neg h2] at hr;have hn:x.xs=[]:=by
    split at hr
    ·simp only[Bool.and_eq_true] at hr;have:=hr.1.1.2;simpa using this
    ·split at hr
     ·simp only[Bool.and_eq_true] at hr;have:=hr.1.1.2;simpa using this
     ·cases hr
   rw[hn];split<;>simp
theorem oB:∀l:List SIt,(∀x∈l,aP x=true)->l.length<=(l.flatMap fy).length:=by
 intro l;induction l with
 |nil=>intro _;exact Nat.le_refl _
 |cons x l ih=>
  intro h;have h1:=ih (fun y hy=>h y (List.mem_cons_of_mem _ hy));have h2:=(pS (h x List.mem_cons_self)).2;rw[List.flatMap_cons,List.length_append,List.length_cons];omega
structure ReadOk (x:LSk) (n:Nat):Prop where
 nm:aM x.mem.name=true
 rt:x.mem.items.all aP=true
 bd:∀y∈x.mem.items,cW y.fp∧cW y.tp∧∀m∈y.xs,cW m
 ln:(bY x.mem).length<=2*n
 it:x.items.length<=n+1
 xl:∀y∈x.items,y.xs.length<=n+1
theorem oK {s:List UInt8} (h:eA s=true):s.length<=16:=by
 cases s with
 |nil=>simp
 |cons c r=>
  simp only[eA,Bool.and_eq_true,decide_eq_true_iff] at h;have:=h.2.2;simp only[List.length_cons];omega
theorem pM {s:List UInt8} {x:LSk} (h:dv s= .ok x):ReadOk x s.length∧s.length<=1048576:=by
 have hlen:s.length<=1048576:=by
  unfold dv at h;obtain⟨⟨l,c,k'⟩,hA⟩:∃r,dU s=r:=⟨_,rfl⟩
  rw[hA] at h;simp only at h;split at h
  ·cases h
  ·rename_i hc;rcases fA hA with⟨_,_,_,e,_⟩|⟨⟨e,_⟩|⟨e,_⟩,_⟩<;>omega
 refine⟨?_,hlen⟩;unfold dv at h;obtain⟨⟨l,c,k'⟩,hA⟩:∃r,dU s=r:=⟨_,rfl⟩
 rw[hA] at h;simp only at h;split at h
 ·cases h
 ·rename_i hc;have hA:dU s=(l,0,0):=by
   rcases fA hA with⟨rfl,rfl,_⟩|⟨⟨e,_⟩|⟨e,_⟩,_⟩
   ·exact hA
   ·omega
   ·omega
  split at h
  ·rename_i z m hp;cases h
   have hg:=um hA;obtain⟨⟨k,hsp⟩,hn,hit⟩:=tY hg hp;have hs1:gF (tkS x.mem)<=s.length:=by
    have e:=hsp.2;rw[List.drop_zero] at e;have:=congrArg gF e;rw[pg,cQ] at this;have h2:=uN hA;omega
   have htl:(tkS x.mem).length<=s.length+1:=by
    have h1:=hsp.le (Nat.zero_le _);have h2:=(kw (l:=s)).2;rw[hA] at h2;simp only at h2;omega
   have hrt:∀y∈x.mem.items,aP y=true∧∀n∈y.xs,cW n:=by
    intro y hy;obtain⟨z,hz,rfl⟩:=List.mem_map.1 hy;exact⟨(hit z hz).rt,(hit z hz).xs⟩
   have hfl:(x.mem.items.flatMap fy).length<=s.length+1:=by
    unfold tkS at htl;simp only[List.length_append,List.length_cons,List.length_nil] at htl;omega
   refine⟨dI hn,?_,?_,?_,?_,?_⟩
   ·rw[List.all_eq_true];exact fun y hy=>(hrt y hy).1
   ·intro y hy;obtain⟨z,hz,rfl⟩:=List.mem_map.1 hy;exact⟨(hit z hz).fp,(hit z hz).tp,(hit z hz).xs⟩
   ·have h1:=oD x.mem.items hrt;unfold tkS at hs1;unfold bY;simp only[cQ,ek,fW,jO,jE,fP,List.length_append,List.length_cons,List.length_nil] at hs1 ⊢;have h2:1<=x.mem.name.data.toList.length:=by
     have e:x.mem.name.data.toList=x.name:=by unfold LSk.mem;simp
     rw[e];cases hx:x.name with
     |nil=>rw[hx] at hn;cases hn
     |cons c r=>simp
    omega
   ·have h1:=oB x.mem.items (fun y hy=>(hrt y hy).1);have e:x.mem.items.length=x.items.length:=by unfold LSk.mem;simp
    omega
   ·intro y hy;have hm:IZ y∈x.mem.items:=List.mem_map.2 ⟨y,hy,rfl⟩;have h1:=qA hm;have h2:=(pS (hrt _ hm).1).1;have e:(IZ y).xs=y.xs:=rfl;rw[e] at h2;omega
  ·cases h
theorem ReadOk.bnd {x:LSk} {n:Nat} (h:ReadOk x n) (hn:n<=1048576):LBnd x:=by
 have hsz:∀s:ByteArray,aM s=true->s.data.toList.length<=16:=fun s hs=>oK (by rw[<-fi];exact hs)
 have hem:∀s:ByteArray,bL s=true->s.data.toList.length<=16:=fun s hs=>by rw[jh hs];simp
 have hba:∀(s:ByteArray) (p:Int),de s p=true->s.data.toList.length<=16:=fun s p hs=>by rw[(pY hs).1];simp
 refine⟨?_,?_,fun y hy=>?_,fun y hy=>?_⟩
 ·have:=hsz _ h.nm;have e:x.mem.name.data.toList=x.name:=by unfold LSk.mem;simp
  rw[e] at this;omega
 ·have:=h.it;omega
 ·have hm:IZ y∈x.mem.items:=List.mem_map.2 ⟨y,hy,rfl⟩;have hr:=List.all_eq_true.1 h.rt _ hm;have hx:=h.xl y hy;have e1:(IZ y).name.data.toList=y.name:=by unfold IZ LIt.mem;simp
  have e2:(IZ y).tag.data.toList=y.tag:=by unfold IZ LIt.mem;simp
  have e3:(IZ y).fn.data.toList=y.fr.name:=by unfold IZ LIt.mem;simp
  have e4:(IZ y).tn.data.toList=y.tu.name:=by unfold IZ LIt.mem;simp
  rw[<-e1,<-e2,<-e3,<-e4];have key:(IZ y).name.data.toList.length<=16∧(IZ y).tag.data.toList.length<=16∧(IZ y).fn.data.toList.length<=16∧(IZ y).tn.data.toList.length<=16:=by
   unfold aP at hr;split at hr
   ·simp only[Bool.and_eq_true] at hr;exact⟨hsz _ hr.1.1.1,hsz _ hr.1.1.2,hba _ _ hr.1.2,hba _ _ hr.2⟩
   ·split at hr
    ·simp only[Bool.and_eq_true] at hr;exact⟨hem _ hr.1.1.1,hem _ hr.1.1.2,hsz _ hr.1.2,hsz _ hr.2⟩
    ·split at hr
     ·simp only[Bool.and_eq_true] at hr;exact⟨hsz _ hr.1.1.1.1,hem _ hr.1.1.1.2,hba _ _ hr.1.2,hsz _ hr.2⟩
     ·split at hr
      ·simp only[Bool.and_eq_true] at hr;exact⟨hsz _ hr.1.1.1.1,hem _ hr.1.1.1.2,hsz _ hr.1.2,hba _ _ hr.2⟩
      ·cases hr
  omega
 ·have hm:IZ y∈x.mem.items:=List.mem_map.2 ⟨y,hy,rfl⟩;obtain⟨a,b,c⟩:=h.bd _ hm;exact⟨a,b,c⟩
end Go.Proofs.YtnedmonlofbahaaGreatDoor
